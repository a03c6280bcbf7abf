/- step, Bytes and the small questions of runes. -/
import Derived.Test.YtdomglkcfecnnaaGreatH2
namespace Go.Proofs.YtdomglkcfecnnaaGreat
open Go.RowKit Go.Shelf
/-- The next rune, and how many bytes go with it. -/
def stp (b : Bs) : Int × Nat := if (nxt b).2.2 = true then (65533, 1) else ((nxt b).1, (nxt b).2.1)
theorem wstep (b off cap : Nat) (l : Bs) (hl : l.length ≤ cap) (hl2 : l.length ≤ 4611686018427387904) (hl0 : l ≠ []) (w : World) (hb : b < w.heap.size) (h : BytesAt w b off l) :
    Calls Tryz.prog 141 #[.slice (some ⟨b, off, none⟩) l.length cap] w fun e w' => e = .returned (.tuple #[.int .i32 (stp l).1, .int .i64 (stp l).2]) ∧ Below w.heap.size w w' := by
  have HN := Lib.hid (wnext b off cap l hl hl2 hl0 w hb h)
  unfold NextEnd at HN
  have HS := Lib.hid (show stp l = if (nxt l).2.2 = true then (65533, 1) else ((nxt l).1, (nxt l).2.1) from rfl)
  obtain ⟨⟨r, n, m⟩, hR⟩ : ∃ R, R = nxt l := ⟨_, rfl⟩
  rw [← hR] at HN HS
  obtain ⟨S, hSS⟩ : ∃ S, S = stp l := ⟨_, rfl⟩
  rw [← hSS] at HS ⊢
  clear hR hSS h
  simp only [] at HN HS
  go_enter Tryz.func141, Tryz.ntmps141
  go_wp2_with (first | (go_at_call 151; fail))
  go_at_call 151
  refine HN.out.mono ?_
  rintro e w1 ⟨rfl, hb1⟩
  cases m
  · have HV : Hid (S = (r, n)) := Lib.hid (by simpa using HS.out)
    clear HS
    go_wp2
    go_ret2
    rw [HV.out]
    exact ⟨rfl, hb1⟩
  · have HV : Hid (S = (65533, 1)) := Lib.hid (by simpa using HS.out)
    clear HS
    go_wp2
    go_ret2
    rw [HV.out]
    exact ⟨rfl, hb1⟩
/-- Is it a rune? -/
def isR (r : Int) : Bool := decide (0 ≤ r ∧ r ≤ 1114111 ∧ (r < 55296 ∨ 57343 < r))
def ctl (r : Int) : Bool := decide (0 ≤ r ∧ r ≤ 31 ∨ 127 ≤ r ∧ r ≤ 159)
theorem wisR (r : Int) (w : World) : Calls Tryz.prog 143 #[.int .i32 r] w fun e w' => e = .returned (.bool (isR r)) ∧ w = w' := by
  by_cases h1 : 0 ≤ r
  · by_cases h2 : r ≤ 1114111
    · by_cases h3 : r < 55296
      · have HV := Lib.hid (show isR r = true by unfold isR; rw [decide_eq_true_iff]; omega)
        go_enter Tryz.func143, Tryz.ntmps143
        go_wp2
        go_ret
        exact ⟨ret_bool HV.out.symm, rfl⟩
      · have HV := Lib.hid (show isR r = decide (57343 < r) by unfold isR; rw [decide_eq_decide]; omega)
        go_enter Tryz.func143, Tryz.ntmps143
        go_wp2
        go_ret
        exact ⟨ret_bool HV.out.symm, rfl⟩
    · have HV := Lib.hid (show isR r = false by unfold isR; rw [decide_eq_false_iff_not]; omega)
      go_enter Tryz.func143, Tryz.ntmps143
      go_wp2
      go_ret
      exact ⟨ret_bool HV.out.symm, rfl⟩
  · have HV := Lib.hid (show isR r = false by unfold isR; rw [decide_eq_false_iff_not]; omega)
    go_enter Tryz.func143, Tryz.ntmps143
    go_wp2
    go_ret
    exact ⟨ret_bool HV.out.symm, rfl⟩
theorem wis (r : Int) (w : World) : Calls Tryz.prog 152 #[.int .i32 r] w fun e w' => e = .returned (.bool (isR r)) ∧ w = w' := by
  by_cases h1 : 0 ≤ r
  · by_cases h2 : r ≤ 1114111
    · by_cases h3 : r < 55296
      · have HV := Lib.hid (show isR r = true by unfold isR; rw [decide_eq_true_iff]; omega)
        go_enter Tryz.func152, Tryz.ntmps152
        go_wp2
        go_ret
        exact ⟨ret_bool HV.out.symm, rfl⟩
      · have HV := Lib.hid (show isR r = decide (57343 < r) by unfold isR; rw [decide_eq_decide]; omega)
        go_enter Tryz.func152, Tryz.ntmps152
        go_wp2
        go_ret
        exact ⟨ret_bool HV.out.symm, rfl⟩
    · have HV := Lib.hid (show isR r = false by unfold isR; rw [decide_eq_false_iff_not]; omega)
      go_enter Tryz.func152, Tryz.ntmps152
      go_wp2
      go_ret
      exact ⟨ret_bool HV.out.symm, rfl⟩
  · have HV := Lib.hid (show isR r = false by unfold isR; rw [decide_eq_false_iff_not]; omega)
    go_enter Tryz.func152, Tryz.ntmps152
    go_wp2
    go_ret
    exact ⟨ret_bool HV.out.symm, rfl⟩
theorem wctl (r : Int) (w : World) : Calls Tryz.prog 96 #[.int .i32 r] w fun e w' => e = .returned (.bool (ctl r)) ∧ w = w' := by
  by_cases h1 : 0 ≤ r
  · by_cases h2 : r ≤ 31
    · have HV := Lib.hid (show ctl r = true by unfold ctl; rw [decide_eq_true_iff]; omega)
      go_enter Tryz.func96, Tryz.ntmps96
      go_wp2
      go_ret
      exact ⟨ret_bool HV.out.symm, rfl⟩
    · by_cases h3 : 127 ≤ r
      · have HV := Lib.hid (show ctl r = decide (r ≤ 159) by unfold ctl; rw [decide_eq_decide]; omega)
        go_enter Tryz.func96, Tryz.ntmps96
        go_wp2
        go_ret
        exact ⟨ret_bool HV.out.symm, rfl⟩
      · have HV := Lib.hid (show ctl r = false by unfold ctl; rw [decide_eq_false_iff_not]; omega)
        go_enter Tryz.func96, Tryz.ntmps96
        go_wp2
        go_ret
        exact ⟨ret_bool HV.out.symm, rfl⟩
  · have HV := Lib.hid (show ctl r = false by unfold ctl; rw [decide_eq_false_iff_not]; omega)
    have h3 : ¬ 127 ≤ r := by omega
    go_enter Tryz.func96, Tryz.ntmps96
    go_wp2
    go_ret
    exact ⟨ret_bool HV.out.symm, rfl⟩
/-- A rune's bytes. -/
def by8 (x : Int) : UInt8 := UInt8.ofNat x.toNat
def rb0 (r : Int) : Bs := if r < 128 then [by8 r] else if r < 2048 then [by8 (192 + r / 64), by8 (128 + r % 64)] else if r < 65536 then [by8 (224 + r / 4096), by8 (128 + r / 64 % 64), by8 (128 + r % 64)]
  else [by8 (240 + r / 262144), by8 (128 + r / 4096 % 64), by8 (128 + r / 64 % 64), by8 (128 + r % 64)]
def rb (r : Int) : Bs := rb0 (if isR r = true then r else 65533)
theorem wsix0 (r : Int) (w : World) : Calls Tryz.prog 144 #[.int .i32 r, .int .u64 0] w fun e w' => e = .returned (.int .u8 (128 + r % 64)) ∧ w = w' := by
  have := wsix r 0 (by omega) w
  simpa using this
theorem wsix6 (r : Int) (w : World) : Calls Tryz.prog 144 #[.int .i32 r, .int .u64 6] w fun e w' => e = .returned (.int .u8 (128 + r / 64 % 64)) ∧ w = w' := wsix r 6 (by omega) w
theorem wsix12 (r : Int) (w : World) : Calls Tryz.prog 144 #[.int .i32 r, .int .u64 12] w fun e w' => e = .returned (.int .u8 (128 + r / 4096 % 64)) ∧ w = w' := wsix r 12 (by omega) w
theorem by8_v (x : Int) (h : 0 ≤ x) (h2 : x < 256) : Value.int .u8 x = .int .u8 (by8 x).toNat := by
  unfold by8
  have : (UInt8.ofNat x.toNat).toNat = x.toNat := by rw [UInt8.toNat_ofNat']; omega
  rw [this]
  congr 1
  omega
def BytesEnd (l : Bs) (w : World) (e : Ending) (w' : World) : Prop := ∃ g, e = .returned (.slice (some ⟨g, 0, none⟩) l.length l.length) ∧ w'.heap[g]? = some (.cells (Lib.byteCells l).toArray 5 (0, 0)) ∧ w.heap.size ≤ g ∧ Below w.heap.size w w'
set_option maxRecDepth 100000 in
set_option maxHeartbeats 4000000 in
theorem wbytes (r : Int) (w : World) : Calls Tryz.prog 127 #[.int .i32 r] w (BytesEnd (rb r) w) := by
  have HI := Lib.hid (wisR r)
  have HR := Lib.hid (show rb r = rb0 (if isR r = true then r else 65533) from rfl)
  obtain ⟨I, hI⟩ : ∃ I, I = isR r := ⟨_, rfl⟩
  have HQ := Lib.hid (show I = true → 0 ≤ r ∧ r ≤ 1114111 from fun h => by rw [hI] at h; unfold isR at h; rw [decide_eq_true_iff] at h; omega)
  obtain ⟨L, hL⟩ : ∃ L, L = rb r := ⟨_, rfl⟩
  rw [← hI] at HI HR
  rw [← hL] at HR ⊢
  clear hI hL
  cases I
  · have HV : Hid (L = [239, 191, 189]) := Lib.hid (HR.out.trans (by rw [if_neg (by decide)]; decide))
    go_enter Tryz.func127, Tryz.ntmps127
    go_wp2_with (first | (go_at_call 143; (with_reducible refine (HI.out _).mono ?_); rintro e w' ⟨rfl, rfl⟩) | (go_at_call 144; (first | (with_reducible refine (wsix0 65533 _).mono ?_) | (with_reducible refine (wsix6 65533 _).mono ?_)); rintro e w' ⟨rfl, rfl⟩))
    go_ret
    rw [HV.out]
    exact ⟨w.heap.size, rfl, heap_alloc_new _ _, Nat.le_refl _, (Below.refl _ _).alloc (Nat.le_refl _) _⟩
  · obtain ⟨h0, hm⟩ := HQ.out rfl
    have hr := HR.out
    rw [if_pos rfl] at hr
    clear HR HQ
    by_cases h1 : r < 128
    · have HV : Hid (L = [by8 r]) := Lib.hid (hr.trans (by unfold rb0; rw [if_pos h1]))
      have HE : Hid ((Lib.byteCells [by8 r]).toArray = #[.int .u8 (r)]) := Lib.hid (by
        simp only [Lib.byteCells, List.map]
        rw [← by8_v (r) (by omega) (by omega)])
      clear hr
      go_enter Tryz.func127, Tryz.ntmps127
      go_wp2_with (first | (go_at_call 143; (with_reducible refine (HI.out _).mono ?_); rintro e w' ⟨rfl, rfl⟩) | (go_at_call 144; (first | (with_reducible refine (wsix0 r _).mono ?_) | (with_reducible refine (wsix6 r _).mono ?_) | (with_reducible refine (wsix12 r _).mono ?_)); rintro e w' ⟨rfl, rfl⟩))
      go_ret
      rw [HV.out]
      exact ⟨w.heap.size, rfl, (by rw [HE.out]; exact heap_alloc_new _ _), Nat.le_refl _, (Below.refl _ _).alloc (Nat.le_refl _) _⟩
    · skip
      by_cases h2 : r < 2048
      · have HV : Hid (L = [by8 (192 + r / 64), by8 (128 + r % 64)]) := Lib.hid (hr.trans (by unfold rb0; rw [if_neg h1, if_pos h2]))
        have HE : Hid ((Lib.byteCells [by8 (192 + r / 64), by8 (128 + r % 64)]).toArray = #[.int .u8 (192 + r / 64), .int .u8 (128 + r % 64)]) := Lib.hid (by
          simp only [Lib.byteCells, List.map]
          rw [← by8_v (192 + r / 64) (by omega) (by omega)]
          rw [← by8_v (128 + r % 64) (by omega) (by omega)])
        clear hr
        go_enter Tryz.func127, Tryz.ntmps127
        go_wp2_with (first | (go_at_call 143; (with_reducible refine (HI.out _).mono ?_); rintro e w' ⟨rfl, rfl⟩) | (go_at_call 144; (first | (with_reducible refine (wsix0 r _).mono ?_) | (with_reducible refine (wsix6 r _).mono ?_) | (with_reducible refine (wsix12 r _).mono ?_)); rintro e w' ⟨rfl, rfl⟩))
        go_ret
        rw [HV.out]
        exact ⟨w.heap.size, rfl, (by rw [HE.out]; exact heap_alloc_new _ _), Nat.le_refl _, (Below.refl _ _).alloc (Nat.le_refl _) _⟩
      · skip
        by_cases h3 : r < 65536
        · have HV : Hid (L = [by8 (224 + r / 4096), by8 (128 + r / 64 % 64), by8 (128 + r % 64)]) := Lib.hid (hr.trans (by unfold rb0; rw [if_neg h1, if_neg h2, if_pos h3]))
          have HE : Hid ((Lib.byteCells [by8 (224 + r / 4096), by8 (128 + r / 64 % 64), by8 (128 + r % 64)]).toArray = #[.int .u8 (224 + r / 4096), .int .u8 (128 + r / 64 % 64), .int .u8 (128 + r % 64)]) := Lib.hid (by
            simp only [Lib.byteCells, List.map]
            rw [← by8_v (224 + r / 4096) (by omega) (by omega)]
            rw [← by8_v (128 + r / 64 % 64) (by omega) (by omega)]
            rw [← by8_v (128 + r % 64) (by omega) (by omega)])
          clear hr
          go_enter Tryz.func127, Tryz.ntmps127
          go_wp2_with (first | (go_at_call 143; (with_reducible refine (HI.out _).mono ?_); rintro e w' ⟨rfl, rfl⟩) | (go_at_call 144; (first | (with_reducible refine (wsix0 r _).mono ?_) | (with_reducible refine (wsix6 r _).mono ?_) | (with_reducible refine (wsix12 r _).mono ?_)); rintro e w' ⟨rfl, rfl⟩))
          go_ret
          rw [HV.out]
          exact ⟨w.heap.size, rfl, (by rw [HE.out]; exact heap_alloc_new _ _), Nat.le_refl _, (Below.refl _ _).alloc (Nat.le_refl _) _⟩
        · have HV : Hid (L = [by8 (240 + r / 262144), by8 (128 + r / 4096 % 64), by8 (128 + r / 64 % 64), by8 (128 + r % 64)]) := Lib.hid (hr.trans (by unfold rb0; rw [if_neg h1, if_neg h2, if_neg h3]))
          have HE : Hid ((Lib.byteCells [by8 (240 + r / 262144), by8 (128 + r / 4096 % 64), by8 (128 + r / 64 % 64), by8 (128 + r % 64)]).toArray = #[.int .u8 (240 + r / 262144), .int .u8 (128 + r / 4096 % 64), .int .u8 (128 + r / 64 % 64), .int .u8 (128 + r % 64)]) := Lib.hid (by
            simp only [Lib.byteCells, List.map]
            rw [← by8_v (240 + r / 262144) (by omega) (by omega)]
            rw [← by8_v (128 + r / 4096 % 64) (by omega) (by omega)]
            rw [← by8_v (128 + r / 64 % 64) (by omega) (by omega)]
            rw [← by8_v (128 + r % 64) (by omega) (by omega)])
          clear hr
          go_enter Tryz.func127, Tryz.ntmps127
          go_wp2_with (first | (go_at_call 143; (with_reducible refine (HI.out _).mono ?_); rintro e w' ⟨rfl, rfl⟩) | (go_at_call 144; (first | (with_reducible refine (wsix0 r _).mono ?_) | (with_reducible refine (wsix6 r _).mono ?_) | (with_reducible refine (wsix12 r _).mono ?_)); rintro e w' ⟨rfl, rfl⟩))
          go_ret
          rw [HV.out]
          exact ⟨w.heap.size, rfl, (by rw [HE.out]; exact heap_alloc_new _ _), Nat.le_refl _, (Below.refl _ _).alloc (Nat.le_refl _) _⟩
end Go.Proofs.YtdomglkcfecnnaaGreat
