/- Next and step of package runes. -/
import Derived.Test.YtdomglkcfecnnaaGreatH1
namespace Go.Proofs.YtdomglkcfecnnaaGreat
open Go.RowKit Go.Shelf
/-- The bytes behind the first one: so many are left, the bounds of the next one. -/
def tl : Nat → Nat → Nat → Bs → Int → Option (Option Int)
  | 0, _, _, _, r => some (some r)
  | _ + 1, _, _, [], _ => none
  | k + 1, lo, hi, c :: t, r => if c.toNat < lo ∨ hi < c.toNat then some none else tl k 128 191 t (r * 64 + (c.toNat % 64 : Nat))
/-- The next rune: how many bytes it has; true: more bytes are asked for. -/
def nxtT (m : Nat) : Option (Option Int) → Int × Nat × Bool
  | none => (0, 0, true)
  | some none => (65533, 1, false)
  | some (some r) => (r, m, false)
def nxt : Bs → Int × Nat × Bool
  | [] => (0, 0, true)
  | c :: t => if (shp c.toNat).m = 0 then (65533, 1, false) else nxtT (shp c.toNat).m (tl ((shp c.toNat).m - 1) (shp c.toNat).lo (shp c.toNat).hi t (shp c.toNat).r)
/-- Bytes in memory. -/
def BytesAt (w : World) (b off : Nat) (l : Bs) : Prop := ∀ j, j < l.length → w.cell? ⟨b, off + j, none⟩ = some (.int .u8 (l.getD j 0).toNat)
theorem BytesAt.kept {w w' : World} {b off n : Nat} {l : Bs} (h : BytesAt w b off l) (hb : b < n) (hB : Below n w w') : BytesAt w' b off l := fun j hj => (hB.cell (p := ⟨b, off + j, none⟩) hb).trans (h j hj)
theorem BytesAt.drop {w : World} {b off : Nat} {l : Bs} (h : BytesAt w b off l) (k : Nat) : BytesAt w b (off + k) (l.drop k) := fun j hj => by
  have := h (k + j) (by simp at hj; omega)
  rw [Nat.add_assoc, this]
  simp [List.getD_eq_getElem?_getD, List.getElem?_drop]
theorem shp_small (c : Nat) (h : c < 256) : (shp c).m ≤ 4 ∧ (shp c).lo < 256 ∧ (shp c).hi < 256 ∧ 0 ≤ (shp c).r ∧ ((shp c).m = 1 ∧ (shp c).r < 128 ∨ (shp c).r < 32) := by
  have hall : ∀ c : Fin 256, (shp c.1).m ≤ 4 ∧ (shp c.1).lo < 256 ∧ (shp c.1).hi < 256 ∧ 0 ≤ (shp c.1).r ∧ ((shp c.1).m = 1 ∧ (shp c.1).r < 128 ∨ (shp c.1).r < 32) := by decide +kernel
  exact hall ⟨c, h⟩
def NextEnd (R : Int × Nat × Bool) (w : World) (e : Ending) (w' : World) : Prop := e = .returned (.tuple #[.int .i32 R.1, .int .i64 R.2.1, .bool R.2.2]) ∧ Below w.heap.size w w'
/-- What stands in Next's memory. -/
def NS (w : World) (b off p : Nat) (l : Bs) (s : Shp) (W : World) : Prop := ShpAt W p s ∧ BytesAt W b off l ∧ Below w.heap.size w W
theorem NS.drew {w : World} {b off p : Nat} {l : Bs} {s : Shp} {W : World} (h : NS w b off p l s W) (_hb : b < w.heap.size) : NS w b off p l s W.drew := ⟨h.1, h.2.1, h.2.2.drew⟩
set_option maxRecDepth 100000 in
set_option maxHeartbeats 4000000 in
theorem wnext (b off cap : Nat) (l : Bs) (hl : l.length ≤ cap) (hl2 : l.length ≤ 4611686018427387904) (hl0 : l ≠ []) (w : World) (hb : b < w.heap.size) (h : BytesAt w b off l) :
    Calls Tryz.prog 151 #[.slice (some ⟨b, off, none⟩) l.length cap] w (NextEnd (nxt l) w) := by
  obtain ⟨c, t, rfl⟩ := List.exists_cons_of_ne_nil hl0
  have HC := Lib.hid h
  have c0 : w.cell? ⟨b, off, none⟩ = some (.int .u8 c.toNat) := h 0 (by simp)
  have hcc : c.toNat < 256 := c.toNat_lt
  obtain ⟨R, hR⟩ : ∃ R, R = nxt (c :: t) := ⟨_, rfl⟩
  have HR := Lib.hid hR
  rw [← hR]
  clear hR h
  have HSH := Lib.hid (fun W => wshape c.toNat hcc W)
  have HSM := Lib.hid (shp_small c.toNat hcc)
  have HRR := Lib.hid (show nxt (c :: t) = if (shp c.toNat).m = 0 then (65533, 1, false) else nxtT (shp c.toNat).m (tl ((shp c.toNat).m - 1) (shp c.toNat).lo (shp c.toNat).hi t (shp c.toNat).r) from rfl)
  have HRQ := Lib.hid (HR.out.trans HRR.out)
  clear HR HRR
  obtain ⟨s, hs⟩ : ∃ s, s = shp c.toNat := ⟨_, rfl⟩
  rw [← hs] at HSH HSM HRQ
  clear hs
  obtain ⟨n, hn⟩ : ∃ n, n = (c :: t).length := ⟨_, rfl⟩
  have hn1 : 0 < n := by rw [hn]; simp
  have HN := Lib.hid hn
  rw [← hn] at hl hl2 ⊢
  clear hn hl0
  obtain ⟨C, hC⟩ : ∃ C, C = c.toNat := ⟨_, rfl⟩
  rw [← hC] at c0 HSH hcc
  clear hC
  obtain ⟨m, lo, hi, r⟩ := s
  unfold Shp.v Shp.cells at HSH
  simp only [] at HSH HSM HRQ
  have k0 : (0 : Int) < (n : Int) := by omega
  have k1 : ((n : Int) == 0) = false := by rw [beq_eq_false_iff_ne]; omega
  go_enter Tryz.func151, Tryz.ntmps151
  go_wp2_with (first | (go_at_call 157; fail))
  go_at_call 157
  refine (HSH.out _).mono ?_
  rintro e w1 ⟨rfl, hb1⟩
  have H2 : Hid (ShpAt (w1.alloc (.cells #[.int .i64 m, .int .u8 lo, .int .u8 hi, .int .i32 r] 235)) w1.heap.size ⟨m, lo, hi, r⟩ ∧ BytesAt (w1.alloc (.cells #[.int .i64 m, .int .u8 lo, .int .u8 hi, .int .i32 r] 235)) b off (c :: t) ∧ Below w.heap.size w (w1.alloc (.cells #[.int .i64 m, .int .u8 lo, .int .u8 hi, .int .i32 r] 235))) := by
    have hbb := hb1.alloc hb1.size (.cells #[.int .i64 m, .int .u8 lo, .int .u8 hi, .int .i32 r] 235)
    exact Lib.hid ⟨heap_alloc_new _ _, HC.out.kept hb hbb, hbb⟩
  clear hb1 HSH c0
  go_upto_region 4 with (fail)
  generalize w1.alloc (.cells #[.int .i64 m, .int .u8 lo, .int .u8 hi, .int .i32 r] 235) = w2 at H2 ⊢
  obtain ⟨p, hp⟩ : ∃ p, p = w1.heap.size := ⟨_, rfl⟩
  rw [← hp] at H2 ⊢
  clear hp
  obtain ⟨c0, c1, c2, c3⟩ := H2.out.1.get
  simp only [] at c0 c1 c2 c3
  by_cases hm : m = 0
  · subst hm
    have HV : Hid (R = (65533, 1, false)) := Lib.hid HRQ.out
    clear HRQ
    go_wp2
    go_ret3
    rw [HV.out]
    exact ⟨rfl, H2.out.2.2⟩
  · have HV : Hid (R = nxtT m (tl (m - 1) lo hi t r)) := Lib.hid (by have := HRQ.out; rwa [if_neg hm] at this)
    clear HRQ
    have hm4 := HSM.out.1
    have mb : ((m : Int) == 0) = false := by rw [beq_eq_false_iff_ne]; omega
    go_wp2
    go_loopw [2, 6] (fun vr vi wr => ∃ (i : Nat) (q : Int), vi = .int .i64 i ∧ vr = .int .i32 q ∧ 1 ≤ i ∧ i ≤ m ∧ i ≤ n ∧ 0 ≤ q ∧ (i = 1 → m ≠ 1 → q < 32) ∧ (i = 2 → q < 2048) ∧ (i = 3 → q < 131072) ∧ (i = 4 → q < 8388608) ∧ Hid (nxtT m (tl (m - i) (if i = 1 then lo else 128) (if i = 1 then hi else 191) ((c :: t).drop i) q) = R ∧ NS w b off p (c :: t) ⟨m, lo, hi, r⟩ wr)) (fun _ vi _ => 4 - (intOf vi).toNat)
    case atStart => exact ⟨1, r, rfl, rfl, by omega, by omega, by omega, HSM.out.2.2.2.1, fun _ h => (by have := HSM.out.2.2.2.2; omega), by omega, by omega, by omega, Lib.hid ⟨HV.out.symm, H2.out⟩⟩
    case round =>
      clear HV H2
      obtain ⟨i, q, rfl, rfl, h1i, him, hin, h0q, hq1, hq2, hq3, hq4, HTW⟩ := hrel
      have HT := Lib.hid HTW.out.1
      have HW := Lib.hid HTW.out.2
      clear HTW c0 c1 c2 c3
      obtain ⟨c0, c1, c2, c3⟩ := HW.out.1.get
      simp only [] at c0 c1 c2 c3
      by_cases hi' : i < m
      · by_cases hin2 : i < n
        · have hit : i < (c :: t).length := by have := HN.out; omega
          have hdr : (c :: t).drop i = ((c :: t).getD i 0) :: (c :: t).drop (i + 1) := by
            rw [List.drop_eq_getElem_cons hit, List.getD_eq_getElem?_getD, List.getElem?_eq_getElem hit]; rfl
          have cx := HW.out.2.1 i hit
          have ht := HT.out
          rw [hdr, show m - i = (m - i - 1) + 1 by omega] at ht
          obtain ⟨x, hxx⟩ : ∃ x, x = (c :: t).getD i 0 := ⟨_, rfl⟩
          rw [← hxx] at cx ht
          have hX : x.toNat < 256 := x.toNat_lt
          unfold tl at ht
          obtain ⟨X, hXX⟩ : ∃ X, X = x.toNat := ⟨_, rfl⟩
          rw [← hXX] at cx ht hX
          clear hXX hxx hdr hit HT
          have HT := Lib.hid ht
          clear ht
          have j0 : (0 : Int) ≤ (i : Int) := by omega
          have j1 : (i : Int) < (n : Int) := by omega
          have hq8 : q < 131072 := by
            have h4 : i = 1 ∨ i = 2 ∨ i = 3 := by omega
            rcases h4 with h | h | h
            · have := hq1 h (by omega); omega
            · have := hq2 h; omega
            · exact hq3 h
          by_cases h1 : i = 1
          · have b1 : ((i : Int) == 1) = true := by rw [beq_iff_eq]; omega
            simp only [if_pos h1] at HT
            have HWD : Hid (NS w b off p (c :: t) ⟨m, lo, hi, r⟩ wr.drew) := Lib.hid (HW.out.drew hb)
            have cx2 : wr.drew.cell? ⟨b, off + 1, none⟩ = some (.int .u8 X) := by have := cx; rw [h1] at this; exact this
            go_upto_region 14 with (fail)
            go_region
            all_goals
              by_cases hx : X < lo ∨ hi < X
              · have HV : Hid (R = (65533, 1, false)) := Lib.hid (by have := HT.out; rw [if_pos hx] at this; exact this.symm)
                clear HT
                by_cases hx1 : X < lo
                · go_wp2
                  go_ret3
                  rw [HV.out]
                  exact ⟨rfl, HWD.out.2.2⟩
                · have hx2 : hi < X := by omega
                  go_wp2
                  go_ret3
                  rw [HV.out]
                  exact ⟨rfl, HWD.out.2.2⟩
              · have HV : Hid (nxtT m (tl (m - (i + 1)) 128 191 ((c :: t).drop (i + 1)) (q * 64 + (X % 64 : Nat))) = R) := Lib.hid (by have := HT.out; rw [if_neg hx] at this; rw [show m - (i + 1) = m - i - 1 by omega]; exact this)
                have hx1 : ¬ X < lo := by omega
                have hx2 : ¬ hi < X := by omega
                clear HT hx
                go_wp2
                go_roundw
                case rel => exact ⟨i + 1, q * 64 + (X % 64 : Nat), by go_num, by go_num, by omega, by omega, by omega, by omega, by omega, by omega, by omega, by omega, Lib.hid ⟨(by rw [if_neg (show ¬ i + 1 = 1 by omega), if_neg (show ¬ i + 1 = 1 by omega)]; exact HV.out), HWD.out⟩⟩
                case measure => simp [intOf]; omega
          · have b1 : ((i : Int) == 1) = false := by rw [beq_eq_false_iff_ne]; omega
            simp only [if_neg h1] at HT
            by_cases hx : X < 128 ∨ 191 < X
            · have HV : Hid (R = (65533, 1, false)) := Lib.hid (by have := HT.out; rw [if_pos hx] at this; exact this.symm)
              clear HT
              by_cases hx1 : X < 128
              · go_wp2
                go_ret3
                rw [HV.out]
                exact ⟨rfl, HW.out.2.2⟩
              · have hx2 : 191 < X := by omega
                go_wp2
                go_ret3
                rw [HV.out]
                exact ⟨rfl, HW.out.2.2⟩
            · have HV : Hid (nxtT m (tl (m - (i + 1)) 128 191 ((c :: t).drop (i + 1)) (q * 64 + (X % 64 : Nat))) = R) := Lib.hid (by have := HT.out; rw [if_neg hx] at this; rw [show m - (i + 1) = m - i - 1 by omega]; exact this)
              have hx1 : ¬ X < 128 := by omega
              have hx2 : ¬ 191 < X := by omega
              clear HT hx
              go_wp2
              go_roundw
              case rel => exact ⟨i + 1, q * 64 + (X % 64 : Nat), by go_num, by go_num, by omega, by omega, by omega, by omega, by omega, by omega, by omega, by omega, Lib.hid ⟨(by rw [if_neg (show ¬ i + 1 = 1 by omega), if_neg (show ¬ i + 1 = 1 by omega)]; exact HV.out), HW.out⟩⟩
              case measure => simp [intOf]; omega
        · have hni : i = n := by omega
          have hdr : (c :: t).drop i = [] := List.drop_eq_nil_of_le (by have := HN.out; omega)
          have HV : Hid (R = (0, 0, true)) := Lib.hid (by
            have := HT.out
            rw [hdr, show m - i = (m - i - 1) + 1 by omega] at this
            exact this.symm)
          clear HT hdr
          go_wp2
          go_ret3
          rw [HV.out]
          exact ⟨rfl, HW.out.2.2⟩
      · obtain rfl : i = m := by omega
        have HV : Hid (R = (q, i, false)) := Lib.hid (by
          have := HT.out
          rw [Nat.sub_self] at this
          exact this.symm)
        clear HT
        go_upto_region 18 with (fail)
        go_region
        all_goals
          go_wp2
          go_ret3
          rw [HV.out]
          exact ⟨rfl, HW.out.2.2.drew⟩
end Go.Proofs.YtdomglkcfecnnaaGreat
