/- Walk: the law HistoryFinds. -/
import Derived.Test.YtbaljpamhmbcjaaJ2
import Derived.Shelf.Vars
import Derived.HandedShaped
namespace Go.Proofs.Ytbaljpamhmbcjaa
open Go.RowKit Go.Shelf
theorem maxLn_of {w : World} (h : w.ShapedOpen Try.prog) : MaxLn w :=
  Go.Proofs.cell_of_shapedOpen_int (zero := #[.int .i64 0]) (t := 3) h (of_decide_eq_true (by kernel_rfl)) (by kernel_rfl) rfl (by kernel_rfl) (by kernel_rfl) Try.underlying3
theorem findO_all (L : List Bs) : findO L [] 0 = if L.length = 0 then none else some 0 := by
  split
  · exact findO_none (fun j hj => by omega)
  · refine findO_some (by omega) ?_ (fun j hj => by omega)
    unfold hitB
    rw [decide_eq_true (by simp), contains_hit (i := 0) (Nat.zero_le _) (by simp [Lib.occAt])]
    rfl
def rZero (x : Option Addr) (n c : Nat) : Array Value := #[.int .i64 0, .slice x n c, .bool false, .string ⟨#[]⟩, .string ⟨#[]⟩, .int .i64 0]
/-- What stands behind told. -/
structure FiI (w : World) (r : Nat) (L : List Bs) (x : Option Addr) (c : Nat) (ly : Option Addr) (lc : Nat) (W : World) : Prop where
  his : His W w.heap.size 30 L Wk.no x c
  row : RowL W ly lc L
  rb : W.heap[r]? = some (.cells (rZero ly L.length lc) 41 (0, 0))
  bel : Below w.heap.size w W
theorem FiI.below {w : World} {r : Nat} {L : List Bs} {x : Option Addr} {c : Nat} {ly : Option Addr} {lc : Nat} {W W' : World} (h : FiI w r L x c ly lc W) (hb : Below W.heap.size W W') : FiI w r L x c ly lc W' :=
  ⟨h.his.below hb, h.row.below hb, (hb.block r (Array.getElem?_eq_some_iff.1 h.rb).1).trans h.rb, h.bel.trans (below_le hb h.bel.size)⟩
set_option maxRecDepth 100000 in
set_option maxHeartbeats 4000000 in
theorem finds_any (x0 : Option Addr) (n0 c0 : Nat) (ss : List Bs) (tt : Bs) (fr : Int) (w : World) (hc0 : n0 ≤ c0) (hss : StrsV w x0 n0 ss) (hml : MaxLn w) : Calls Try.prog 5 #[.slice x0 n0 c0, .string (tx tt), .int .i64 fr] w fun e w' => e = .returned (.bool true) ∧ Below w.heap.size w w' := by
  have HML := Lib.hid hml
  have h0l := Lib.hid hml.lt
  have HFI := Lib.hid (wfilled 30 (by omega) (by omega) x0 n0 c0 hc0 ss w hss)
  have HC1 := Lib.hid (fun W => wcut60 tt W)
  obtain ⟨t, ht⟩ : ∃ d, d = tt.take 60 := ⟨_, rfl⟩
  have htl : t.length ≤ 60 := by rw [ht]; simp; omega
  rw [← ht] at HC1
  have hG := fillS_good 30 ss
  obtain ⟨L, hL⟩ : ∃ L, L = fillS 30 ss := ⟨_, rfl⟩
  rw [← hL] at HFI hG
  have HGD := Lib.hid hG
  have HFD := Lib.hid (fun W (k : Wk) x c (hW : His W w.heap.size (30 : Nat) L k x c) (hm : MaxLn W) => wHfind w.heap.size 30 (by omega) L (by have := hG.1; omega) hG.2.1 k x c t fr W hW hm)
  have HFE := Lib.hid (fun W (k : Wk) x c (hW : His W w.heap.size (30 : Nat) L k x c) (hm : MaxLn W) => wHfind w.heap.size 30 (by omega) L (by have := hG.1; omega) hG.2.1 k x c [] 0 W hW hm)
  have HRF := Lib.hid (fun W x c (hx : SeesL W x c L) => wrfind 0 x c false ⟨#[]⟩ ⟨#[]⟩ 0 L (by have := hG.1; omega) hG.2.1 t (by omega) fr W hx)
  rw [findO_all] at HFE
  have e0 : tx [] = ⟨#[]⟩ := rfl
  rw [e0] at HFE
  clear e0
  obtain ⟨F, hF⟩ : ∃ F, F = findO L t fr := ⟨_, rfl⟩
  rw [← hF] at HFD HRF
  obtain ⟨T1, hT1⟩ : ∃ T, T = tx tt := ⟨_, rfl⟩
  obtain ⟨T, hT⟩ : ∃ T, T = tx t := ⟨_, rfl⟩
  rw [← hT1, ← hT] at HC1
  rw [← hT] at HFD HRF
  rw [← hT1]
  obtain ⟨n, hn⟩ : ∃ n, n = L.length := ⟨_, rfl⟩
  have HN := Lib.hid hn
  rw [← hn] at HFE HRF
  unfold nxE at HFD HFE HRF
  clear hss ht hL hT1 hT hG hF hn htl hml
  go_enter Try.func5, Try.ntmps5
  go_wp2_with (first | (go_at_call 7; fail))
  go_at_call 7
  refine HFI.out.mono ?_
  rintro e w1 ⟨rfl, ⟨x, c, hh1⟩, hb1⟩
  have H1 := Lib.hid (And.intro hh1 hb1)
  clear hh1 hb1 HFI
  have hba := (Below.refl w1.heap.size w1).alloc (Nat.le_refl _) (.cells (rZero none 0 0) 41)
  have H2 := Lib.hid (And.intro (H1.out.1.below hba) (And.intro (H1.out.2.trans (below_le hba H1.out.2.size)) (heap_alloc_new w1 (.cells (rZero none 0 0) 41))))
  unfold rZero at H2
  have HTO := Lib.hid (wHtold w.heap.size 30 (by omega) L (by have := HGD.out.1; omega) _ x c 1000 (by omega) _ H2.out.1)
  rw [show ((1000 : Nat) : Int) = 1000 from rfl] at HTO
  unfold ToldH at HTO
  rw [List.take_of_length_le (by have := HGD.out.1; omega)] at HTO
  clear hba
  go_wp2_with (first | (go_at_call 11; fail))
  go_at_call 11
  refine HTO.out.mono ?_
  rintro e w4 ⟨ly, lc, rfl, ha4, hb4⟩
  have hr4 := (hb4.block w1.heap.size (by simp)).trans H2.out.2.2
  have c41 : w4.cell? ⟨w1.heap.size, 1, none⟩ = some (.slice none 0 0) := by simp [World.cell?, hr4]
  have f41 : w4.frozen? ⟨w1.heap.size, 1, none⟩ = false := by simp [World.frozen?, hr4]
  have hh4 := H2.out.1.below hb4
  have hwr : w.heap.size < w1.heap.size := H1.out.1.lt
  have H5 : Hid (FiI w w1.heap.size L x c ly lc (w4.setCell ⟨w1.heap.size, 1, none⟩ (.slice ly L.length lc))) := Lib.hid ⟨hh4.setO _ (by omega) (fun j hj e => by
      obtain ⟨_, cur, hc⟩ := hh4.row.lt j hj
      rw [e, hr4] at hc
      cases hc), ha4.kept (fun j hj => set_other (fun e => by
      obtain ⟨_, cur, hc⟩ := ha4.lt j hj
      rw [e, hr4] at hc
      cases hc)), set_block hr4 _, (H2.out.2.1.trans (below_le hb4 H2.out.2.1.size)).setCell (p := ⟨w1.heap.size, 1, none⟩) (by show w.heap.size ≤ w1.heap.size; omega) _⟩
  rw [← HN.out] at H5 ⊢
  clear ha4 hb4 hr4 hh4 H1 H2 HTO hwr
  obtain ⟨r, hr⟩ : ∃ r, r = w1.heap.size := ⟨_, rfl⟩
  rw [← hr] at H5 c41 f41 ⊢
  clear hr
  go_wp2_with (first | (go_at_call 8; ((with_reducible refine (HC1.out _).mono ?_); rintro e w' ⟨rfl, rfl⟩)) | (go_at_call 23; fail))
  go_at_call 23
  refine (HFD.out _ _ _ _ H5.out.his (HML.out.kept h0l.out H5.out.bel)).mono ?_
  rintro e w6 ⟨rfl, hb6⟩
  have H6 := Lib.hid (H5.out.below hb6)
  clear hb6 H5 c41 f41
  have hrb := H6.out.rb
  rw [← HN.out] at hrb
  unfold rZero at hrb
  have d0 : w6.cell? ⟨r, 0, none⟩ = some (.int .i64 0) := by simp [World.cell?, hrb]
  have d1 : w6.cell? ⟨r, 1, none⟩ = some (.slice ly n lc) := by simp [World.cell?, hrb]
  have d2 : w6.cell? ⟨r, 2, none⟩ = some (.bool false) := by simp [World.cell?, hrb]
  have d3 : w6.cell? ⟨r, 3, none⟩ = some (.string ⟨#[]⟩) := by simp [World.cell?, hrb]
  have d4 : w6.cell? ⟨r, 4, none⟩ = some (.string ⟨#[]⟩) := by simp [World.cell?, hrb]
  have d5 : w6.cell? ⟨r, 5, none⟩ = some (.int .i64 0) := by simp [World.cell?, hrb]
  clear hrb
  go_wp2_with (first | (go_at_call 24; fail))
  go_at_call 24
  refine (HRF.out _ _ _ (H6.out.row.sees (by have := HGD.out.1; omega))).mono ?_
  rintro e w7 ⟨rfl, hb7⟩
  have H7 := Lib.hid (H6.out.below hb7)
  clear hb7 H6 d0 d1 d2 d3 d4 d5
  go_wp2_with (first | (go_at_call 23; fail))
  go_at_call 23
  refine (HFE.out _ _ _ _ H7.out.his (HML.out.kept h0l.out H7.out.bel)).mono ?_
  rintro e w8 ⟨rfl, hb8⟩
  have H8 := Lib.hid (H7.out.below hb8)
  clear hb8 H7
  by_cases h0 : n = 0
  · rw [if_pos h0]
    subst h0
    clear HFD HFE HRF HC1
    go_wp2_with (first | (go_at_call 15; fail))
    go_at_call 15
    refine (wawake _).mono ?_
    rintro e w10 ⟨rfl, hb10⟩
    have H10 := Lib.hid (H8.out.below hb10)
    clear hb10 H8
    go_wp2
    go_ret
    exact ⟨rfl, H10.out.bel⟩
  · rw [if_neg h0]
    have i1 : (0 : Int) < (n : Int) := by omega
    clear HFD HFE HRF HC1
    go_wp2_with (first | (go_at_call 15; fail))
    go_at_call 15
    refine (wawake _).mono ?_
    rintro e w10 ⟨rfl, hb10⟩
    have H10 := Lib.hid (H8.out.below hb10)
    clear hb10 H8
    go_wp2
    go_ret
    exact ⟨rfl, H10.out.bel⟩
theorem finds_arg (x0 : Option Addr) (n0 c0 : Nat) (ss : List Bs) (s : ByteArray) (fr : Int) (w : World) (hc0 : n0 ≤ c0) (hss : StrsV w x0 n0 ss) (hml : MaxLn w) : Calls Try.prog 5 #[.slice x0 n0 c0, .string s, .int .i64 fr] w fun e w' => e = .returned (.bool true) ∧ Below w.heap.size w w' := by
  have h := finds_any x0 n0 c0 ss s.data.toList fr w hc0 hss hml
  rw [tx_of] at h
  exact h
end Go.Proofs.Ytbaljpamhmbcjaa
