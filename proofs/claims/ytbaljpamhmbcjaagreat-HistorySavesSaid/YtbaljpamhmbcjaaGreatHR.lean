/- Walk: Save of a made history. -/
import Derived.Test.YtbaljpamhmbcjaaGreatHQ
namespace Go.Proofs.YtbaljpamhmbcjaaGreat
open Go.RowKit Go.Shelf
attribute [local go_sem] Oper.semAt_some
/-- The lines as a text, the last one first. -/
def saveN (L : List Bs) (ks : List Nat) : Bs := ks.foldl (fun s i => L.getD i [] ++ ([10] ++ s)) []
def saveS (L : List Bs) : Bs := saveN L (List.range L.length)
theorem saveN_snoc (L : List Bs) (ks : List Nat) (k : Nat) : saveN L (ks ++ [k]) = L.getD k [] ++ ([10] ++ saveN L ks) := by simp [saveN]
theorem getD_len {L : List Bs} {N : Nat} (h : ∀ l ∈ L, l.length ≤ N) (k : Nat) : (L.getD k []).length ≤ N := by
  rw [List.getD_eq_getElem?_getD]
  cases hq : L[k]? with
  | none => simp
  | some l => exact h l (List.mem_of_getElem? hq)
theorem saveN_len {L : List Bs} {N : Nat} (h : ∀ l ∈ L, l.length ≤ N) (ks : List Nat) : (saveN L ks).length ≤ ks.length * (N + 1) := by
  have : ∀ (ks : List Nat) (s : Bs), (ks.foldl (fun s i => L.getD i [] ++ ([10] ++ s)) s).length ≤ s.length + ks.length * (N + 1) := by
    intro ks
    induction ks with
    | nil => intro s; simp
    | cons k ks ih =>
      intro s
      have h1 := ih (L.getD k [] ++ ([10] ++ s))
      have h2 := getD_len h k
      simp only [List.foldl_cons, List.length_cons, List.length_append, List.length_nil] at h1 ⊢
      have h3 : (ks.length + 1) * (N + 1) = ks.length * (N + 1) + (N + 1) := by rw [Nat.add_mul, Nat.one_mul]
      omega
  have h1 := this ks []
  simpa [saveN] using h1
theorem tx_size (l : Bs) : (tx l).size = l.length := by simp [tx, ByteArray.size]
/-- A box, and nothing old turned. -/
structure BI (w : World) (b : Nat) (t : TypeId) (v : Value) (W : World) : Prop where
  bx : Box W b t v
  bel : Below w.heap.size w W
theorem wHAll (p : Option Addr) (w : World) : Calls Tryz.prog 29 #[.pointer p] w fun e w' => e = .returned (.func (.func 41) #[] #[.pointer (some ⟨w.heap.size, 0, none⟩)]) ∧ w' = w.alloc (.cells #[.pointer p] 23) := by
  go_enter Tryz.func29, Tryz.ntmps29
  go_wp2
  go_ret
  exact ⟨rfl, rfl⟩
theorem keepR_set {bx : Nat} {W : World} {u v : Value} (hu : W.cell? ⟨bx, 0, none⟩ = some u) (hv : v.ownBlock = none) : KeepR bx W (W.setCell ⟨bx, 0, none⟩ v) := by
  refine ⟨by simp, fun j hj => ?_, fun j cur r hr hne _ => set_other hne⟩
  unfold ownAt at hj
  rw [World.cell?_setCell_same _ _ _ hu] at hj
  simp [hv] at hj
theorem keepsFrom_set {B : Nat} (W : World) (a : Addr) (v : Value) (h : a.block < B) : KeepsFrom B W (W.setCell a v) := ⟨by simp, fun k o hk ho _ => by rw [Below.heap_setCell _ _ _ _ (by omega)]; exact ho⟩
theorem bi_ownF {β : Type} (w : World) (b : Nat) (t : TypeId) (v : β → Value) (B : Nat) (hB : w.heap.size ≤ B) : OwnFrom B (fun s W => BI w b t (v s) W) := fun _ _ _ _ h hg hr => by
  have hk := cells_grown hg (fun r e => (hr r e).2)
  exact ⟨(hk.2 _ _ h.bx rfl).trans h.bx, h.bel.grown hg h.bel.size (fun k e => by have := (hr k e).1; omega)⟩
set_option maxRecDepth 100000 in
set_option maxHeartbeats 2000000 in
theorem wHsave (b : Nat) (m : Int) (hm : 0 < m) (L : List Bs) (hL : L.length ≤ 256) (hN : ∀ l ∈ L, l.length ≤ 4000) (k : Wk) (x : Option Addr) (c : Nat) (w : World) (h : His w b m L k x c) : Calls Tryz.prog 8 #[.pointer (some ⟨b, 0, none⟩)] w fun e w' => e = .returned (.string (tx (saveS L))) ∧ Below w.heap.size w w' := by
  have HU := Lib.hid h
  have HM := Lib.hid hm
  have HL := Lib.hid (And.intro hL hN)
  clear h hm hL hN
  refine (callsIn_wide (n := 6)).1 ?_
  refine callsIn_of_wp_marks Tryz.func8 rfl trivial ?_ rfl
  simp only [Tryz.ntmps8, List.size_toArray, List.length_cons, List.length_nil, Nat.reduceAdd, Nat.reduceSub, Array.replicate_succ, Array.replicate_zero, List.push_toArray, List.append_toArray, List.nil_append, List.cons_append]
  gi_wp2_with (first | (refine ⟨trivial, ?_⟩; gi_at_call 29; refine (callsIn_wide.2 (wHAll _ _)).mono ?_; rintro e w1 ⟨rfl, rfl⟩))
  have hb2 : Below w.heap.size w ((w.alloc (.cells #[.string ⟨#[]⟩] 9)).alloc (.cells #[.pointer (some ⟨b, 0, none⟩)] 23)) := ((Below.refl _ _).alloc (Nat.le_refl _) _).alloc (by simp) _
  have HI : Hid (BI w w.heap.size 9 (.string (tx (saveN L []))) ((w.alloc (.cells #[.string ⟨#[]⟩] 9)).alloc (.cells #[.pointer (some ⟨b, 0, none⟩)] 23))) := Lib.hid ⟨(heap_alloc_old _ _ (by simp)).trans (heap_alloc_new _ _), hb2⟩
  have HC : Hid (((w.alloc (.cells #[.string ⟨#[]⟩] 9)).alloc (.cells #[.pointer (some ⟨b, 0, none⟩)] 23)).cell? ⟨w.heap.size + 1, 0, none⟩ = some (.pointer (some ⟨b, 0, none⟩)) ∧ w.heap.size + 1 < ((w.alloc (.cells #[.string ⟨#[]⟩] 9)).alloc (.cells #[.pointer (some ⟨b, 0, none⟩)] 23)).heap.size ∧ His ((w.alloc (.cells #[.string ⟨#[]⟩] 9)).alloc (.cells #[.pointer (some ⟨b, 0, none⟩)] 23)) b m L k x c) := Lib.hid ⟨by simp [go_sem], by simp, HU.out.below hb2⟩
  clear hb2
  generalize (w.alloc (.cells #[.string ⟨#[]⟩] 9)).alloc (.cells #[.pointer (some ⟨b, 0, none⟩)] 23) = W0 at HI HC ⊢
  refine wpIn_rangeFunc_ownH rfl (by omega) (gf := 41) (lb := #[.pointer (some ⟨w.heap.size + 1, 0, none⟩)]) (by simp [go_sem]) trivial (enters_of Tryz.func41 (by kernel_rfl) rfl)
    (hall_stops (bx := w.heap.size) HM.out (by have := HL.out.1; omega) HC.out.2.2 HC.out.2.1 HC.out.1 HI.out.bx.lt (by unfold ownAt; rw [HI.out.bx.cell]; rfl)) KeepR.trans (keepR_b HI.out.bx.lt) (Below.refl _ _) (fun _ => rfl)
    (fun (pre : List (Fin L.length)) W => BI w w.heap.size 9 (.string (tx (saveN L (pre.map (·.1))))) W ∧ pre.length ≤ L.length)
    (fun _ _ _ => False)
    (OwnFrom.and (bi_ownF w w.heap.size 9 (fun pre : List (Fin L.length) => Value.string (tx (saveN L (pre.map (·.1))))) _ HI.out.bel.size) (fun _ _ _ _ h _ _ => h))
    (fun _ _ _ _ _ hs _ _ => hs)
    ⟨HI.out, Nat.zero_le _⟩
    (fun y a' _ => a' = { tmps := #[.pointer (some ⟨b, 0, none⟩), undef, .string ⟨#[]⟩, .pointer (some ⟨w.heap.size, 0, none⟩), undef, .string (lnT L y.1), .pointer (some ⟨b, 0, none⟩), .func (.func 41) #[] #[.pointer (some ⟨w.heap.size + 1, 0, none⟩)], .int .i64 (y.1 : Nat), .string (lnT L y.1), undef, undef, undef, undef, undef], defers := [] })
    (fun _ _ _ _ _ _ h _ _ => h) ?assign ?body ?done ?stop
  case assign =>
    intro l pre x W K hI hK
    unfold fenc lenc
    have H := Lib.hid hK
    clear hK
    gi_wp2
    exact H.out _ _ (keepsFrom_below (Below.refl _ _)) (KeepR.refl _ _) hI rfl
  case body =>
    rintro l pre y a' W hl' _ ⟨hI, hp⟩ rfl hlt
    have c3 := hI.bx.cell
    have f3 := hI.bx.frozen
    have HI2 := Lib.hid hI
    have h1 : (lnT L y.1).size ≤ 4000 := by unfold lnT; rw [tx_size]; exact getD_len HL.out.2 _
    have h2 : (tx (saveN L (pre.map (·.1)))).size ≤ 2000000 := by
      rw [tx_size]
      have h3 := saveN_len HL.out.2 (pre.map (·.1))
      rw [List.length_map] at h3
      have h4 := HL.out.1
      have h5 : pre.length * (4000 + 1) ≤ 256 * 4001 := Nat.mul_le_mul (by omega) (Nat.le_refl _)
      omega
    obtain ⟨S, hS⟩ : ∃ S, S = tx (saveN L (pre.map (·.1))) := ⟨_, rfl⟩
    have HSN : Hid (lnT L y.1 ++ ⟨#[10]⟩ ++ S = tx (saveN L ((pre ++ [y]).map (·.1)))) := Lib.hid (by rw [hS, List.map_append, List.map_cons, List.map_nil, saveN_snoc]; unfold lnT; apply ByteArray.ext; simp [tx])
    rw [← hS] at c3 h2
    obtain ⟨X, hX⟩ : ∃ X, X = lnT L y.1 := ⟨_, rfl⟩
    rw [← hX] at HSN h1 ⊢
    have HLT := Lib.hid hlt
    have HSZ := Lib.hid HI.out.bx.lt
    clear hI hS hX hlt hp
    gi_wp2
    exact ⟨keepsFrom_set _ _ _ HSZ.out, keepR_set (c3) rfl, ⟨by rw [← HSN.out]; exact HI2.out.bx.set _, HI2.out.bel.setCell (p := ⟨w.heap.size, 0, none⟩) (Nat.le_refl _) _⟩, by have := HLT.out; simp; omega⟩
  case done =>
    rintro D xs W hD hS ⟨hI, _⟩ hK
    have c3 := hI.bx.cell
    rw [hS] at c3
    have HB := Lib.hid hI.bel
    have HK := Lib.hid hK
    have HD := Lib.hid (show w.heap.size ≤ D by have := HI.out.bel.size; omega)
    have HV : Hid (tx (saveN L (List.range L.length)) = tx (saveS L)) := Lib.hid rfl
    obtain ⟨S, hS⟩ : ∃ S, S = tx (saveN L (List.range L.length)) := ⟨_, rfl⟩
    rw [← hS] at c3 HV
    clear hI hK hS
    gi_wp2
    refine ⟨by simp, .inl ⟨_, _, rfl, run_takeDeferred HK.out, ?_⟩⟩
    exact ⟨_, results_tmp rfl _ _ _, by rw [← HV.out]; rfl, HB.out.trans (belowK_b (w := w) (Nat.le_refl _) W D _ _ HD.out HK.out rfl rfl)⟩
  case stop =>
    rintro D c pre W _ _ h _
    exact h.elim
end Go.Proofs.YtbaljpamhmbcjaaGreat
