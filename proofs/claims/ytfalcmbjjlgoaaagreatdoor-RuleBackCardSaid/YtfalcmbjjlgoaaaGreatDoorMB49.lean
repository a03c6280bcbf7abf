/- Own texts, merged: SD, SE, SF, SG. -/
import Derived.Test.YtfalcmbjjlgoaaaGreatDoorMB48
/- Walk: eval at an Op of two, and all of eval (printed by gen_sd.py). -/
namespace Go.Proofs.YtfalcmbjjlgoaaaGreatDoor
open Go.RowKit Go.Shelf Ieee
attribute [local go_sem] run_store_float
set_option maxRecDepth 100000 in
set_option maxHeartbeats 8000000 in
theorem weval_two (L : List Bnd) (vb : Value) (op s : Bs) (fn : Nat) (t0 t1 : Tree) (hop0 : op ≠ wnum) (hop1 : op ≠ wtext) (hop2 : op ≠ wname) (hn0 : op ≠ wnot) (hn1 : op ≠ wneg) (hn2 : op ≠ wabs) (hn3 : op ≠ wlen) (htk : takesT op = some 2) (A : Nat → Prop) (v : Value) (m : Int) (w : World) (hbv : BndV w vb L) (hm : MaxLn m w)
    (hlen : (evT clN L t0).s.length ≤ 900000) (HK : ∀ (v : Value) (W : World), NodeV A W v t0 → BndV W vb L → MaxLn m W → Calls Tryz.prog 59 #[v, vb] W (VEnd (evT clN L t0) W))
    (HK2 : ∀ (v : Value) (W : World), NodeV A W v t1 → BndV W vb L → MaxLn m W → Calls Tryz.prog 59 #[v, vb] W (VEnd (evT clN L t1) W)) (hv : NodeV A w v (.mk op fn s [t0, t1])) :
    Calls Tryz.prog 59 #[v, vb] w (VEnd (evT clN L (.mk op fn s [t0, t1])) w) := by
  obtain ⟨x, cap, rfl, hcap, hx, hch⟩ := hv
  obtain ⟨a, rfl⟩ : ∃ a, x = some a := by
    cases x with
    | none => have := hx rfl; cases this
    | some a => exact ⟨a, rfl⟩
  obtain ⟨hab, ⟨⟨u0, u1, u2, u3, e0, e1, e2, e3, hnode⟩, ⟨⟨y0, y1, y2, y3, e4, e5, e6, e7, hnode2⟩, _⟩⟩⟩ := hch a rfl
  replace hab := (hab (by intro e; cases e)).2
  simp only [Nat.zero_mul, Nat.zero_add, Nat.one_mul] at e0 e1 e2 e3 e4 e5 e6 e7
  rw [show a.add 0 = a from rfl] at e0
  have e1' : w.cell? ⟨a.block, a.off + 1, none⟩ = some u1 := by simpa [Addr.add] using e1
  have e2' : w.cell? ⟨a.block, a.off + 2, none⟩ = some u2 := by simpa [Addr.add] using e2
  have e3' : w.cell? ⟨a.block, a.off + 3, none⟩ = some u3 := by simpa [Addr.add] using e3
  have e4' : w.cell? ⟨a.block, a.off + 4, none⟩ = some y0 := by simpa [Addr.add] using e4
  have e5' : w.cell? ⟨a.block, a.off + 4 + 1, none⟩ = some y1 := by simpa [Addr.add] using e5
  have e6' : w.cell? ⟨a.block, a.off + 4 + 2, none⟩ = some y2 := by simpa [Addr.add] using e6
  have e7' : w.cell? ⟨a.block, a.off + 4 + 3, none⟩ = some y3 := by simpa [Addr.add] using e7
  obtain ⟨o1, n1, s1, x1, l1, c1, hag⟩ := hnode.agg
  cases hag
  obtain ⟨o2, n2, s2, x2, l2, c2, hag⟩ := hnode2.agg
  cases hag
  have HND := Lib.hid hnode
  have HND2 := Lib.hid hnode2
  have HKK := Lib.hid HK
  have HKK2 := Lib.hid HK2
  have HLEN := Lib.hid hlen
  have HEI := Lib.hid (EI.start hm (tx op) fn (tx s) (some a) 2 cap)
  have HBV := Lib.hid hbv
  obtain ⟨bx, bn, bc, rfl⟩ := hbv.agg
  obtain ⟨R, hR⟩ : ∃ R, R = evT clN L (.mk op fn s [t0, t1]) := ⟨_, rfl⟩
  rw [← hR]
  rw [evT, if_neg hop0, if_neg hop1, if_neg hop2] at hR
  have hR1 : R = twoA op (evT clN L t0) (evT clN L t1) := hR
  have HM := Lib.hid hR1
  obtain ⟨A1, hA1⟩ : ∃ x, x = evT clN L t0 := ⟨_, rfl⟩
  obtain ⟨A2, hA2⟩ : ∃ x, x = evT clN L t1 := ⟨_, rfl⟩
  rw [← hA1] at HM HKK HLEN
  rw [← hA2] at HM HKK2
  have HBO := Lib.hid (fun (va vb : Value) (W : World) h1 h2 h3 => wboth op htk va vb A1 A2 m (by have := HLEN.out; omega) W h1 h2 h3)
  have b0 : ((tx op).toList == [110, 117, 109]) = false := tx_ne hop0
  have b1 : ((tx op).toList == [116, 101, 120, 116]) = false := tx_ne hop1
  have b2 : ((tx op).toList == [110, 97, 109, 101]) = false := tx_ne hop2
  have b3 : ((tx op).toList == [110, 111, 116]) = false := tx_ne hn0
  have b4 : ((tx op).toList == [110, 101, 103]) = false := tx_ne hn1
  have b5 : ((tx op).toList == [97, 98, 115]) = false := tx_ne hn2
  have b6 : ((tx op).toList == [108, 101, 110]) = false := tx_ne hn3
  obtain ⟨T, hT⟩ : ∃ T, T = tx op := ⟨_, rfl⟩
  rw [← hT] at b0 b1 b2 b3 b4 b5 b6 HEI HBO ⊢
  clear hR hR1 hch hx hbv hm hnode hnode2 HK HK2 hlen hcap hop0 hop1 hop2 hn0 hn1 hn2 hn3 htk hA1 hA2 hT e1 e2 e3 e4 e5 e6 e7
  show Calls Tryz.prog 59 #[.agg #[.string T, .float .f64 fn, .string (tx s), .slice (some a) 2 cap], .slice bx bn bc] w (VEnd R w)
  go_enter Tryz.func59, Tryz.ntmps59
  go_upto_region 1 with (fail)
  generalize ((w.alloc (.cells #[.string T, .float .f64 fn, .string (tx s), .slice (some a) 2 cap] 25)).alloc (.cells #[.int .i64 0, .float .f64 0, .string ⟨#[]⟩, .bool false] 51)) = W0 at HEI ⊢
  obtain ⟨p0, p1, p2, p3, _⟩ := HEI.out.node.cells
  have hlt := HEI.out.r.lt
  have hs : W0.heap[a.block]? = w.heap[a.block]? := HEI.out.bel.block _ hab
  have d0 := cell_same hs e0
  have d1 := cell_same (a := ⟨a.block, a.off + 1, none⟩) hs e1'
  have d2 := cell_same (a := ⟨a.block, a.off + 2, none⟩) hs e2'
  have d3 := cell_same (a := ⟨a.block, a.off + 3, none⟩) hs e3'
  clear e0 e1' e2' e3' hs
  go_wp2_with (first | (go_at_call 59; fail))
  refine (HKK.out _ W0 (HND.out.below HEI.out.bel) (HBV.out.below HEI.out.bel) HEI.out.mx).mono ?_
  rintro e w5 ⟨hb5, v5, rfl, n5, rfl, hn5⟩
  have HEI7 := Lib.hid ((HEI.out.below hb5).below ((Below.refl w5.heap.size w5).alloc (Nat.le_refl _) (.cells #[.int .i64 A1.t, .float .f64 n5, .string (tx A1.s), .bool A1.b] 51)))
  have HG7 : Hid (VB (w5.alloc (.cells #[.int .i64 A1.t, .float .f64 n5, .string (tx A1.s), .bool A1.b] 51)) w5.heap.size (.int .i64 A1.t) (.float .f64 n5) (.string (tx A1.s)) (.bool A1.b)) := Lib.hid (heap_alloc_new _ _)
  have HN5 := Lib.hid hn5
  have hlt5 : w.heap.size + 1 < w5.heap.size := by have := hb5.size; omega
  clear hb5 d0 d1 d2 d3 p0 p1 p2 p3 HEI HKK HND hn5 hlt
  go_upto_region 10 with (fail)
  generalize (w5.alloc (.cells #[.int .i64 A1.t, .float .f64 n5, .string (tx A1.s), .bool A1.b] 51)) = W7 at HEI7 HG7 ⊢
  generalize w5.heap.size = g7 at HG7 hlt5 ⊢
  have hg7 := HG7.out.lt
  have hlt := HEI7.out.r.lt
  have HSS : Hid (∀ W : World, (∀ b, b < W7.heap.size → b ≠ w.heap.size + 1 → W.heap[b]? = W7.heap[b]?) → W.cell? ⟨w.heap.size, 0, none⟩ = some (.string T) ∧ W.cell? ⟨w.heap.size, 3, none⟩ = some (.slice (some a) 2 cap) ∧ W.cell? ⟨g7, 0, none⟩ = some (.int .i64 A1.t) ∧ W.cell? ⟨g7, 1, none⟩ = some (.float .f64 n5) ∧ W.cell? ⟨g7, 2, none⟩ = some (.string (tx A1.s)) ∧ W.cell? ⟨g7, 3, none⟩ = some (.bool A1.b) ∧ W.cell? ⟨a.block, a.off + 4, none⟩ = some (.string o2) ∧ W.cell? ⟨a.block, a.off + 4 + 1, none⟩ = some (.float .f64 n2) ∧ W.cell? ⟨a.block, a.off + 4 + 2, none⟩ = some (.string s2) ∧ W.cell? ⟨a.block, a.off + 4 + 3, none⟩ = some (.slice x2 l2 c2)) := Lib.hid (fun W hW => by
    obtain ⟨p0, p1, p2, p3, _⟩ := HEI7.out.node.cells
    obtain ⟨q0, q1, q2, q3⟩ := HG7.out.cells
    have hnl := HEI7.out.node.lt
    have k1 : W.heap[w.heap.size]? = W7.heap[w.heap.size]? := hW _ hnl (by omega)
    have k2 : W.heap[g7]? = W7.heap[g7]? := hW _ hg7 (by omega)
    have k3 : W.heap[a.block]? = w.heap[a.block]? := (hW _ (by omega) (by omega)).trans (HEI7.out.bel.block _ hab)
    exact ⟨cell_same (a := ⟨w.heap.size, 0, none⟩) k1 p0, cell_same (a := ⟨w.heap.size, 3, none⟩) k1 p3, cell_same (a := ⟨g7, 0, none⟩) k2 q0, cell_same (a := ⟨g7, 1, none⟩) k2 q1, cell_same (a := ⟨g7, 2, none⟩) k2 q2, cell_same (a := ⟨g7, 3, none⟩) k2 q3,
      cell_same (a := ⟨a.block, a.off + 4, none⟩) k3 e4', cell_same (a := ⟨a.block, a.off + 4 + 1, none⟩) k3 e5', cell_same (a := ⟨a.block, a.off + 4 + 2, none⟩) k3 e6', cell_same (a := ⟨a.block, a.off + 4 + 3, none⟩) k3 e7'⟩)
  obtain ⟨p0, p3, q0, q1, q2, q3, d4, d5, d6, d7⟩ := HSS.out W7 (fun _ _ _ => rfl)
  have HS0 := Lib.hid (HSS.out W7.drew (fun _ _ _ => rfl))
  clear e4' e5' e6' e7'
  go_wp2_with fail
  refine wp_region_held (S := (fun w' => w'.cell? ⟨w.heap.size, 0, none⟩ = some (.string T) ∧ w'.cell? ⟨w.heap.size, 3, none⟩ = some (.slice (some a) 2 cap) ∧ w'.cell? ⟨g7, 0, none⟩ = some (.int .i64 A1.t) ∧ w'.cell? ⟨g7, 1, none⟩ = some (.float .f64 n5) ∧ w'.cell? ⟨g7, 2, none⟩ = some (.string (tx A1.s)) ∧ w'.cell? ⟨g7, 3, none⟩ = some (.bool A1.b) ∧ w'.cell? ⟨a.block, a.off + 4, none⟩ = some (.string o2) ∧ w'.cell? ⟨a.block, a.off + 4 + 1, none⟩ = some (.float .f64 n2) ∧ w'.cell? ⟨a.block, a.off + 4 + 2, none⟩ = some (.string s2) ∧ w'.cell? ⟨a.block, a.off + 4 + 3, none⟩ = some (.slice x2 l2 c2))) (by kernel_rfl) ?_
  change wpAnyH _ _ _ _ _ _ _ _ (World.drew _)
  refine wpAnyH_take (i := 0) (v := _) rfl (by kernel_rfl) (by kernel_rfl) (by kernel_rfl) (fun _ _ _ h => h) (Or.inl ⟨by rfl, by intro w hSw; (try dsimp only at hSw); go_simp; try (with_reducible rfl)⟩) HS0.out ?_
  try simp only [Act.put, List.setIfInBounds_toArray]
  refine wpAnyH_take (i := 1) (v := _) rfl (by kernel_rfl) (by kernel_rfl) (by kernel_rfl) (fun _ _ _ h => h) (Or.inl ⟨by rfl, by intro w hSw; (try dsimp only at hSw); go_simp; try (with_reducible rfl)⟩) HS0.out ?_
  try simp only [Act.put]
  refine wpAnyH_take (i := 2) (v := _) rfl (by kernel_rfl) (by kernel_rfl) (by kernel_rfl) (fun _ _ _ h => h) (Or.inl ⟨by rfl, by intro w hSw; (try dsimp only at hSw); go_simp; try (with_reducible rfl)⟩) HS0.out ?_
  try simp only [Act.put]
  refine wpAnyH_take (i := 3) (v := _) rfl (by kernel_rfl) (by kernel_rfl) (by kernel_rfl) (fun _ _ _ h => h) (Or.inl ⟨by rfl, by intro w hSw; (try dsimp only at hSw); go_simp; try (with_reducible rfl)⟩) HS0.out ?_
  try simp only [Act.put]
  refine wpAnyH_take (i := 4) (v := _) rfl (by kernel_rfl) (by kernel_rfl) (by kernel_rfl) (fun _ _ _ h => h) (Or.inl ⟨by rfl, by intro w hSw; (try dsimp only at hSw); go_simp; try (with_reducible rfl)⟩) HS0.out ?_
  try simp only [Act.put]
  refine wpAnyH_take (i := 5) (v := _) rfl (by kernel_rfl) (by kernel_rfl) (by kernel_rfl) (fun _ _ _ h => h) (Or.inl ⟨by rfl, by intro w hSw; (try dsimp only at hSw); go_simp; try (with_reducible rfl)⟩) HS0.out ?_
  try simp only [Act.put]
  refine wpAnyH_take (i := 6) (v := _) rfl (by kernel_rfl) (by kernel_rfl) (by kernel_rfl) (fun _ _ _ h => h) (Or.inl ⟨by rfl, by intro w hSw; (try dsimp only at hSw); go_simp; try (with_reducible rfl)⟩) HS0.out ?_
  try simp only [Act.put]
  refine wpAnyH_take (i := 7) (v := _) rfl (by kernel_rfl) (by kernel_rfl) (by kernel_rfl) (fun _ _ _ h => h) (Or.inl ⟨by rfl, by intro w hSw; (try dsimp only at hSw); go_simp; try (with_reducible rfl)⟩) HS0.out ?_
  try simp only [Act.put]
  refine wpAnyH_ready (rs := [8]) (by kernel_rfl) (by simp) ?_
  refine AllReadyH.cons rfl (fun K hK => ?_) AllReadyH.nil
  go_simp
  go_wp2_with (first | (go_at_call 59; fail))
  have HEI8 := Lib.hid (HEI7.out.below (Below.refl _ _).drew)
  refine (HKK2.out _ W7.drew (HND2.out.below HEI8.out.bel) (HBV.out.below HEI8.out.bel) HEI8.out.mx).mono ?_
  rintro e w8 ⟨hb8, v8, rfl, n8, rfl, hn8⟩
  have HEI9 := Lib.hid (HEI8.out.below hb8)
  have HS8 := Lib.hid (HSS.out w8 (fun b h1 _ => hb8.block b h1))
  have HN8 := Lib.hid hn8
  have HL8 : Hid (∀ b, b < W7.heap.size → b < w8.heap.size ∧ w8.heap[b]? = W7.heap[b]?) := Lib.hid (fun b h => by
    have h1 : W7.heap.size ≤ w8.heap.size := hb8.size
    exact ⟨by omega, hb8.block b h⟩)
  clear hb8 hn8 HEI8 HEI7 HKK2 HND2 HBV
  refine hK.out _ _ HS8.out (fun _ => ?_)
  clear hK K
  try simp only [Act.put, List.setIfInBounds_toArray, List.set_cons_zero, List.set_cons_succ]
  refine wpAnyH_ready (rs := [9]) (by kernel_rfl) (by simp) ?_
  refine AllReadyH.cons rfl (fun K hK => ?_) AllReadyH.nil
  go_simp
  go_wp2_with (first | (go_at_call 83; fail))
  refine (HBO.out _ _ w8 ⟨n5, rfl, HN5.out⟩ ⟨n8, rfl, HN8.out⟩ HEI9.out.mx).mono ?_
  rintro e w9 ⟨hb9, v9, rfl, hv9⟩
  obtain ⟨hz, n9, rfl, hz2, hend⟩ := EI.fin HEI9.out HM.out hv9 hb9
  have HE := Lib.hid (And.intro hz2 hend)
  have HS9 := Lib.hid (HSS.out w9 (fun b h1 _ => (hb9.block b (HL8.out b h1).1).trans (HL8.out b h1).2))
  have HS10 := Lib.hid (fun u0 u1 u2 u3 => HSS.out (putN w9 (w.heap.size + 1) u0 u1 u2 u3) (fun b h1 h2 => (putN_other h2).trans ((hb9.block b (HL8.out b h1).1).trans (HL8.out b h1).2)))
  obtain ⟨k0, k1, k2, k3⟩ := hz.cells
  have f0 := hz.fr 0
  have f1 := hz.fr 1
  have f2 := hz.fr 2
  have f3 := hz.fr 3
  clear hz hz2 hend hb9 hv9
  refine hK.out _ _ HS9.out (fun _ => ?_)
  clear hK K
  try simp only [Act.put, List.setIfInBounds_toArray, List.set_cons_zero, List.set_cons_succ]
  refine wpAnyH_ready (rs := [10]) (by kernel_rfl) (by simp) ?_
  refine AllReadyH.cons rfl (fun K hK => ?_) AllReadyH.nil
  go_simp
  refine hK.out _ _ (HS10.out _ _ _ _) (fun _ => ?_)
  clear hK K
  try simp only [Act.put, List.setIfInBounds_toArray, List.set_cons_zero, List.set_cons_succ]
  refine wpAnyH_done (by kernel_rfl) ?_ _
  go_wp2
  exact bodyPost_ret (val_res rfl _ _ (w.heap.size + 1) _ _ _ _ rfl HE.out.1) rfl HE.out.2
/-- The value of a tree that has a type. -/
theorem weval (L : List Bnd) (hLL : L.length ≤ 1000000) (hLS : ∀ b ∈ L, b.v.s.length ≤ 900000) (vb : Value) (m : Int) : ∀ (n : Nat) (t : Tree), szT t ≤ n → (tyT L t).2 = 0 → txT 900000 t → ∀ (A : Nat → Prop) (v : Value) (w : World), NodeV A w v t → BndV w vb L → MaxLn m w →
    Calls Tryz.prog 59 #[v, vb] w (VEnd (evT clN L t) w) := by
  intro n
  induction n with
  | zero => intro t h; cases t; simp only [szT] at h; omega
  | succ n ih =>
    intro t hn hty htx A v w hv hbv hm
    obtain ⟨op, fn, s, l⟩ := t
    by_cases hop : op = wnum ∨ op = wtext ∨ op = wname
    · exact weval_leaf L hLL vb op s fn l hty hop A v m w hv hbv hm
    · obtain ⟨h1, h2, _⟩ := ty_ok hty
      have hszl : szL l ≤ n := by simp only [szT] at hn; omega
      rcases takes_12 h1 (fun e => hop (.inl e)) (fun e => hop (.inr (.inl e))) (fun e => hop (.inr (.inr e))) with ⟨hl, ho⟩ | ⟨hl, g0, g1, g2, g3⟩
      · match l, hl with
        | [t0], _ =>
          simp only [szL] at hszl
          have k0 : txT 900000 t0 := htx.2.1
          exact weval_one L vb op s fn t0 (fun e => hop (.inl e)) (fun e => hop (.inr (.inl e))) (fun e => hop (.inr (.inr e))) ho A v m w hbv hm (ev_len clN hLS k0) (fun v W a b c => ih t0 (by omega) (h2 0 (by simp)) k0 A v W a b c) hv
      · match l, hl with
        | [t0, t1], _ =>
          simp only [szL] at hszl
          have k0 : txT 900000 t0 := htx.2.1
          have k1 : txT 900000 t1 := htx.2.2.1
          exact weval_two L vb op s fn t0 t1 (fun e => hop (.inl e)) (fun e => hop (.inr (.inl e))) (fun e => hop (.inr (.inr e))) g0 g1 g2 g3 h1 A v m w hbv hm (ev_len clN hLS k0) (fun v W a b c => ih t0 (by omega) (h2 0 (by simp)) k0 A v W a b c) (fun v W a b c => ih t1 (by omega) (h2 1 (by simp)) k1 A v W a b c) hv
end Go.Proofs.YtfalcmbjjlgoaaaGreatDoor
/- The texts in what is parsed are not longer than the text; plain. -/
namespace Go.Proofs.YtfalcmbjjlgoaaaGreatDoor
open Go.RowKit Go.Shelf
def TK (k : Nat) (ts : List Tok) : Prop := ∀ t ∈ ts, t.s.length ≤ k
theorem TK.tail {k : Nat} {t : Tok} {r : List Tok} (h : TK k (t :: r)) : TK k r := fun u hu => h u (by simp [hu])
theorem TK.head {k : Nat} {t : Tok} {r : List Tok} (h : TK k (t :: r)) : t.s.length ≤ k := h t (by simp)
theorem adv_tk {ok : Bool} {ts r : List Tok} {k : Nat} (h : adv ok ts = some r) (hk : TK k ts) : TK k r := by
  unfold adv at h
  split at h
  · cases h
  · split at h
    · cases h
    · cases h; exact hk.tail
theorem must_tk {ok : Bool} {s : Bs} {ts r : List Tok} {k : Nat} (h : must ok s ts = some r) (hk : TK k ts) : TK k r := by
  unfold must at h
  split at h
  · exact adv_tk h hk
  · cases h
theorem tx_two {k : Nat} {op : Bs} {a b : Tree} (ha : txT k a) (hb : txT k b) : txT k (two op a b) := ⟨Nat.zero_le k, ha, hb, trivial⟩
theorem tx_one {k : Nat} {op : Bs} {a : Tree} (ha : txT k a) : txT k (one op a) := ⟨Nat.zero_le k, ha, trivial⟩
theorem tx_leaf {k : Nat} {op s : Bs} {n : Nat} (h : s.length ≤ k) : txT k (.mk op n s []) := ⟨h, trivial⟩
def TxC (k : Nat) (R : List Tok → Option (Tree × List Tok)) : Prop := ∀ ts a r, R ts = some (a, r) → TK k ts → txT k a ∧ TK k r
theorem inside_tx {k : Nat} {ok : Bool} {R : List Tok → Option (Tree × List Tok)} {ts r : List Tok} {a : Tree} (hR : TxC k R) (h : inside ok R ts = some (a, r)) (hk : TK k ts) : txT k a ∧ TK k r := by
  unfold inside at h
  split at h
  · cases h
  · rename_i t1 h1
    split at h
    · cases h
    · rename_i a2 t2 h2
      split at h
      · cases h
      · rename_i t3 h3
        cases h
        have g := hR _ _ _ h2 (must_tk h1 hk)
        exact ⟨g.1, must_tk h3 g.2⟩
theorem hasP_tx {k : Nat} {ok : Bool} {R : List Tok → Option (Tree × List Tok)} {ts r : List Tok} {a : Tree} (hR : TxC k R) (h : hasP ok R ts = some (a, r)) (hk : TK k ts) : txT k a ∧ TK k r := by
  unfold hasP at h
  split at h
  · cases h
  · rename_i t1 h1
    split at h
    · cases h
    · rename_i a2 t2 h2
      split at h
      · cases h
      · rename_i t3 h3
        split at h
        · cases h
        · rename_i b t4 h4
          split at h
          · cases h
          · rename_i t5 h5
            cases h
            have g := hR _ _ _ h2 (must_tk h1 hk)
            have g2 := hR _ _ _ h4 (must_tk h3 g.2)
            exact ⟨tx_two g.1 g2.1, must_tk h5 g2.2⟩
def Mode.tx (k : Nat) : Mode → Prop
  | .orT t | .andT t | .sumT t | .prodT t => txT k t
  | _ => True
theorem P_tx (V : Bs → Nat) (ok : Bool) (k : Nat) : ∀ (n : Nat) (m : Mode) (ts : List Tok) (a : Tree) (r : List Tok), P V ok n m ts = some (a, r) → TK k ts → m.tx k → txT k a ∧ TK k r := by
  intro n
  induction n with
  | zero => intro m ts a r h; cases h
  | succ n ih =>
    have chain : ∀ (m1 : Mode) (m2 : Tree → Mode) (ts r : List Tok) (a : Tree), m1.tx k → (∀ t, txT k t → (m2 t).tx k) → (match P V ok n m1 ts with | none => none | some (a, r) => P V ok n (m2 a) r) = some (a, r) → TK k ts → txT k a ∧ TK k r := by
      intro m1 m2 ts r a hm hm2 h hk
      split at h
      · cases h
      · rename_i b t1 h1
        have g := ih _ _ _ _ h1 hk hm
        exact ih _ _ _ _ h g.2 (hm2 _ g.1)
    have tailr : ∀ (c : Prop) [Decidable c] (m1 : Mode) (m2 : Tree → Mode) (ts r : List Tok) (a x : Tree), m1.tx k → (∀ t, txT k t → (m2 t).tx k) → (if c then (match adv ok ts with | none => none | some t1 => match P V ok n m1 t1 with | none => none | some (b, r) => P V ok n (m2 b) r) else some (x, ts)) = some (a, r) → TK k ts → txT k x → txT k a ∧ TK k r := by
      intro c _ m1 m2 ts r a x hm hm2 h hk hx
      split at h
      · split at h
        · cases h
        · rename_i t1 h1
          split at h
          · cases h
          · rename_i b t2 h2
            have g := ih _ _ _ _ h2 (adv_tk h1 hk) hm
            exact ih _ _ _ _ h g.2 (hm2 _ g.1)
      · cases h; exact ⟨hx, hk⟩
    have hor : TxC k (P V ok n .or) := fun ts a r h hk => ih _ _ _ _ h hk trivial
    intro m ts a r h hk hm
    cases m with
    | or => exact chain .and Mode.orT ts r a trivial (fun _ h => h) (by have h' := h; simp only [P] at h'; exact h') hk
    | and => exact chain .not Mode.andT ts r a trivial (fun _ h => h) (by have h' := h; simp only [P] at h'; exact h') hk
    | sum => exact chain .prod Mode.sumT ts r a trivial (fun _ h => h) (by have h' := h; simp only [P] at h'; exact h') hk
    | prod => exact chain .signed Mode.prodT ts r a trivial (fun _ h => h) (by have h' := h; simp only [P] at h'; exact h') hk
    | orT x => exact tailr _ .and (fun b => Mode.orT (two wor x b)) ts r a x trivial (fun t h => tx_two (op := wor) hm h) (by have h' := h; simp only [P] at h'; exact h') hk hm
    | andT x => exact tailr _ .not (fun b => Mode.andT (two wand x b)) ts r a x trivial (fun t h => tx_two (op := wand) hm h) (by have h' := h; simp only [P] at h'; exact h') hk hm
    | sumT x => exact tailr _ .prod (fun b => Mode.sumT (two ((ts.headD ⟨0, []⟩).s) x b)) ts r a x trivial (fun t h => tx_two (op := ((ts.headD ⟨0, []⟩).s)) hm h) (by have h' := h; simp only [P] at h'; exact h') hk hm
    | prodT x => exact tailr _ .signed (fun b => Mode.prodT (two ((ts.headD ⟨0, []⟩).s) x b)) ts r a x trivial (fun t h => tx_two (op := ((ts.headD ⟨0, []⟩).s)) hm h) (by have h' := h; simp only [P] at h'; exact h') hk hm
    | not =>
      simp only [P] at h
      split at h
      · split at h
        · cases h
        · rename_i t1 h1
          split at h
          · cases h
          · rename_i b t2 h2
            cases h
            have g := ih _ _ _ _ h2 (adv_tk h1 hk) trivial
            exact ⟨tx_one g.1, g.2⟩
      · split at h
        · cases h
        · rename_i b t2 h2
          have g2 := ih _ _ _ _ h2 hk trivial
          split at h
          · cases h; exact g2
          · split at h
            · split at h
              · cases h
              · rename_i t3 h3
                split at h
                · cases h
                · rename_i c t4 h4
                  cases h
                  have g := ih _ _ _ _ h4 (adv_tk h3 g2.2) trivial
                  exact ⟨tx_two g2.1 g.1, g.2⟩
            · cases h; exact g2
    | signed =>
      simp only [P] at h
      split at h
      · split at h
        · cases h
        · rename_i t1 h1
          split at h
          · cases h
          · rename_i b t2 h2
            cases h
            have g := ih _ _ _ _ h2 (adv_tk h1 hk) trivial
            exact ⟨tx_one g.1, g.2⟩
      · exact ih _ _ _ _ h hk trivial
    | atom =>
      cases ts with
      | nil => simp only [P] at h; cases h
      | cons t ts =>
        rw [P_atom] at h
        split at h
        · split at h
          · cases h
          · rename_i t1 h1
            cases h
            exact ⟨tx_leaf (Nat.zero_le k), adv_tk h1 hk⟩
        · split at h
          · split at h
            · cases h
            · rename_i t1 h1
              cases h
              exact ⟨tx_leaf hk.head, adv_tk h1 hk⟩
          · split at h
            · unfold namedP at h
              split at h
              · cases h
              · split at h
                · cases h
                · rename_i t1 h1
                  split at h
                  · split at h
                    · cases h
                    · rename_i b t2 h2
                      cases h
                      have g := inside_tx hor h2 (adv_tk h1 hk)
                      exact ⟨tx_one g.1, g.2⟩
                  · split at h
                    · exact hasP_tx hor h (adv_tk h1 hk)
                    · cases h
                      exact ⟨tx_leaf hk.head, adv_tk h1 hk⟩
            · exact inside_tx hor h hk
theorem lex1_tx {l : Bs} {t : Tok} {n : Nat} (h : lex1 l = some (t, n)) : t.s.length ≤ l.length := by
  cases l with
  | nil => cases h
  | cons c r =>
    simp only [lex1] at h
    split at h
    · split at h
      · cases h; simp only [List.length_take]; omega
      · cases h
    · split at h
      · cases h; simp only [List.length_take]; omega
      · split at h
        · split at h
          · cases h; simp only [List.length_take, List.length_cons]; omega
          · cases h
        · split at h
          · cases h; simp only [List.length_take]; omega
          · split at h
            · cases h; simp only [List.length_take]; omega
            · cases h
theorem lexF_tx : ∀ (n : Nat) (l : Bs), TK l.length (lexF n l).1
  | 0, _ => fun t h => by cases h
  | n + 1, l => by
    simp only [lexF]
    split
    · intro t h; cases h
    · cases hq : lex1 (l.drop (cntBl l)) with
      | none => intro t h; cases h
      | some x =>
        obtain ⟨t, k⟩ := x
        have h1 := lex1_tx hq
        have h2 := lexF_tx n ((l.drop (cntBl l)).drop k)
        intro u hu
        rcases List.mem_cons.1 hu with rfl | hu
        · simp only [List.length_drop] at h1; omega
        · have h3 := h2 u hu
          simp only [List.length_drop] at h3
          omega
theorem parse_tx (l : Bs) : txT l.length (parseP l).1 := by
  have hz : txT l.length zeroT := ⟨Nat.zero_le _, trivial⟩
  unfold parseP
  split
  · exact hz
  · cases hr : readP l with
    | none => exact hz
    | some t =>
      have ht : txT l.length t := by
        unfold readP at hr
        split at hr
        · cases hr
        · split at hr
          · rename_i t2 h2
            cases hr
            exact (P_tx _ _ _ _ _ _ _ _ h2 (lexF_tx _ l) trivial).1
          · cases hr
      simp only
      split
      · exact hz
      · exact ht
theorem parse_sz (l : Bs) : szT (parseP l).1 ≤ l.length + 1 := by
  have hz : szT zeroT ≤ l.length + 1 := by simp [zeroT, szT, szL]
  unfold parseP
  split
  · exact hz
  · cases hr : readP l with
    | none => exact hz
    | some t =>
      have := readP_sz hr
      simp only
      split
      · exact hz
      · show szT t ≤ _; omega
theorem tx_mono {k j : Nat} (h : k ≤ j) : ∀ t : Tree, txT k t → txT j t := by
  have key : ∀ n, ∀ t : Tree, szT t ≤ n → txT k t → txT j t := by
    intro n
    induction n with
    | zero => intro t ht; cases t; simp only [szT] at ht; omega
    | succ n ih =>
      intro t ht hx
      obtain ⟨op, fn, s, l⟩ := t
      have hl : szL l ≤ n := by simp only [szT] at ht; omega
      have hrow : ∀ l : List Tree, szL l ≤ n → txL k l → txL j l := fun l => by
        induction l with
        | nil => intro _ _; trivial
        | cons a r ihl =>
          intro h1 h2
          simp only [szL] at h1
          exact ⟨ih a (by omega) h2.1, ihl (by omega) h2.2⟩
      exact ⟨Nat.le_trans hx.1 h, hrow l hl hx.2⟩
  exact fun t => key _ t (Nat.le_refl _)
end Go.Proofs.YtfalcmbjjlgoaaaGreatDoor
/- Walks: Eval, Holds. -/
namespace Go.Proofs.YtfalcmbjjlgoaaaGreatDoor
open Go.RowKit Go.Shelf Ieee
attribute [local go_sem] run_store_float
/-- What Eval gives. -/
def evP (L : List Bnd) (t : Tree) : Av := if (tyP L t).2 = 0 then evT clN L t else av0
/-- What Holds gives. -/
def hoP (L : List Bnd) (l : Bs) : Bool × Nat :=
  if (parseP l).2 ≠ 0 then (false, (parseP l).2)
  else if (tyP L (parseP l).1).2 ≠ 0 then (false, (tyP L (parseP l).1).2)
  else if (evT clN L (parseP l).1).t ≠ 3 then (false, 1) else ((evT clN L (parseP l).1).b, 0)
/-- Binds that are few and short. -/
def BOk (L : List Bnd) : Prop := L.length ≤ 1000000 ∧ ∀ b ∈ L, b.v.s.length ≤ 900000
theorem tyP_ok {L : List Bnd} {t : Tree} (h : (tyP L t).2 = 0) : (tyT L t).2 = 0 := by
  unfold tyP at h
  split at h
  · cases h
  · exact h
set_option maxRecDepth 100000 in
set_option maxHeartbeats 8000000 in
theorem wEval (L : List Bnd) (hL : BOk L) (vb : Value) (t : Tree) (hz : szT t ≤ 1000000) (hx : txT 900000 t) (A : Nat → Prop) (v : Value) (m : Int) (w : World) (hv : NodeV A w v t) (hbv : BndV w vb L) (hm : MaxLn m w) :
    Calls Tryz.prog 40 #[v, vb] w fun e w' => ∃ u, e = .returned (.tuple #[u, .int .i64 ((tyP L t).2 : Nat)]) ∧ ValV u (evP L t) ∧ Below w.heap.size w w' := by
  have HTO := Lib.hid (fun W (h : NodeV A W v t) (k : BndV W vb L) => wtypeOf L hL.1 vb t A v W hz h k)
  have HEV := Lib.hid (fun (h0 : (tyT L t).2 = 0) W (h : NodeV A W v t) (k : BndV W vb L) (q : MaxLn m W) => weval L hL.1 hL.2 vb m _ t (Nat.le_refl _) h0 hx A v W h k q)
  have HV := Lib.hid hv
  have HBV := Lib.hid hbv
  obtain ⟨o, n, s, x, l, c, rfl⟩ := hv.agg
  obtain ⟨bx, bn, bc, rfl⟩ := hbv.agg
  have HEI := Lib.hid (EI.start hm o n s x l c)
  obtain ⟨R, hR⟩ : ∃ R, R = evP L t := ⟨_, rfl⟩
  rw [← hR]
  unfold evP at hR
  have HOK := Lib.hid (fun (h : (tyP L t).2 = 0) => tyP_ok h)
  obtain ⟨T, hT⟩ : ∃ T, T = tyP L t := ⟨_, rfl⟩
  rw [← hT] at hR HTO HOK ⊢
  obtain ⟨T1, T2⟩ := T
  simp only at hR
  have HR := Lib.hid hR
  clear hv hbv hz hx hm hL hR hT
  go_enter Tryz.func40, Tryz.ntmps40
  go_upto_region 1 with (fail)
  generalize ((w.alloc (.cells #[.string o, .float .f64 n, .string s, .slice x l c] 25)).alloc (.cells #[.int .i64 0, .float .f64 0, .string ⟨#[]⟩, .bool false] 51)) = W0 at HEI ⊢
  obtain ⟨p0, p1, p2, p3, _⟩ := HEI.out.node.cells
  have hlt := HEI.out.r.lt
  go_wp2_with (first | (go_at_call 13; fail))
  refine (HTO.out W0 (HV.out.below HEI.out.bel) (HBV.out.below HEI.out.bel)).mono ?_
  rintro e w2 ⟨rfl, hb2⟩
  have HEI2 := Lib.hid (HEI.out.below hb2)
  clear hb2 p0 p1 p2 p3 HEI HTO
  obtain ⟨p0, p1, p2, p3, _⟩ := HEI2.out.node.cells
  obtain ⟨k0, k1, k2, k3⟩ := HEI2.out.r.cells
  have hlt := HEI2.out.r.lt
  have f0 := HEI2.out.r.fr 0
  have f1 := HEI2.out.r.fr 1
  have f2 := HEI2.out.r.fr 2
  have f3 := HEI2.out.r.fr 3
  by_cases q : T2 = 0
  · have HM : Hid (R = evT clN L t) := Lib.hid (by rw [HR.out, if_pos q])
    have HEV1 := Lib.hid (HEV.out (HOK.out q))
    subst q
    clear HR HOK HEV
    go_wp2_with (first | (go_at_call 59; fail))
    go_at_call 59
    refine (HEV1.out w2 (HV.out.below HEI2.out.bel) (HBV.out.below HEI2.out.bel) HEI2.out.mx).mono ?_
    rintro e w5 ⟨hb5, v5, rfl, hv5⟩
    obtain ⟨hz, n5, rfl, hz2, hend⟩ := EI.fin HEI2.out HM.out hv5 hb5
    have HE := Lib.hid (And.intro hz2 hend)
    clear k0 k1 k2 k3 f0 f1 f2 f3
    obtain ⟨k0, k1, k2, k3⟩ := hz.cells
    have f0 := hz.fr 0
    have f1 := hz.fr 1
    have f2 := hz.fr 2
    have f3 := hz.fr 3
    clear hz hz2 hend hb5 hv5
    go_wp2
    refine bodyPost_ret (results_cell_tmp rfl _ _ (w.heap.size + 1) 51 _ _ _ rfl HE.out.1 Tryz.underlying51 rfl (by kernel_rfl)) rfl ?_
    obtain ⟨h1, u, h2, h3⟩ := HE.out.2
    cases h2
    exact ⟨_, rfl, h3, h1⟩
  · have HM : Hid (R = av0) := Lib.hid (by rw [HR.out, if_neg q])
    have q1 : ((T2 : Int) == 0) = false := by simpa using (show ¬ ((T2 : Int) = 0) by omega)
    have HE := Lib.hid (EI.put HEI2.out HM.out (n := 0) fA_zero 0 rfl ⟨#[]⟩ rfl false rfl (.cells #[] 0)).1
    clear HR HOK HEV
    go_wp2
    refine bodyPost_ret (results_cell_tmp rfl _ _ (w.heap.size + 1) 51 _ _ _ rfl HE.out.1 Tryz.underlying51 rfl (by kernel_rfl)) rfl ?_
    obtain ⟨h1, u, h2, h3⟩ := HE.out.2
    cases h2
    exact ⟨_, rfl, h3, h1⟩
set_option maxRecDepth 100000 in
set_option maxHeartbeats 8000000 in
theorem wHolds (L : List Bnd) (hL : BOk L) (vb : Value) (l : Bs) (hl : l.length ≤ 100000) (m : Int) (w : World) (hbv : BndV w vb L) (hm : MaxLn m w) :
    Calls Tryz.prog 23 #[.string (tx l), vb] w fun e w' => e = .returned (.tuple #[.bool (hoP L l).1, .int .i64 ((hoP L l).2 : Nat)]) ∧ Below w.heap.size w w' := by
  have HP := Lib.hid (wparse l (by omega) w)
  have HEV := Lib.hid (fun (A : Nat → Prop) v W (h : NodeV A W v (parseP l).1) (k : BndV W vb L) (q : MaxLn m W) => wEval L hL vb (parseP l).1 (by have := parse_sz l; omega) (tx_mono (by omega) _ (parse_tx l)) A v m W h k q)
  have HBV := Lib.hid hbv
  have HMX := Lib.hid hm
  obtain ⟨bx, bn, bc, rfl⟩ := hbv.agg
  obtain ⟨R, hR⟩ : ∃ R, R = hoP L l := ⟨_, rfl⟩
  rw [← hR]
  unfold hoP at hR
  unfold ParseEnd at HP
  unfold evP at HEV
  obtain ⟨T, hT⟩ : ∃ T, T = tyP L (parseP l).1 := ⟨_, rfl⟩
  rw [← hT] at hR HEV
  generalize evT clN L (parseP l).1 = E at hR HEV
  obtain ⟨Q, hQ⟩ : ∃ Q, Q = parseP l := ⟨_, rfl⟩
  rw [← hQ] at hR HP HEV
  obtain ⟨Q1, Q2⟩ := Q
  obtain ⟨T1, T2⟩ := T
  simp only at hR HP HEV
  have HR := Lib.hid hR
  clear hbv hm hL hl hR hT hQ
  go_enter Tryz.func23, Tryz.ntmps23
  go_wp2_with (first | (go_at_call 5; fail))
  go_at_call 5
  refine (HP.out).mono ?_
  rintro e w2 ⟨v2, rfl, hv2, hb2⟩
  obtain ⟨o, n, s, x, k, c, rfl⟩ := hv2.agg
  have hal : Below w2.heap.size w2 (w2.alloc (.cells #[.string o, .float .f64 n, .string s, .slice x k c] 25)) := (Below.refl _ _).alloc (Nat.le_refl _) _
  have HB3 := Lib.hid (hb2.trans (below_le hal hb2.size))
  have HN3 := Lib.hid (hv2.below hal)
  clear hb2 hv2 hal
  by_cases q : Q2 = 0
  · subst q
    have HR1 : Hid (R = if T2 ≠ 0 then (false, T2) else if E.t ≠ 3 then (false, 1) else (E.b, 0)) := Lib.hid (by rw [HR.out, if_neg (by simp)])
    clear HR
    go_wp2_with (first | (go_at_call 40; fail))
    go_at_call 40
    refine (HEV.out _ _ _ HN3.out (HBV.out.below HB3.out) (HMX.out.below HB3.out)).mono ?_
    rintro e w5 ⟨u, rfl, ⟨nu, rfl, hnu⟩, hb5⟩
    have HB5 := Lib.hid (HB3.out.trans (below_le hb5 HB3.out.size))
    clear hb5
    by_cases q2 : T2 = 0
    · subst q2
      simp only [if_pos]
      have HB6 := Lib.hid (fun c => HB5.out.alloc HB5.out.size c)
      by_cases q3 : E.t = 3
      · have HR2 : Hid (R = (E.b, 0)) := Lib.hid (by rw [HR1.out, if_neg (by simp), if_neg (by simp [q3])])
        rw [q3]
        go_wp2
        go_ret2
        exact ⟨by rw [HR2.out]; rfl, HB6.out _⟩
      · have HR2 : Hid (R = (false, 1)) := Lib.hid (by rw [HR1.out, if_neg (by simp), if_pos q3])
        have q4 : ((E.t : Int) == 3) = false := by simpa using (show ¬ ((E.t : Int) = 3) by omega)
        generalize E.t = et at q4 ⊢
        go_wp2
        go_ret2
        exact ⟨by rw [HR2.out]; rfl, HB6.out _⟩
    · have HR2 : Hid (R = (false, T2)) := Lib.hid (by rw [HR1.out, if_pos q2])
      have q4 : ((T2 : Int) == 0) = false := by simpa using (show ¬ ((T2 : Int) = 0) by omega)
      have HB6 := Lib.hid (fun c => HB5.out.alloc HB5.out.size c)
      generalize (if T2 = 0 then E else av0) = E2
      go_wp2
      go_ret2
      exact ⟨by rw [HR2.out]; rfl, HB6.out _⟩
  · have HR1 : Hid (R = (false, Q2)) := Lib.hid (by rw [HR.out, if_pos q])
    have q4 : ((Q2 : Int) == 0) = false := by simpa using (show ¬ ((Q2 : Int) = 0) by omega)
    go_wp2
    go_ret2
    exact ⟨by rw [HR1.out]; rfl, HB3.out⟩
end Go.Proofs.YtfalcmbjjlgoaaaGreatDoor
/- The page's example: what it gives. -/
namespace Go.Proofs.YtfalcmbjjlgoaaaGreatDoor
open Go.RowKit Go.Shelf
def exB : List Bnd := [⟨[120], ⟨2, 0, [98, 99, 100], false⟩⟩]
def ex1 : Bs := [108, 101, 110, 32, 120, 32, 62, 61, 32, 51]
def ex2 : Bs := [108, 101, 110, 40, 120, 41, 32, 62, 61, 32, 51, 32, 97, 110, 100, 32, 110, 111, 116, 32, 104, 97, 115, 40, 120, 44, 32, 39, 97, 39, 41]
def ex3 : Bs := [49, 32, 47, 32, 48, 32, 62, 32, 53]
def ex4 : Bs := [48, 32, 47, 32, 48, 32, 61, 32, 48, 32, 47, 32, 48]
set_option maxRecDepth 100000 in
theorem ex1_is : (parseP ex1).2 = 190 := by kernel_rfl
set_option maxRecDepth 100000 in
theorem ex2_is : hoP exB ex2 = (true, 0) := by kernel_rfl
set_option maxRecDepth 100000 in
theorem ex3_is : hoP [] ex3 = (true, 0) := by kernel_rfl
set_option maxRecDepth 100000 in
theorem ex4_is : hoP [] ex4 = (false, 0) := by kernel_rfl
end Go.Proofs.YtfalcmbjjlgoaaaGreatDoor
