/- Own texts, merged: T9, TA, TB. -/
import Derived.Test.YtmhfnpabgkkjaaaGreatMP38
import Derived.Test.YtmhfnpabgkkjaaaGreatMP50
/- Numbers of values fit; walk: the reference's found: leaves. -/
namespace Go.Proofs.YtmhfnpabgkkjaaaGreat
open Go.RowKit Go.Shelf Ieee
attribute [local go_sem] run_store_float
mutual
/-- All numbers of a tree fit. -/
def nbT : Tree → Prop
  | .mk _ n _ l => n < 2 ^ 64 ∧ nbL l
def nbL : List Tree → Prop
  | [] => True
  | t :: r => nbT t ∧ nbL r
end
def NOk (o : Option Nat) : Prop := ∀ x, o = some x → x < 2 ^ 64
theorem nok_fA {n : Nat} (h : n < 2 ^ 64) : NOk (fA n) := fun x hx => by
  unfold fA at hx
  split at hx
  · cases hx
  · cases hx; exact h
theorem nok_ar {f : Nat → Nat → Option Nat} (hf : ∀ x y r, f x y = some r → r < 2 ^ 64) (a b : Option Nat) : NOk (arA f a b) := fun x hx => by
  cases a with
  | none => cases hx
  | some a =>
    cases b with
    | none => cases hx
    | some b => exact hf a b x hx
theorem nok_neg {a : Option Nat} (h : NOk a) : NOk (negA a) := fun x hx => by
  cases a with
  | none => cases hx
  | some a => cases hx; exact Nat.xor_lt_two_pow (h a rfl) (by decide)
theorem nok_abs {a : Option Nat} : NOk (absA a) := fun x hx => by
  cases a with
  | none => cases hx
  | some a =>
    cases hx
    have := Nat.mod_lt a (show 2 ^ 63 > 0 by decide)
    omega
theorem nok_zero : NOk (some 0) := fun x hx => by cases hx; decide
theorem ite_n (c : Prop) [Decidable c] (x y : Av) (hx : NOk x.n) (hy : NOk y.n) : NOk (if c then x else y).n := by
  split
  · exact hx
  · exact hy
theorem one_n (C : Bs → Nat) (op : Bs) (a : Av) (h : NOk a.n) : NOk (oneA C op a).n := by
  unfold oneA
  exact ite_n _ _ _ nok_zero (ite_n _ _ _ (nok_neg h) (ite_n _ _ _ nok_abs (fun x hx => by cases hx; exact ofI_lt _)))
theorem two_n (op : Bs) (a b : Av) : NOk (twoA op a b).n := by
  unfold twoA
  iterate 9 refine ite_n _ _ _ nok_zero ?_
  exact ite_n _ _ _ (nok_ar (fun x y r h => double.add_lt h) _ _) (ite_n _ _ _ (nok_ar (fun x y r h => double.sub_lt h) _ _) (ite_n _ _ _ (nok_ar (fun x y r h => double.mul_lt h) _ _) (nok_ar (fun x y r h => double.div_lt h) _ _)))
theorem bound_nb {L : List Bnd} {s : Bs} {v : Vl} (hL : ∀ b ∈ L, b.v.n < 2 ^ 64) (h : boundV L s = some v) : v.n < 2 ^ 64 := by
  have key : ∀ (L : List Bnd) b, (∀ b ∈ L, b.v.n < 2 ^ 64) → firstB s L = some b → b.v.n < 2 ^ 64 := fun L => by
    induction L with
    | nil => intro b _ h; cases h
    | cons a r ih =>
      intro b hk h
      unfold firstB at h
      split at h
      · cases h; exact hk _ (by simp)
      · exact ih b (fun b hb => hk b (by simp [hb])) h
  unfold boundV at h
  split at h
  · cases h
  · rename_i b hb
    have := key L b hL hb
    unfold plainV at h
    split at h
    · cases h; exact this
    · split at h
      · cases h; exact (show 0 < 2 ^ 64 by decide)
      · split at h
        · cases h; exact (show 0 < 2 ^ 64 by decide)
        · cases h
theorem ev_nb (C : Bs → Nat) {L : List Bnd} (hL : ∀ b ∈ L, b.v.n < 2 ^ 64) : ∀ n (t : Tree), szT t ≤ n → nbT t → NOk (evT C L t).n := by
  intro n
  induction n with
  | zero => intro t h; cases t; simp only [szT] at h; omega
  | succ n ih =>
    intro t hn hb
    obtain ⟨op, fn, s, c⟩ := t
    have hsz : szL c ≤ n := by simp only [szT] at hn; omega
    rw [evT]
    split
    · exact nok_fA hb.1
    · split
      · exact nok_zero
      · split
        · split
          · rename_i v hv; exact nok_fA (bound_nb hL hv)
          · exact nok_zero
        · match c, hb.2, hsz with
          | [], _, _ => exact nok_zero
          | [t0], h2, h3 =>
            simp only [szL] at h3
            simp only [evL]
            exact one_n C op _ (ih t0 (by omega) h2.1)
          | [t0, t1], _, _ =>
            simp only [evL]
            exact two_n op _ _
          | t0 :: t1 :: t2 :: r, _, _ =>
            simp only [evL]
            exact nok_zero
set_option maxRecDepth 100000 in
set_option maxHeartbeats 8000000 in
theorem rfound_leaf (L : List Bnd) (hLL : L.length ≤ 1000000) (vb : Value) (op s : Bs) (fn : Nat) (l : List Tree) (hty : (tyT L (.mk op fn s l)).2 = 0) (hop : op = wnum ∨ op = wtext ∨ op = wname) (A : Nat → Prop) (v : Value) (m : Int) (w : World) (hv : NodeV A w v (.mk op fn s l)) (hbv : BndV w vb L) (hm : MaxLn m w) :
    Calls Tryz.prog 26 #[v, vb] w (VEnd (evT clN L (.mk op fn s l)) w) := by
  obtain ⟨x, cap, rfl, hcap, _⟩ := hv
  have HEI := Lib.hid (EI.start hm (tx op) fn (tx s) x l.length cap)
  have HBV := Lib.hid hbv
  have HNM := Lib.hid (fun c W => rnumV c W)
  have HBN := Lib.hid (fun W h => rbound s vb L hLL W h)
  have HBT : Hid (op = wname → ∃ v, boundV L s = some v) := Lib.hid (ty_ok hty).2.2
  obtain ⟨bx, bn, bc, rfl⟩ := hbv.agg
  obtain ⟨R, hR⟩ : ∃ R, R = evT clN L (.mk op fn s l) := ⟨_, rfl⟩
  rw [← hR]
  rw [evT] at hR
  generalize l.length = N at HEI hcap ⊢
  clear hty hbv hm
  rcases hop with hop | hop | hop
  · have HM : Hid (R = avN (fA fn)) := Lib.hid (by rw [hR, if_pos hop])
    have b0 : ((tx op).toList == [110, 117, 109]) = true := by rw [hop]; exact tx_same _
    clear hR hop HBT HBN
    generalize tx op = T at *
    generalize tx s = S at *
    go_enter Tryz.func26, Tryz.ntmps26
    go_upto_region 1 with (fail)
    generalize ((w.alloc (.cells #[.string T, .float .f64 fn, .string S, .slice x N cap] 26)).alloc (.cells #[.int .i64 0, .float .f64 0, .string ⟨#[]⟩, .bool false] 40)) = W0 at HEI ⊢
    obtain ⟨p0, p1, p2, p3, _⟩ := HEI.out.node.cells
    have hlt := HEI.out.r.lt
    go_wp2_with (first | (go_at_call 23; fail))
    go_at_call 23
    refine (HNM.out _ _).mono ?_
    rintro e w5 ⟨hb5, v5, rfl, hv5⟩
    obtain ⟨hz, n5, rfl, hz2, hend⟩ := EI.fin HEI.out HM.out hv5 hb5
    have HE := Lib.hid (And.intro hz2 hend)
    obtain ⟨k0, k1, k2, k3⟩ := hz.cells
    have f0 := hz.fr 0
    have f1 := hz.fr 1
    have f2 := hz.fr 2
    have f3 := hz.fr 3
    clear hz hz2 hend hb5 hv5
    go_wp2
    exact bodyPost_ret (val_res rfl _ _ (w.heap.size + 1) _ _ _ _ rfl HE.out.1) rfl HE.out.2
  · have HM : Hid (R = ⟨2, some 0, s, false⟩) := Lib.hid (by rw [hR, if_neg (by rw [hop]; decide), if_pos hop])
    have b0 : ((tx op).toList == [110, 117, 109]) = false := tx_ne (by rw [hop]; decide)
    have b1 : ((tx op).toList == [116, 101, 120, 116]) = true := by rw [hop]; exact tx_same _
    clear hR hop HBT HBN
    generalize tx op = T at *
    go_enter Tryz.func26, Tryz.ntmps26
    go_upto_region 1 with (fail)
    generalize ((w.alloc (.cells #[.string T, .float .f64 fn, .string (tx s), .slice x N cap] 26)).alloc (.cells #[.int .i64 0, .float .f64 0, .string ⟨#[]⟩, .bool false] 40)) = W0 at HEI ⊢
    obtain ⟨p0, p1, p2, p3, _⟩ := HEI.out.node.cells
    have hlt := HEI.out.r.lt
    have HE := Lib.hid (EI.put HEI.out HM.out (n := 0) fA_zero 2 rfl (tx s) rfl false rfl (.cells #[] 0)).1
    obtain ⟨k0, k1, k2, k3⟩ := HEI.out.r.cells
    have f0 := HEI.out.r.fr 0
    have f1 := HEI.out.r.fr 1
    have f2 := HEI.out.r.fr 2
    have f3 := HEI.out.r.fr 3
    go_wp2
    exact bodyPost_ret (val_res rfl _ _ (w.heap.size + 1) _ _ _ _ rfl HE.out.1) rfl HE.out.2
  · obtain ⟨bv, hbo⟩ := HBT.out hop
    have HM : Hid (R = avOf bv) := Lib.hid (by rw [hR, if_neg (by rw [hop]; decide), if_neg (by rw [hop]; decide), if_pos hop, hbo])
    obtain ⟨bb, hbb, hpl⟩ : ∃ bb, rbV L s = (vlV bb, true) ∧ plainV bb = some bv := by
      rcases rb_bound (L := L) (s := s) with ⟨h1, _⟩ | ⟨v', b', h1, h2, _, h4⟩
      · rw [h1] at hbo; cases hbo
      · rw [h1] at hbo; cases hbo; exact ⟨b', h2, h4⟩
    have b0 : ((tx op).toList == [110, 117, 109]) = false := tx_ne (by rw [hop]; decide)
    have b1 : ((tx op).toList == [116, 101, 120, 116]) = false := tx_ne (by rw [hop]; decide)
    have b2 : ((tx op).toList == [110, 97, 109, 101]) = true := by rw [hop]; exact tx_same _
    rw [hbb] at HBN
    have HPL := Lib.hid (fun W => rplain bb bv hpl W)
    clear hR hop HBT hbo hbb hpl
    generalize tx op = T at *
    go_enter Tryz.func26, Tryz.ntmps26
    go_upto_region 1 with (fail)
    generalize ((w.alloc (.cells #[.string T, .float .f64 fn, .string (tx s), .slice x N cap] 26)).alloc (.cells #[.int .i64 0, .float .f64 0, .string ⟨#[]⟩, .bool false] 40)) = W0 at HEI ⊢
    obtain ⟨p0, p1, p2, p3, _⟩ := HEI.out.node.cells
    have hlt := HEI.out.r.lt
    obtain ⟨vt, vn, vs, vb'⟩ := bb
    unfold vlV at HBN HPL
    go_wp2_with (first | (go_at_call 43; fail))
    refine (HBN.out _ (HBV.out.below HEI.out.bel)).mono ?_
    rintro e w3 ⟨rfl, hb3⟩
    have HEI3 := Lib.hid ((HEI.out.below hb3).below ((Below.refl w3.heap.size w3).alloc (Nat.le_refl _) (.cells #[.int .i64 vt, .float .f64 vn, .string (tx vs), .bool vb'] 40)))
    clear hb3
    go_wp2_with (first | (go_at_call 44; fail))
    refine (HPL.out _).mono ?_
    rintro e w5 ⟨hb5, v5, rfl, hv5⟩
    obtain ⟨hz, n5, rfl, hz2, hend⟩ := EI.fin HEI3.out HM.out hv5 hb5
    have HE := Lib.hid (And.intro hz2 hend)
    obtain ⟨k0, k1, k2, k3⟩ := hz.cells
    have f0 := hz.fr 0
    have f1 := hz.fr 1
    have f2 := hz.fr 2
    have f3 := hz.fr 3
    clear hz hz2 hend hb5 hv5
    go_wp2
    exact bodyPost_ret (val_res rfl _ _ (w.heap.size + 1) _ _ _ _ rfl HE.out.1) rfl HE.out.2
end Go.Proofs.YtmhfnpabgkkjaaaGreat
/- Walk: the reference's found at an Op of one and of two, and all of it (printed by gen_ta.py). -/
namespace Go.Proofs.YtmhfnpabgkkjaaaGreat
open Go.RowKit Go.Shelf Ieee
attribute [local go_sem] run_store_float
set_option maxRecDepth 100000 in
set_option maxHeartbeats 8000000 in
theorem rfound_one (L : List Bnd) (vb : Value) (op s : Bs) (fn : Nat) (t0 : Tree) (hop0 : op ≠ wnum) (hop1 : op ≠ wtext) (hop2 : op ≠ wname) (ho : op = wnot ∨ op = wneg ∨ op = wabs ∨ op = wlen) (A : Nat → Prop) (v : Value) (m : Int) (w : World) (hbv : BndV w vb L) (hm : MaxLn m w)
    (hlen : (evT clN L t0).s.length ≤ 900000) (hnb : NOk (evT clN L t0).n) (HK : ∀ (v : Value) (W : World), NodeV A W v t0 → BndV W vb L → MaxLn m W → Calls Tryz.prog 26 #[v, vb] W (VEnd (evT clN L t0) W))
    (hv : NodeV A w v (.mk op fn s [t0])) :
    Calls Tryz.prog 26 #[v, vb] w (VEnd (evT clN L (.mk op fn s [t0])) w) := by
  obtain ⟨x, cap, rfl, hcap, hx, hch⟩ := hv
  obtain ⟨a, rfl⟩ : ∃ a, x = some a := by
    cases x with
    | none => have := hx rfl; cases this
    | some a => exact ⟨a, rfl⟩
  obtain ⟨hab, ⟨⟨u0, u1, u2, u3, e0, e1, e2, e3, hnode⟩, _⟩⟩ := hch a rfl
  replace hab := (hab (by intro e; cases e)).2
  simp only [Nat.zero_mul, Nat.zero_add] at e0 e1 e2 e3
  rw [show a.add 0 = a from rfl] at e0
  have e1' : w.cell? ⟨a.block, a.off + 1, none⟩ = some u1 := by simpa [Addr.add] using e1
  have e2' : w.cell? ⟨a.block, a.off + 2, none⟩ = some u2 := by simpa [Addr.add] using e2
  have e3' : w.cell? ⟨a.block, a.off + 3, none⟩ = some u3 := by simpa [Addr.add] using e3
  obtain ⟨o1, n1, s1, x1, l1, c1, hag⟩ := hnode.agg
  cases hag
  have HND := Lib.hid hnode
  have HKK := Lib.hid HK
  have HLEN := Lib.hid hlen
  have HEI := Lib.hid (EI.start hm (tx op) fn (tx s) (some a) 1 cap)
  have HBV := Lib.hid hbv
  obtain ⟨bx, bn, bc, rfl⟩ := hbv.agg
  obtain ⟨R, hR⟩ : ∃ R, R = evT clN L (.mk op fn s [t0]) := ⟨_, rfl⟩
  rw [← hR]
  rw [evT, if_neg hop0, if_neg hop1, if_neg hop2] at hR
  have hR1 : R = oneA clN op (evT clN L t0) := hR
  have HM := Lib.hid hR1
  obtain ⟨A1, hA1⟩ : ∃ x, x = evT clN L t0 := ⟨_, rfl⟩
  have HNB := Lib.hid hnb
  rw [← hA1] at HM HKK HLEN HNB
  have HBO := Lib.hid (fun (va : Value) (W : World) h1 => roneV op ho va A1 HLEN.out HNB.out W h1)
  have b0 : ((tx op).toList == [110, 117, 109]) = false := tx_ne hop0
  have b1 : ((tx op).toList == [116, 101, 120, 116]) = false := tx_ne hop1
  have b2 : ((tx op).toList == [110, 97, 109, 101]) = false := tx_ne hop2
  obtain ⟨T, hT⟩ : ∃ T, T = tx op := ⟨_, rfl⟩
  rw [← hT] at b0 b1 b2 HEI HBO ⊢
  clear hR hR1 hch hx hbv hm hnode HK hlen hcap hop0 hop1 hop2 hA1 hT e1 e2 e3 hnb ho
  show Calls Tryz.prog 26 #[.agg #[.string T, .float .f64 fn, .string (tx s), .slice (some a) 1 cap], .slice bx bn bc] w (VEnd R w)
  go_enter Tryz.func26, Tryz.ntmps26
  go_upto_region 1 with (fail)
  generalize ((w.alloc (.cells #[.string T, .float .f64 fn, .string (tx s), .slice (some a) 1 cap] 26)).alloc (.cells #[.int .i64 0, .float .f64 0, .string ⟨#[]⟩, .bool false] 40)) = W7 at HEI ⊢
  have hlt := HEI.out.r.lt
  have HSS : Hid (∀ W : World, (∀ b, b < W7.heap.size → b ≠ w.heap.size + 1 → W.heap[b]? = W7.heap[b]?) → W.cell? ⟨w.heap.size, 0, none⟩ = some (.string T) ∧ W.cell? ⟨w.heap.size, 3, none⟩ = some (.slice (some a) 1 cap) ∧ W.cell? a = some (.string o1) ∧ W.cell? ⟨a.block, a.off + 1, none⟩ = some (.float .f64 n1) ∧ W.cell? ⟨a.block, a.off + 2, none⟩ = some (.string s1) ∧ W.cell? ⟨a.block, a.off + 3, none⟩ = some (.slice x1 l1 c1)) := Lib.hid (fun W hW => by
    obtain ⟨p0, p1, p2, p3, _⟩ := HEI.out.node.cells
    have hnl := HEI.out.node.lt
    have k1 : W.heap[w.heap.size]? = W7.heap[w.heap.size]? := hW _ hnl (by omega)
    have k3 : W.heap[a.block]? = w.heap[a.block]? := (hW _ (by omega) (by omega)).trans (HEI.out.bel.block _ hab)
    exact ⟨cell_same (a := ⟨w.heap.size, 0, none⟩) k1 p0, cell_same (a := ⟨w.heap.size, 3, none⟩) k1 p3, cell_same k3 e0, cell_same (a := ⟨a.block, a.off + 1, none⟩) k3 e1', cell_same (a := ⟨a.block, a.off + 2, none⟩) k3 e2', cell_same (a := ⟨a.block, a.off + 3, none⟩) k3 e3'⟩)
  obtain ⟨p0, p3, d0, d1, d2, d3⟩ := HSS.out W7 (fun _ _ _ => rfl)
  have HS0 := Lib.hid (HSS.out W7.drew (fun _ _ _ => rfl))
  clear e0 e1' e2' e3'
  go_wp2_with fail
  refine wp_region_held (S := (fun w' => w'.cell? ⟨w.heap.size, 0, none⟩ = some (.string T) ∧ w'.cell? ⟨w.heap.size, 3, none⟩ = some (.slice (some a) 1 cap) ∧ w'.cell? a = some (.string o1) ∧ w'.cell? ⟨a.block, a.off + 1, none⟩ = some (.float .f64 n1) ∧ w'.cell? ⟨a.block, a.off + 2, none⟩ = some (.string s1) ∧ w'.cell? ⟨a.block, a.off + 3, none⟩ = some (.slice x1 l1 c1))) (by kernel_rfl) ?_
  change wpAnyH _ _ _ _ _ _ _ _ (World.drew _)
  refine wpAnyH_take (i := 0) (v := _) rfl (by kernel_rfl) (by kernel_rfl) (by kernel_rfl) (fun _ _ _ h => h) (Or.inl ⟨by rfl, by intro w hSw; (try dsimp only at hSw); go_simp; try (with_reducible rfl)⟩) HS0.out ?_
  try simp only [Act.put, List.setIfInBounds_toArray]
  refine wpAnyH_take (i := 1) (v := _) rfl (by kernel_rfl) (by kernel_rfl) (by kernel_rfl) (fun _ _ _ h => h) (Or.inl ⟨by rfl, by intro w hSw; (try dsimp only at hSw); go_simp; try (with_reducible rfl)⟩) HS0.out ?_
  try simp only [Act.put]
  refine wpAnyH_take (i := 2) (v := _) rfl (by kernel_rfl) (by kernel_rfl) (by kernel_rfl) (fun _ _ _ h => h) (Or.inl ⟨by rfl, by intro w hSw; (try dsimp only at hSw); go_simp; try (with_reducible rfl)⟩) HS0.out ?_
  try simp only [Act.put]
  refine wpAnyH_take (i := 3) (v := _) rfl (by kernel_rfl) (by kernel_rfl) (by kernel_rfl) (fun _ _ _ h => h) (Or.inl ⟨by rfl, by intro w hSw; (try dsimp only at hSw); go_simp; try (with_reducible rfl)⟩) HS0.out ?_
  try simp only [Act.put]
  refine wpAnyH_take (i := 4) (v := _) rfl (by kernel_rfl) (by kernel_rfl) (by kernel_rfl) (fun _ _ _ h => h) (Or.inl ⟨by rfl, by intro w hSw; (try dsimp only at hSw); go_simp; try (with_reducible rfl)⟩) HS0.out ?_
  try simp only [Act.put]
  refine wpAnyH_take (i := 5) (v := _) rfl (by kernel_rfl) (by kernel_rfl) (by kernel_rfl) (fun _ _ _ h => h) (Or.inl ⟨by rfl, by intro w hSw; (try dsimp only at hSw); go_simp; try (with_reducible rfl)⟩) HS0.out ?_
  try simp only [Act.put]
  refine wpAnyH_take (i := 6) (v := _) rfl (by kernel_rfl) (by kernel_rfl) (by kernel_rfl) (fun _ _ _ h => h) (Or.inl ⟨by rfl, by intro w hSw; (try dsimp only at hSw); go_simp; try (with_reducible rfl)⟩) HS0.out ?_
  try simp only [Act.put]
  refine wpAnyH_ready (rs := [7]) (by kernel_rfl) (by simp) ?_
  refine AllReadyH.cons rfl (fun K hK => ?_) AllReadyH.nil
  have HEI8 := Lib.hid (HEI.out.below (Below.refl _ _).drew)
  go_simp
  go_wp2_with (first | (go_at_call 26; fail))
  refine (HKK.out _ W7.drew (HND.out.below HEI8.out.bel) (HBV.out.below HEI8.out.bel) HEI8.out.mx).mono ?_
  rintro e w8 ⟨hb8, v8, rfl, m8, rfl, hn8⟩
  have HEI9 := Lib.hid (HEI8.out.below hb8)
  have HN8 := Lib.hid hn8
  have HL8 : Hid (∀ b, b < W7.heap.size → b < w8.heap.size ∧ w8.heap[b]? = W7.heap[b]?) := Lib.hid (fun b h => by
    have h1 : W7.heap.size ≤ w8.heap.size := hb8.size
    exact ⟨by omega, hb8.block b h⟩)
  have HS8 := Lib.hid (HSS.out w8 (fun b h1 _ => (HL8.out b h1).2))
  clear hb8 hn8
  refine hK.out _ _ HS8.out (fun _ => ?_)
  clear hK K
  try simp only [Act.put, List.setIfInBounds_toArray, List.set_cons_zero, List.set_cons_succ]
  refine wpAnyH_ready (rs := [8]) (by kernel_rfl) (by simp) ?_
  refine AllReadyH.cons rfl (fun K hK => ?_) AllReadyH.nil
  go_simp
  go_wp2_with (first | (go_at_call 45; fail))
  refine (HBO.out _ w8 ⟨m8, rfl, HN8.out⟩).mono ?_
  rintro e w9 ⟨hb9, v9, rfl, hv9⟩
  obtain ⟨hz, n9, rfl, hz2, hend⟩ := EI.fin HEI9.out HM.out hv9 hb9
  have HE := Lib.hid (And.intro hz2 hend)
  have HS9 := Lib.hid (HSS.out w9 (fun b h1 _ => (hb9.block b (HL8.out b h1).1).trans (HL8.out b h1).2))
  have HS10 := Lib.hid (fun u0 u1 u2 u3 => HSS.out (putN w9 (w.heap.size + 1) u0 u1 u2 u3) (fun b h1 h2 => (putN_other h2).trans ((hb9.block b (HL8.out b h1).1).trans (HL8.out b h1).2)))
  obtain ⟨k0, k1, k2, k3⟩ := hz.cells
  have f0 := hz.fr 0
  have f1 := hz.fr 1
  have f2 := hz.fr 2
  have f3 := hz.fr 3
  clear hz hz2 hend hb9 hv9
  refine hK.out _ _ HS9.out (fun _ => ?_)
  clear hK K
  try simp only [Act.put, List.setIfInBounds_toArray, List.set_cons_zero, List.set_cons_succ]
  refine wpAnyH_ready (rs := [9]) (by kernel_rfl) (by simp) ?_
  refine AllReadyH.cons rfl (fun K hK => ?_) AllReadyH.nil
  go_simp
  refine hK.out _ _ (HS10.out _ _ _ _) (fun _ => ?_)
  clear hK K
  try simp only [Act.put, List.setIfInBounds_toArray, List.set_cons_zero, List.set_cons_succ]
  refine wpAnyH_done (by kernel_rfl) ?_ _
  go_wp2
  exact bodyPost_ret (val_res rfl _ _ (w.heap.size + 1) _ _ _ _ rfl HE.out.1) rfl HE.out.2
set_option maxRecDepth 100000 in
set_option maxHeartbeats 8000000 in
theorem rfound_two (L : List Bnd) (vb : Value) (op s : Bs) (fn : Nat) (t0 t1 : Tree) (hop0 : op ≠ wnum) (hop1 : op ≠ wtext) (hop2 : op ≠ wname) (htk : takesT op = some 2) (A : Nat → Prop) (v : Value) (m : Int) (w : World) (hbv : BndV w vb L) (hm : MaxLn m w)
    (hlen : (evT clN L t0).s.length ≤ 900000) (hlen2 : (evT clN L t1).s.length ≤ 900000) (HK : ∀ (v : Value) (W : World), NodeV A W v t0 → BndV W vb L → MaxLn m W → Calls Tryz.prog 26 #[v, vb] W (VEnd (evT clN L t0) W))
    (HK2 : ∀ (v : Value) (W : World), NodeV A W v t1 → BndV W vb L → MaxLn m W → Calls Tryz.prog 26 #[v, vb] W (VEnd (evT clN L t1) W)) (hv : NodeV A w v (.mk op fn s [t0, t1])) :
    Calls Tryz.prog 26 #[v, vb] w (VEnd (evT clN L (.mk op fn s [t0, t1])) w) := by
  obtain ⟨x, cap, rfl, hcap, hx, hch⟩ := hv
  obtain ⟨a, rfl⟩ : ∃ a, x = some a := by
    cases x with
    | none => have := hx rfl; cases this
    | some a => exact ⟨a, rfl⟩
  obtain ⟨hab, ⟨⟨u0, u1, u2, u3, e0, e1, e2, e3, hnode⟩, ⟨⟨y0, y1, y2, y3, e4, e5, e6, e7, hnode2⟩, _⟩⟩⟩ := hch a rfl
  replace hab := (hab (by intro e; cases e)).2
  simp only [Nat.zero_mul, Nat.zero_add, Nat.one_mul] at e0 e1 e2 e3 e4 e5 e6 e7
  rw [show a.add 0 = a from rfl] at e0
  have e1' : w.cell? ⟨a.block, a.off + 1, none⟩ = some u1 := by simpa [Addr.add] using e1
  have e2' : w.cell? ⟨a.block, a.off + 2, none⟩ = some u2 := by simpa [Addr.add] using e2
  have e3' : w.cell? ⟨a.block, a.off + 3, none⟩ = some u3 := by simpa [Addr.add] using e3
  have e4' : w.cell? ⟨a.block, a.off + 4, none⟩ = some y0 := by simpa [Addr.add] using e4
  have e5' : w.cell? ⟨a.block, a.off + 4 + 1, none⟩ = some y1 := by simpa [Addr.add] using e5
  have e6' : w.cell? ⟨a.block, a.off + 4 + 2, none⟩ = some y2 := by simpa [Addr.add] using e6
  have e7' : w.cell? ⟨a.block, a.off + 4 + 3, none⟩ = some y3 := by simpa [Addr.add] using e7
  obtain ⟨o1, n1, s1, x1, l1, c1, hag⟩ := hnode.agg
  cases hag
  obtain ⟨o2, n2, s2, x2, l2, c2, hag⟩ := hnode2.agg
  cases hag
  have HND2 := Lib.hid hnode2
  have HKK2 := Lib.hid HK2
  have HLEN2 := Lib.hid hlen2
  have HND := Lib.hid hnode
  have HKK := Lib.hid HK
  have HLEN := Lib.hid hlen
  have HEI := Lib.hid (EI.start hm (tx op) fn (tx s) (some a) 2 cap)
  have HBV := Lib.hid hbv
  obtain ⟨bx, bn, bc, rfl⟩ := hbv.agg
  obtain ⟨R, hR⟩ : ∃ R, R = evT clN L (.mk op fn s [t0, t1]) := ⟨_, rfl⟩
  rw [← hR]
  rw [evT, if_neg hop0, if_neg hop1, if_neg hop2] at hR
  have hR1 : R = twoA op (evT clN L t0) (evT clN L t1) := hR
  have HM := Lib.hid hR1
  obtain ⟨A1, hA1⟩ : ∃ x, x = evT clN L t0 := ⟨_, rfl⟩
  obtain ⟨A2, hA2⟩ : ∃ x, x = evT clN L t1 := ⟨_, rfl⟩
  rw [← hA1] at HM HKK HLEN
  rw [← hA2] at HM HKK2 HLEN2
  have HBO := Lib.hid (fun (va vb : Value) (W : World) h1 h2 h3 => rboth op htk va vb A1 A2 m (by have := HLEN.out; omega) (by have := HLEN2.out; omega) W h1 h2 h3)
  have b0 : ((tx op).toList == [110, 117, 109]) = false := tx_ne hop0
  have b1 : ((tx op).toList == [116, 101, 120, 116]) = false := tx_ne hop1
  have b2 : ((tx op).toList == [110, 97, 109, 101]) = false := tx_ne hop2
  obtain ⟨T, hT⟩ : ∃ T, T = tx op := ⟨_, rfl⟩
  rw [← hT] at b0 b1 b2 HEI HBO ⊢
  clear hR hR1 hch hx hbv hm hnode HK hlen hcap hop0 hop1 hop2 hA1 hT e1 e2 e3 e4 e5 e6 e7 hnode2 HK2 hlen2 htk hA2
  show Calls Tryz.prog 26 #[.agg #[.string T, .float .f64 fn, .string (tx s), .slice (some a) 2 cap], .slice bx bn bc] w (VEnd R w)
  go_enter Tryz.func26, Tryz.ntmps26
  go_upto_region 1 with (fail)
  generalize ((w.alloc (.cells #[.string T, .float .f64 fn, .string (tx s), .slice (some a) 2 cap] 26)).alloc (.cells #[.int .i64 0, .float .f64 0, .string ⟨#[]⟩, .bool false] 40)) = W7 at HEI ⊢
  have hlt := HEI.out.r.lt
  have HSS : Hid (∀ W : World, (∀ b, b < W7.heap.size → b ≠ w.heap.size + 1 → W.heap[b]? = W7.heap[b]?) → W.cell? ⟨w.heap.size, 0, none⟩ = some (.string T) ∧ W.cell? ⟨w.heap.size, 3, none⟩ = some (.slice (some a) 2 cap) ∧ W.cell? a = some (.string o1) ∧ W.cell? ⟨a.block, a.off + 1, none⟩ = some (.float .f64 n1) ∧ W.cell? ⟨a.block, a.off + 2, none⟩ = some (.string s1) ∧ W.cell? ⟨a.block, a.off + 3, none⟩ = some (.slice x1 l1 c1) ∧ W.cell? ⟨a.block, a.off + 4, none⟩ = some (.string o2) ∧ W.cell? ⟨a.block, a.off + 4 + 1, none⟩ = some (.float .f64 n2) ∧ W.cell? ⟨a.block, a.off + 4 + 2, none⟩ = some (.string s2) ∧ W.cell? ⟨a.block, a.off + 4 + 3, none⟩ = some (.slice x2 l2 c2)) := Lib.hid (fun W hW => by
    obtain ⟨p0, p1, p2, p3, _⟩ := HEI.out.node.cells
    have hnl := HEI.out.node.lt
    have k1 : W.heap[w.heap.size]? = W7.heap[w.heap.size]? := hW _ hnl (by omega)
    have k3 : W.heap[a.block]? = w.heap[a.block]? := (hW _ (by omega) (by omega)).trans (HEI.out.bel.block _ hab)
    exact ⟨cell_same (a := ⟨w.heap.size, 0, none⟩) k1 p0, cell_same (a := ⟨w.heap.size, 3, none⟩) k1 p3, cell_same k3 e0, cell_same (a := ⟨a.block, a.off + 1, none⟩) k3 e1', cell_same (a := ⟨a.block, a.off + 2, none⟩) k3 e2', cell_same (a := ⟨a.block, a.off + 3, none⟩) k3 e3', cell_same (a := ⟨a.block, a.off + 4, none⟩) k3 e4', cell_same (a := ⟨a.block, a.off + 4 + 1, none⟩) k3 e5', cell_same (a := ⟨a.block, a.off + 4 + 2, none⟩) k3 e6', cell_same (a := ⟨a.block, a.off + 4 + 3, none⟩) k3 e7'⟩)
  obtain ⟨p0, p3, d0, d1, d2, d3, d4, d5, d6, d7⟩ := HSS.out W7 (fun _ _ _ => rfl)
  have HS0 := Lib.hid (HSS.out W7.drew (fun _ _ _ => rfl))
  clear e0 e1' e2' e3' e4' e5' e6' e7'
  go_wp2_with fail
  refine wp_region_held (S := (fun w' => w'.cell? ⟨w.heap.size, 0, none⟩ = some (.string T) ∧ w'.cell? ⟨w.heap.size, 3, none⟩ = some (.slice (some a) 2 cap) ∧ w'.cell? a = some (.string o1) ∧ w'.cell? ⟨a.block, a.off + 1, none⟩ = some (.float .f64 n1) ∧ w'.cell? ⟨a.block, a.off + 2, none⟩ = some (.string s1) ∧ w'.cell? ⟨a.block, a.off + 3, none⟩ = some (.slice x1 l1 c1) ∧ w'.cell? ⟨a.block, a.off + 4, none⟩ = some (.string o2) ∧ w'.cell? ⟨a.block, a.off + 4 + 1, none⟩ = some (.float .f64 n2) ∧ w'.cell? ⟨a.block, a.off + 4 + 2, none⟩ = some (.string s2) ∧ w'.cell? ⟨a.block, a.off + 4 + 3, none⟩ = some (.slice x2 l2 c2))) (by kernel_rfl) ?_
  change wpAnyH _ _ _ _ _ _ _ _ (World.drew _)
  refine wpAnyH_take (i := 0) (v := _) rfl (by kernel_rfl) (by kernel_rfl) (by kernel_rfl) (fun _ _ _ h => h) (Or.inl ⟨by rfl, by intro w hSw; (try dsimp only at hSw); go_simp; try (with_reducible rfl)⟩) HS0.out ?_
  try simp only [Act.put, List.setIfInBounds_toArray]
  refine wpAnyH_take (i := 1) (v := _) rfl (by kernel_rfl) (by kernel_rfl) (by kernel_rfl) (fun _ _ _ h => h) (Or.inl ⟨by rfl, by intro w hSw; (try dsimp only at hSw); go_simp; try (with_reducible rfl)⟩) HS0.out ?_
  try simp only [Act.put]
  refine wpAnyH_take (i := 2) (v := _) rfl (by kernel_rfl) (by kernel_rfl) (by kernel_rfl) (fun _ _ _ h => h) (Or.inl ⟨by rfl, by intro w hSw; (try dsimp only at hSw); go_simp; try (with_reducible rfl)⟩) HS0.out ?_
  try simp only [Act.put]
  refine wpAnyH_take (i := 3) (v := _) rfl (by kernel_rfl) (by kernel_rfl) (by kernel_rfl) (fun _ _ _ h => h) (Or.inl ⟨by rfl, by intro w hSw; (try dsimp only at hSw); go_simp; try (with_reducible rfl)⟩) HS0.out ?_
  try simp only [Act.put]
  refine wpAnyH_take (i := 4) (v := _) rfl (by kernel_rfl) (by kernel_rfl) (by kernel_rfl) (fun _ _ _ h => h) (Or.inl ⟨by rfl, by intro w hSw; (try dsimp only at hSw); go_simp; try (with_reducible rfl)⟩) HS0.out ?_
  try simp only [Act.put]
  refine wpAnyH_take (i := 5) (v := _) rfl (by kernel_rfl) (by kernel_rfl) (by kernel_rfl) (fun _ _ _ h => h) (Or.inl ⟨by rfl, by intro w hSw; (try dsimp only at hSw); go_simp; try (with_reducible rfl)⟩) HS0.out ?_
  try simp only [Act.put]
  refine wpAnyH_take (i := 6) (v := _) rfl (by kernel_rfl) (by kernel_rfl) (by kernel_rfl) (fun _ _ _ h => h) (Or.inl ⟨by rfl, by intro w hSw; (try dsimp only at hSw); go_simp; try (with_reducible rfl)⟩) HS0.out ?_
  try simp only [Act.put]
  refine wpAnyH_take (i := 8) (v := _) rfl (by kernel_rfl) (by kernel_rfl) (by kernel_rfl) (fun _ _ _ h => h) (Or.inl ⟨by rfl, by intro w hSw; (try dsimp only at hSw); go_simp; try (with_reducible rfl)⟩) HS0.out ?_
  try simp only [Act.put]
  refine wpAnyH_take (i := 9) (v := _) rfl (by kernel_rfl) (by kernel_rfl) (by kernel_rfl) (fun _ _ _ h => h) (Or.inl ⟨by rfl, by intro w hSw; (try dsimp only at hSw); go_simp; try (with_reducible rfl)⟩) HS0.out ?_
  try simp only [Act.put]
  refine wpAnyH_take (i := 10) (v := _) rfl (by kernel_rfl) (by kernel_rfl) (by kernel_rfl) (fun _ _ _ h => h) (Or.inl ⟨by rfl, by intro w hSw; (try dsimp only at hSw); go_simp; try (with_reducible rfl)⟩) HS0.out ?_
  try simp only [Act.put]
  refine wpAnyH_take (i := 11) (v := _) rfl (by kernel_rfl) (by kernel_rfl) (by kernel_rfl) (fun _ _ _ h => h) (Or.inl ⟨by rfl, by intro w hSw; (try dsimp only at hSw); go_simp; try (with_reducible rfl)⟩) HS0.out ?_
  try simp only [Act.put]
  refine wpAnyH_take (i := 12) (v := _) rfl (by kernel_rfl) (by kernel_rfl) (by kernel_rfl) (fun _ _ _ h => h) (Or.inl ⟨by rfl, by intro w hSw; (try dsimp only at hSw); go_simp; try (with_reducible rfl)⟩) HS0.out ?_
  try simp only [Act.put]
  have HEI8 := Lib.hid (HEI.out.below (Below.refl _ _).drew)
  refine wpAnyH_ready (rs := [7]) (by kernel_rfl) (by simp) ?_
  refine AllReadyH.cons rfl (fun K hK => ?_) AllReadyH.nil
  go_simp
  go_wp2_with (first | (go_at_call 26; fail))
  refine (HKK.out _ W7.drew (HND.out.below HEI8.out.bel) (HBV.out.below HEI8.out.bel) HEI8.out.mx).mono ?_
  rintro e w8 ⟨hb8, v8, rfl, m8, rfl, hn8⟩
  have HEI9 := Lib.hid (HEI8.out.below hb8)
  have HN8 := Lib.hid hn8
  have HL8 : Hid (∀ b, b < W7.heap.size → b < w8.heap.size ∧ w8.heap[b]? = W7.heap[b]?) := Lib.hid (fun b h => by
    have h1 : W7.heap.size ≤ w8.heap.size := hb8.size
    exact ⟨by omega, hb8.block b h⟩)
  have HS8 := Lib.hid (HSS.out w8 (fun b h1 _ => (HL8.out b h1).2))
  clear hb8 hn8
  refine hK.out _ _ HS8.out (fun _ => ?_)
  clear hK K
  try simp only [Act.put, List.setIfInBounds_toArray, List.set_cons_zero, List.set_cons_succ]
  refine wpAnyH_ready (rs := [13]) (by kernel_rfl) (by simp) ?_
  refine AllReadyH.cons rfl (fun K hK => ?_) AllReadyH.nil
  go_simp
  go_wp2_with (first | (go_at_call 26; fail))
  refine (HKK2.out _ w8 (HND2.out.below HEI9.out.bel) (HBV.out.below HEI9.out.bel) HEI9.out.mx).mono ?_
  rintro e w10 ⟨hb8, v8, rfl, m10, rfl, hn8⟩
  have HEI10 := Lib.hid (HEI9.out.below hb8)
  have HN10 := Lib.hid hn8
  have HL10 : Hid (∀ b, b < W7.heap.size → b < w10.heap.size ∧ w10.heap[b]? = W7.heap[b]?) := Lib.hid (fun b h => by
    have h2 := HL8.out b h
    have h1 := hb8.size
    exact ⟨by omega, (hb8.block b h2.1).trans h2.2⟩)
  have HS11 := Lib.hid (HSS.out w10 (fun b h1 _ => (HL10.out b h1).2))
  clear hb8 hn8
  refine hK.out _ _ HS11.out (fun _ => ?_)
  clear hK K
  try simp only [Act.put, List.setIfInBounds_toArray, List.set_cons_zero, List.set_cons_succ]
  refine wpAnyH_ready (rs := [14]) (by kernel_rfl) (by simp) ?_
  refine AllReadyH.cons rfl (fun K hK => ?_) AllReadyH.nil
  go_simp
  go_wp2_with (first | (go_at_call 46; fail))
  refine (HBO.out _ _ w10 ⟨m8, rfl, HN8.out⟩ ⟨m10, rfl, HN10.out⟩ HEI10.out.mx).mono ?_
  rintro e w9 ⟨hb9, v9, rfl, hv9⟩
  obtain ⟨hz, n9, rfl, hz2, hend⟩ := EI.fin HEI10.out HM.out hv9 hb9
  have HE := Lib.hid (And.intro hz2 hend)
  have HS9 := Lib.hid (HSS.out w9 (fun b h1 _ => (hb9.block b (HL10.out b h1).1).trans (HL10.out b h1).2))
  have HS10 := Lib.hid (fun u0 u1 u2 u3 => HSS.out (putN w9 (w.heap.size + 1) u0 u1 u2 u3) (fun b h1 h2 => (putN_other h2).trans ((hb9.block b (HL10.out b h1).1).trans (HL10.out b h1).2)))
  obtain ⟨k0, k1, k2, k3⟩ := hz.cells
  have f0 := hz.fr 0
  have f1 := hz.fr 1
  have f2 := hz.fr 2
  have f3 := hz.fr 3
  clear hz hz2 hend hb9 hv9
  refine hK.out _ _ HS9.out (fun _ => ?_)
  clear hK K
  try simp only [Act.put, List.setIfInBounds_toArray, List.set_cons_zero, List.set_cons_succ]
  refine wpAnyH_ready (rs := [15]) (by kernel_rfl) (by simp) ?_
  refine AllReadyH.cons rfl (fun K hK => ?_) AllReadyH.nil
  go_simp
  refine hK.out _ _ (HS10.out _ _ _ _) (fun _ => ?_)
  clear hK K
  try simp only [Act.put, List.setIfInBounds_toArray, List.set_cons_zero, List.set_cons_succ]
  refine wpAnyH_done (by kernel_rfl) ?_ _
  go_wp2
  exact bodyPost_ret (val_res rfl _ _ (w.heap.size + 1) _ _ _ _ rfl HE.out.1) rfl HE.out.2
/-- The value of a tree that has a type, as the reference finds it. -/
theorem rfound (L : List Bnd) (hLL : L.length ≤ 1000000) (hLS : ∀ b ∈ L, b.v.s.length ≤ 900000) (hLN : ∀ b ∈ L, b.v.n < 2 ^ 64) (vb : Value) (m : Int) : ∀ (n : Nat) (t : Tree), szT t ≤ n → (tyT L t).2 = 0 → txT 900000 t → nbT t → ∀ (A : Nat → Prop) (v : Value) (w : World), NodeV A w v t → BndV w vb L → MaxLn m w →
    Calls Tryz.prog 26 #[v, vb] w (VEnd (evT clN L t) w) := by
  intro n
  induction n with
  | zero => intro t h; cases t; simp only [szT] at h; omega
  | succ n ih =>
    intro t hn hty htx hnb A v w hv hbv hm
    obtain ⟨op, fn, s, l⟩ := t
    by_cases hop : op = wnum ∨ op = wtext ∨ op = wname
    · exact rfound_leaf L hLL vb op s fn l hty hop A v m w hv hbv hm
    · obtain ⟨h1, h2, _⟩ := ty_ok hty
      have hszl : szL l ≤ n := by simp only [szT] at hn; omega
      rcases takes_12 h1 (fun e => hop (.inl e)) (fun e => hop (.inr (.inl e))) (fun e => hop (.inr (.inr e))) with ⟨hl, ho⟩ | ⟨hl, _⟩
      · match l, hl with
        | [t0], _ =>
          simp only [szL] at hszl
          have k0 : txT 900000 t0 := htx.2.1
          have q0 : nbT t0 := hnb.2.1
          exact rfound_one L vb op s fn t0 (fun e => hop (.inl e)) (fun e => hop (.inr (.inl e))) (fun e => hop (.inr (.inr e))) ho A v m w hbv hm (ev_len clN hLS k0) (ev_nb clN hLN _ t0 (Nat.le_refl _) q0) (fun v W a b c => ih t0 (by omega) (h2 0 (by simp)) k0 q0 A v W a b c) hv
      · match l, hl with
        | [t0, t1], _ =>
          simp only [szL] at hszl
          have k0 : txT 900000 t0 := htx.2.1
          have k1 : txT 900000 t1 := htx.2.2.1
          have q0 : nbT t0 := hnb.2.1
          have q1 : nbT t1 := hnb.2.2.1
          exact rfound_two L vb op s fn t0 t1 (fun e => hop (.inl e)) (fun e => hop (.inr (.inl e))) (fun e => hop (.inr (.inr e))) h1 A v m w hbv hm (ev_len clN hLS k0) (ev_len clN hLS k1) (fun v W a b c => ih t0 (by omega) (h2 0 (by simp)) k0 q0 A v W a b c) (fun v W a b c => ih t1 (by omega) (h2 1 (by simp)) k1 q1 A v W a b c) hv
end Go.Proofs.YtmhfnpabgkkjaaaGreat
/- Walks: the reference's Eval, Holds; the numbers of what is parsed fit. -/
namespace Go.Proofs.YtmhfnpabgkkjaaaGreat
open Go.RowKit Go.Shelf Ieee
attribute [local go_sem] run_store_float
theorem nb_two {op : Bs} {a b : Tree} (ha : nbT a) (hb : nbT b) : nbT (two op a b) := ⟨(show 0 < 2 ^ 64 by decide), ha, hb, trivial⟩
theorem nb_one {op : Bs} {a : Tree} (ha : nbT a) : nbT (one op a) := ⟨(show 0 < 2 ^ 64 by decide), ha, trivial⟩
theorem nb_leaf {op s : Bs} {n : Nat} (h : n < 2 ^ 64) : nbT (.mk op n s []) := ⟨h, trivial⟩
def NbC (R : List Tok → Option (Tree × List Tok)) : Prop := ∀ ts a r, R ts = some (a, r) → nbT a
theorem inside_nb {ok : Bool} {R : List Tok → Option (Tree × List Tok)} {ts r : List Tok} {a : Tree} (hR : NbC R) (h : inside ok R ts = some (a, r)) : nbT a := by
  unfold inside at h
  split at h
  · cases h
  · rename_i t1 h1
    split at h
    · cases h
    · rename_i a2 t2 h2
      split at h
      · cases h
      · rename_i t3 h3
        cases h
        exact hR _ _ _ h2
theorem hasP_nb {ok : Bool} {R : List Tok → Option (Tree × List Tok)} {ts r : List Tok} {a : Tree} (hR : NbC R) (h : hasP ok R ts = some (a, r)) : nbT a := by
  unfold hasP at h
  split at h
  · cases h
  · rename_i t1 h1
    split at h
    · cases h
    · rename_i a2 t2 h2
      split at h
      · cases h
      · rename_i t3 h3
        split at h
        · cases h
        · rename_i b t4 h4
          split at h
          · cases h
          · rename_i t5 h5
            cases h
            exact nb_two (hR _ _ _ h2) (hR _ _ _ h4)
def Mode.nb : Mode → Prop
  | .orT t | .andT t | .sumT t | .prodT t => nbT t
  | _ => True
theorem P_nb (V : Bs → Nat) (hV : ∀ l, V l < 2 ^ 64) (ok : Bool) : ∀ (n : Nat) (m : Mode) (ts : List Tok) (a : Tree) (r : List Tok), P V ok n m ts = some (a, r) → m.nb → nbT a := by
  intro n
  induction n with
  | zero => intro m ts a r h; cases h
  | succ n ih =>
    have chain : ∀ (m1 : Mode) (m2 : Tree → Mode) (ts r : List Tok) (a : Tree), m1.nb → (∀ t, nbT t → (m2 t).nb) → (match P V ok n m1 ts with | none => none | some (a, r) => P V ok n (m2 a) r) = some (a, r) → nbT a := by
      intro m1 m2 ts r a hm hm2 h
      split at h
      · cases h
      · rename_i b t1 h1
        exact ih _ _ _ _ h (hm2 _ (ih _ _ _ _ h1 hm))
    have tailr : ∀ (c : Prop) [Decidable c] (m1 : Mode) (m2 : Tree → Mode) (ts r : List Tok) (a x : Tree), m1.nb → (∀ t, nbT t → (m2 t).nb) → (if c then (match adv ok ts with | none => none | some t1 => match P V ok n m1 t1 with | none => none | some (b, r) => P V ok n (m2 b) r) else some (x, ts)) = some (a, r) → nbT x → nbT a := by
      intro c _ m1 m2 ts r a x hm hm2 h hx
      split at h
      · split at h
        · cases h
        · rename_i t1 h1
          split at h
          · cases h
          · rename_i b t2 h2
            exact ih _ _ _ _ h (hm2 _ (ih _ _ _ _ h2 hm))
      · cases h; exact hx
    have hor : NbC (P V ok n .or) := fun ts a r h => ih _ _ _ _ h trivial
    intro m ts a r h hm
    cases m with
    | or => exact chain .and Mode.orT ts r a trivial (fun _ h => h) (by have h' := h; simp only [P] at h'; exact h')
    | and => exact chain .not Mode.andT ts r a trivial (fun _ h => h) (by have h' := h; simp only [P] at h'; exact h')
    | sum => exact chain .prod Mode.sumT ts r a trivial (fun _ h => h) (by have h' := h; simp only [P] at h'; exact h')
    | prod => exact chain .signed Mode.prodT ts r a trivial (fun _ h => h) (by have h' := h; simp only [P] at h'; exact h')
    | orT x => exact tailr _ .and (fun b => Mode.orT (two wor x b)) ts r a x trivial (fun t h => nb_two (op := wor) hm h) (by have h' := h; simp only [P] at h'; exact h') hm
    | andT x => exact tailr _ .not (fun b => Mode.andT (two wand x b)) ts r a x trivial (fun t h => nb_two (op := wand) hm h) (by have h' := h; simp only [P] at h'; exact h') hm
    | sumT x => exact tailr _ .prod (fun b => Mode.sumT (two ((ts.headD ⟨0, []⟩).s) x b)) ts r a x trivial (fun t h => nb_two (op := ((ts.headD ⟨0, []⟩).s)) hm h) (by have h' := h; simp only [P] at h'; exact h') hm
    | prodT x => exact tailr _ .signed (fun b => Mode.prodT (two ((ts.headD ⟨0, []⟩).s) x b)) ts r a x trivial (fun t h => nb_two (op := ((ts.headD ⟨0, []⟩).s)) hm h) (by have h' := h; simp only [P] at h'; exact h') hm
    | not =>
      simp only [P] at h
      split at h
      · split at h
        · cases h
        · rename_i t1 h1
          split at h
          · cases h
          · rename_i b t2 h2
            cases h
            exact nb_one (ih _ _ _ _ h2 trivial)
      · split at h
        · cases h
        · rename_i b t2 h2
          have g2 := ih _ _ _ _ h2 trivial
          split at h
          · cases h; exact g2
          · split at h
            · split at h
              · cases h
              · rename_i t3 h3
                split at h
                · cases h
                · rename_i c t4 h4
                  cases h
                  exact nb_two g2 (ih _ _ _ _ h4 trivial)
            · cases h; exact g2
    | signed =>
      simp only [P] at h
      split at h
      · split at h
        · cases h
        · rename_i t1 h1
          split at h
          · cases h
          · rename_i b t2 h2
            cases h
            exact nb_one (ih _ _ _ _ h2 trivial)
      · exact ih _ _ _ _ h trivial
    | atom =>
      cases ts with
      | nil => simp only [P] at h; cases h
      | cons t ts =>
        rw [P_atom] at h
        split at h
        · split at h
          · cases h
          · rename_i t1 h1
            cases h
            exact nb_leaf (hV _)
        · split at h
          · split at h
            · cases h
            · rename_i t1 h1
              cases h
              exact nb_leaf (show 0 < 2 ^ 64 by decide)
          · split at h
            · unfold namedP at h
              split at h
              · cases h
              · split at h
                · cases h
                · rename_i t1 h1
                  split at h
                  · split at h
                    · cases h
                    · rename_i b t2 h2
                      cases h
                      exact nb_one (inside_nb hor h2)
                  · split at h
                    · exact hasP_nb hor h
                    · cases h
                      exact nb_leaf (show 0 < 2 ^ 64 by decide)
            · exact inside_nb hor h
theorem valV_lt (l : Bs) : valV l < 2 ^ 64 := by
  unfold valV
  cases h : double.div (ofI (valF l).1) (pw (valF l).2.1) with
  | none => exact (show 0 < 2 ^ 64 by decide)
  | some r => exact double.div_lt h
theorem parse_nb (l : Bs) : nbT (parseP l).1 := by
  have hz : nbT zeroT := ⟨(show 0 < 2 ^ 64 by decide), trivial⟩
  unfold parseP
  split
  · exact hz
  · cases hr : readP l with
    | none => exact hz
    | some t =>
      have ht : nbT t := by
        unfold readP at hr
        split at hr
        · cases hr
        · split at hr
          · rename_i t2 h2
            cases hr
            exact P_nb _ valV_lt _ _ _ _ _ _ h2 trivial
          · cases hr
      simp only
      split
      · exact hz
      · exact ht
set_option maxRecDepth 100000 in
set_option maxHeartbeats 8000000 in
theorem rEval (L : List Bnd) (hL : BOk L) (hLN : ∀ b ∈ L, b.v.n < 2 ^ 64) (vb : Value) (t : Tree) (hz : szT t ≤ 1000000) (hx : txT 900000 t) (hnb : nbT t) (A : Nat → Prop) (v : Value) (m : Int) (w : World) (hv : NodeV A w v t) (hbv : BndV w vb L) (hm : MaxLn m w) :
    Calls Tryz.prog 15 #[v, vb] w fun e w' => ∃ u, e = .returned (.tuple #[u, .int .i64 ((tyP L t).2 : Nat)]) ∧ ValV u (evP L t) ∧ Below w.heap.size w w' := by
  have HTO := Lib.hid (fun W (h : NodeV A W v t) (k : BndV W vb L) => rtypeOf L hL.1 vb t A v W hz h k)
  have HEV := Lib.hid (fun (h0 : (tyT L t).2 = 0) W (h : NodeV A W v t) (k : BndV W vb L) (q : MaxLn m W) => rfound L hL.1 hL.2 hLN vb m _ t (Nat.le_refl _) h0 hx hnb A v W h k q)
  have HV := Lib.hid hv
  have HBV := Lib.hid hbv
  obtain ⟨o, n, s, x, l, c, rfl⟩ := hv.agg
  obtain ⟨bx, bn, bc, rfl⟩ := hbv.agg
  have HEI := Lib.hid (EI.start hm o n s x l c)
  obtain ⟨R, hR⟩ : ∃ R, R = evP L t := ⟨_, rfl⟩
  rw [← hR]
  unfold evP at hR
  have HOK := Lib.hid (fun (h : (tyP L t).2 = 0) => tyP_ok h)
  obtain ⟨T, hT⟩ : ∃ T, T = tyP L t := ⟨_, rfl⟩
  rw [← hT] at hR HTO HOK ⊢
  obtain ⟨T1, T2⟩ := T
  simp only at hR
  have HR := Lib.hid hR
  clear hv hbv hz hx hm hL hR hT hLN hnb
  go_enter Tryz.func15, Tryz.ntmps15
  go_upto_region 1 with (fail)
  generalize ((w.alloc (.cells #[.string o, .float .f64 n, .string s, .slice x l c] 26)).alloc (.cells #[.int .i64 0, .float .f64 0, .string ⟨#[]⟩, .bool false] 40)) = W0 at HEI ⊢
  obtain ⟨p0, p1, p2, p3, _⟩ := HEI.out.node.cells
  have hlt := HEI.out.r.lt
  go_wp2_with (first | (go_at_call 25; fail))
  refine (HTO.out W0 (HV.out.below HEI.out.bel) (HBV.out.below HEI.out.bel)).mono ?_
  rintro e w2 ⟨rfl, hb2⟩
  have HEI2 := Lib.hid (HEI.out.below hb2)
  clear hb2 p0 p1 p2 p3 HEI HTO
  obtain ⟨p0, p1, p2, p3, _⟩ := HEI2.out.node.cells
  obtain ⟨k0, k1, k2, k3⟩ := HEI2.out.r.cells
  have hlt := HEI2.out.r.lt
  have f0 := HEI2.out.r.fr 0
  have f1 := HEI2.out.r.fr 1
  have f2 := HEI2.out.r.fr 2
  have f3 := HEI2.out.r.fr 3
  by_cases q : T2 = 0
  · have HM : Hid (R = evT clN L t) := Lib.hid (by rw [HR.out, if_pos q])
    have HEV1 := Lib.hid (HEV.out (HOK.out q))
    subst q
    clear HR HOK HEV
    go_wp2_with (first | (go_at_call 26; fail))
    go_at_call 26
    refine (HEV1.out w2 (HV.out.below HEI2.out.bel) (HBV.out.below HEI2.out.bel) HEI2.out.mx).mono ?_
    rintro e w5 ⟨hb5, v5, rfl, hv5⟩
    obtain ⟨hz, n5, rfl, hz2, hend⟩ := EI.fin HEI2.out HM.out hv5 hb5
    have HE := Lib.hid (And.intro hz2 hend)
    clear k0 k1 k2 k3 f0 f1 f2 f3
    obtain ⟨k0, k1, k2, k3⟩ := hz.cells
    have f0 := hz.fr 0
    have f1 := hz.fr 1
    have f2 := hz.fr 2
    have f3 := hz.fr 3
    clear hz hz2 hend hb5 hv5
    go_wp2
    refine bodyPost_ret (results_cell_tmp rfl _ _ (w.heap.size + 1) 40 _ _ _ rfl HE.out.1 Tryz.underlying40 rfl (by kernel_rfl)) rfl ?_
    obtain ⟨h1, u, h2, h3⟩ := HE.out.2
    cases h2
    exact ⟨_, rfl, h3, h1⟩
  · have HM : Hid (R = av0) := Lib.hid (by rw [HR.out, if_neg q])
    have q1 : ((T2 : Int) == 0) = false := by simpa using (show ¬ ((T2 : Int) = 0) by omega)
    have HE := Lib.hid (EI.put HEI2.out HM.out (n := 0) fA_zero 0 rfl ⟨#[]⟩ rfl false rfl (.cells #[] 0)).1
    clear HR HOK HEV
    go_wp2
    refine bodyPost_ret (results_cell_tmp rfl _ _ (w.heap.size + 1) 40 _ _ _ rfl HE.out.1 Tryz.underlying40 rfl (by kernel_rfl)) rfl ?_
    obtain ⟨h1, u, h2, h3⟩ := HE.out.2
    cases h2
    exact ⟨_, rfl, h3, h1⟩
set_option maxRecDepth 100000 in
set_option maxHeartbeats 8000000 in
theorem rHolds (L : List Bnd) (hL : BOk L) (hLN : ∀ b ∈ L, b.v.n < 2 ^ 64) (vb : Value) (l : Bs) (hl : l.length ≤ 100000) (m : Int) (w : World) (hbv : BndV w vb L) (hm : MaxLn m w) :
    Calls Tryz.prog 17 #[.string (tx l), vb] w fun e w' => e = .returned (.tuple #[.bool (hoP L l).1, .int .i64 ((hoP L l).2 : Nat)]) ∧ Below w.heap.size w w' := by
  have HP := Lib.hid (rparse l (by omega) w)
  have HEV := Lib.hid (fun (A : Nat → Prop) v W (h : NodeV A W v (parseP l).1) (k : BndV W vb L) (q : MaxLn m W) => rEval L hL hLN vb (parseP l).1 (by have := parse_sz l; omega) (tx_mono (by omega) _ (parse_tx l)) (parse_nb l) A v m W h k q)
  have HBV := Lib.hid hbv
  have HMX := Lib.hid hm
  obtain ⟨bx, bn, bc, rfl⟩ := hbv.agg
  obtain ⟨R, hR⟩ : ∃ R, R = hoP L l := ⟨_, rfl⟩
  rw [← hR]
  unfold hoP at hR
  unfold ParseEnd at HP
  unfold evP at HEV
  obtain ⟨T, hT⟩ : ∃ T, T = tyP L (parseP l).1 := ⟨_, rfl⟩
  rw [← hT] at hR HEV
  generalize evT clN L (parseP l).1 = E at hR HEV
  obtain ⟨Q, hQ⟩ : ∃ Q, Q = parseP l := ⟨_, rfl⟩
  rw [← hQ] at hR HP HEV
  obtain ⟨Q1, Q2⟩ := Q
  obtain ⟨T1, T2⟩ := T
  simp only at hR HP HEV
  have HR := Lib.hid hR
  clear hbv hm hL hl hR hT hQ hLN
  go_enter Tryz.func17, Tryz.ntmps17
  go_wp2_with (first | (go_at_call 7; fail))
  go_at_call 7
  refine (HP.out).mono ?_
  rintro e w2 ⟨v2, rfl, hv2, hb2⟩
  obtain ⟨o, n, s, x, k, c, rfl⟩ := hv2.agg
  have hal : Below w2.heap.size w2 (w2.alloc (.cells #[.string o, .float .f64 n, .string s, .slice x k c] 26)) := (Below.refl _ _).alloc (Nat.le_refl _) _
  have HB3 := Lib.hid (hb2.trans (below_le hal hb2.size))
  have HN3 := Lib.hid (hv2.below hal)
  clear hb2 hv2 hal
  by_cases q : Q2 = 0
  · subst q
    have HR1 : Hid (R = if T2 ≠ 0 then (false, T2) else if E.t ≠ 3 then (false, 1) else (E.b, 0)) := Lib.hid (by rw [HR.out, if_neg (by simp)])
    clear HR
    go_wp2_with (first | (go_at_call 15; fail))
    go_at_call 15
    refine (HEV.out _ _ _ HN3.out (HBV.out.below HB3.out) (HMX.out.below HB3.out)).mono ?_
    rintro e w5 ⟨u, rfl, ⟨nu, rfl, hnu⟩, hb5⟩
    have HB5 := Lib.hid (HB3.out.trans (below_le hb5 HB3.out.size))
    clear hb5
    by_cases q2 : T2 = 0
    · subst q2
      simp only [if_pos]
      have HB6 := Lib.hid (fun c => HB5.out.alloc HB5.out.size c)
      by_cases q3 : E.t = 3
      · have HR2 : Hid (R = (E.b, 0)) := Lib.hid (by rw [HR1.out, if_neg (by simp), if_neg (by simp [q3])])
        rw [q3]
        go_wp2
        go_ret2
        exact ⟨by rw [HR2.out]; rfl, HB6.out _⟩
      · have HR2 : Hid (R = (false, 1)) := Lib.hid (by rw [HR1.out, if_neg (by simp), if_pos q3])
        have q4 : ((E.t : Int) == 3) = false := by simpa using (show ¬ ((E.t : Int) = 3) by omega)
        generalize E.t = et at q4 ⊢
        go_wp2
        go_ret2
        exact ⟨by rw [HR2.out]; rfl, HB6.out _⟩
    · have HR2 : Hid (R = (false, T2)) := Lib.hid (by rw [HR1.out, if_pos q2])
      have q4 : ((T2 : Int) == 0) = false := by simpa using (show ¬ ((T2 : Int) = 0) by omega)
      have HB6 := Lib.hid (fun c => HB5.out.alloc HB5.out.size c)
      generalize (if T2 = 0 then E else av0) = E2
      go_wp2
      go_ret2
      exact ⟨by rw [HR2.out]; rfl, HB6.out _⟩
  · have HR1 : Hid (R = (false, Q2)) := Lib.hid (by rw [HR.out, if_pos q])
    have q4 : ((Q2 : Int) == 0) = false := by simpa using (show ¬ ((Q2 : Int) = 0) by omega)
    go_wp2
    go_ret2
    exact ⟨by rw [HR1.out]; rfl, HB3.out⟩
end Go.Proofs.YtmhfnpabgkkjaaaGreat
