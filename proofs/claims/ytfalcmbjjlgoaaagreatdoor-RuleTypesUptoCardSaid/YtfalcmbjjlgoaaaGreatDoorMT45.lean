/- Own texts, merged: V9, VA. -/
import Derived.Deep.RegionHeld3
import Derived.Test.YtfalcmbjjlgoaaaGreatDoorMT44
/- A name put in its place by its number; appends in a region that draws: plain, and laws of one's own. -/
namespace Go.Proofs.YtfalcmbjjlgoaaaGreatDoor
open Go.RowKit Go.Shelf Go.Lib
theorem insU_at {y : Bs} : ∀ {l : List Bs} {k : Nat}, k ≤ l.length → (∀ q, q < k → l.getD q [] < y) → (k = l.length ∨ ¬ l.getD k [] < y) → insU y l = if k < l.length ∧ l.getD k [] = y then l else l.take k ++ [y] ++ l.drop k
  | [], k, hk, _, _ => by
    obtain rfl : k = 0 := by simpa using hk
    simp [insU]
  | z :: r, 0, _, _, h => by
    have h1 : ¬ z < y := by
      rcases h with h | h
      · simp at h
      · simpa using h
    unfold insU
    rw [if_neg h1]
    by_cases q : z = y
    · rw [if_pos q, if_pos ⟨by simp, by simpa using q⟩]
    · rw [if_neg q, if_neg (fun e => q (by simpa using e.2))]; rfl
  | z :: r, k + 1, hk, hq, h => by
    have h1 : z < y := by simpa using hq 0 (by omega)
    have ih := insU_at (y := y) (l := r) (k := k) (by simpa using hk) (fun q hq' => by simpa using hq (q + 1) (by omega)) (by
      rcases h with h | h
      · left; simpa using h
      · right; simpa using h)
    unfold insU
    rw [if_pos h1, ih]
    by_cases q : k < r.length ∧ r.getD k [] = y
    · rw [if_pos q, if_pos ⟨by simpa using q.1, by simpa using q.2⟩]
    · rw [if_neg q, if_neg (fun e => q ⟨by simpa using e.1, by simpa using e.2⟩)]
      simp
theorem insU_len (y : Bs) : ∀ l : List Bs, (insU y l).length ≤ l.length + 1
  | [] => by simp [insU]
  | z :: r => by
    have := insU_len y r
    unfold insU
    split
    · simp; omega
    · split <;> simp
theorem insA_len : ∀ (l o : List Bs), (insA o l).length ≤ o.length + l.length
  | [], o => by simp [insA]
  | x :: r, o => by
    have h1 := insA_len r (insU x o)
    have h2 := insU_len x o
    unfold insA at h1 ⊢
    rw [List.foldl_cons, List.length_cons]
    omega
theorem insA_snoc (o l : List Bs) (x : Bs) : insA o (l ++ [x]) = insU x (insA o l) := by unfold insA; rw [List.foldl_append]; rfl
theorem refN_len (t : Tree) : (refN t).length ≤ szT t := by rw [← nmP_ref]; exact nmP_len t
theorem refL_snoc : ∀ (c : List Tree) (o : List Bs) (t : Tree), refL o (c ++ [t]) = insA (refL o c) (refN t)
  | [], o, t => by simp [refL]
  | a :: r, o, t => by rw [List.cons_append, refL, refL_snoc r, refL]
theorem refL_len : ∀ (c : List Tree) (o : List Bs), (refL o c).length ≤ o.length + szL c
  | [], o => by simp [refL, szL]
  | t :: r, o => by
    have h1 := refL_len r (insA o (refN t))
    have h2 := insA_len (refN t) o
    have h3 := refN_len t
    simp only [refL, szL]
    omega
theorem app_str {w : World} {base : Nat} {v : Value} {k : Nat} {xs : List Value} (hown : w.ownsRow base 9 1 v k xs) (x : Option Addr) (m c : Nat) (news : List Value) (hl : news.length = m * 1)
    (hsrc : (x = none ∧ m = 0 ∧ c = 0) ∨ ∃ a, x = some a ∧ ∀ j u, news[j]? = some u → w.cell? (a.add j) = some u) (h1 : ∀ u ∈ news, u.oneCell' = true) (hk : k + m ≤ 2000000) (hb : base ≤ w.heap.size) (ty : TypeId) :
    ∃ v' w', (Builtin.append_ #[44, 44] ty #[v, .slice x m c]).run Tryz.prog w = .ok v' w' ∧ w'.ownsRow base 9 1 v' (k + m) (xs ++ news) ∧ w.grownBy w' v.ownBlock := by
  obtain ⟨i0, hi0, hz0, hz1, hz2⟩ := info_parts9
  rcases hsrc with ⟨rfl, rfl, rfl⟩ | ⟨a, rfl, hc⟩
  · have : news = [] := by cases news with | nil => rfl | cons a l => simp at hl
    subst this
    refine ⟨v, w, run_append_owned_none (P := Tryz.prog) (w := w) base 44 ty 9 i0 1 Tryz.underlying44 hi0 v k xs hown, by simpa using hown, ?_⟩
    exact ⟨rfl, rfl, rfl, Nat.le_refl _, fun _ _ _ => rfl⟩
  · obtain ⟨v', w', r1, r2, r3, _⟩ := run_append_own (P := Tryz.prog) (w := w) base 44 ty 9 i0 (.string ⟨#[]⟩) 1 16 Tryz.underlying44 hi0 hz0 hz1 hz2 rfl (by decide) v k xs hown a m c news hl hc h1 (by unfold maxLen; omega) (by omega) hb
    exact ⟨v', w', r1, r2, r3⟩
theorem step_appG {P : Program} {ops : Array Oper} {o : Oper} {a : Act} {w : World} {K : Act → World → Prop} {Q : Exit → Act → World → Prop} {E : Prop} (hg : o.guard = none) (s x : Operand) (t : TypeId)
    (hop : o.op = Op.call { callee := Callee.builtin Builtin.append, args := #[s, x], argTypes := #[t, t] }) (ht : o.type = t) (v x' v' : Value) (w' : World) (hs : a.eval s = v) (hx : a.eval x = x')
    (hrun : (Builtin.append_ #[t, t] t #[v, x']).run P w = .ok v' w') (hK : K (a.put o.dst v') w') : if Region.wanted o (yielded ops a.tmps) = true then Oper.wp P o a w K Q else E := by
  have hw : Region.wanted o (yielded ops a.tmps) = true := by simp [Region.wanted, hg]
  rw [if_pos hw]
  unfold Oper.wp
  simp [execOp, hop, ht, resolve, invoke, builtin, hs, hx, hrun, Result.andThen]
  exact hK
theorem empty_row (W : World) (e : TypeId) (sz : Nat) : (W.alloc (.cells #[] e)).ownsRow W.heap.size e sz (.slice (some ⟨W.heap.size, 0, none⟩) 0 0) 0 [] :=
  ⟨by simp, .inr ⟨W.heap.size, 0, #[], rfl, Nat.le_refl _, heap_alloc_new _ _, Nat.le_refl _, by unfold maxLen; omega, by simp, by simp⟩⟩
end Go.Proofs.YtfalcmbjjlgoaaaGreatDoor
/- Walk: the reference's Names. -/
namespace Go.Proofs.YtfalcmbjjlgoaaaGreatDoor
open Go.RowKit Go.Shelf Go.Lib
attribute [local go_sem] run_store_float
theorem less_eq : ∀ (x y : Bs), Op.bytesLess x y = decide (x < y)
  | [], [] => by rw [Op.bytesLess]; exact (decide_eq_false (List.lt_irrefl [])).symm
  | _ :: _, [] => by rw [Op.bytesLess]; exact (decide_eq_false (List.not_lt_nil _)).symm
  | [], _ :: _ => by rw [Op.bytesLess]; exact (decide_eq_true (List.nil_lt_cons _ _)).symm
  | a :: x, b :: y => by
    rw [Op.bytesLess, less_eq x y]
    by_cases h1 : a < b
    · have h2 : a :: x < b :: y := List.cons_lt_cons_iff.2 (.inl h1)
      simp [h1, h2]
    · by_cases h2 : a = b
      · by_cases h3 : x < y
        · have h4 : a :: x < b :: y := List.cons_lt_cons_iff.2 (.inr ⟨h2, h3⟩)
          simp [h2, h3]
        · have h4 : ¬ a :: x < b :: y := fun e => by
            rcases List.cons_lt_cons_iff.1 e with e | ⟨_, e⟩
            · exact h1 e
            · exact h3 e
          simp [h1, h3, h4]
      · have h4 : ¬ a :: x < b :: y := fun e => by
          rcases List.cons_lt_cons_iff.1 e with e | ⟨e, _⟩
          · exact h1 e
          · exact h2 e
        simp [h1, h2, h4]
theorem strs_one (L : List Bs) : ∀ u ∈ strs L, u.oneCell' = true := fun u hu => by
  obtain ⟨x, _, rfl⟩ := List.mem_map.1 hu
  rfl
theorem box_cell {W : World} {q : Nat} {v : Value} (h : Box W q 9 v) : ∀ j u, [v][j]? = some u → W.cell? ((⟨q, 0, none⟩ : Addr).add j) = some u := fun j u hu => by
  cases j with
  | zero => simp only [List.getElem?_cons_zero, Option.some.injEq] at hu; subst hu; exact h.cell
  | succ j => simp at hu
theorem TxV.src {W W' : World} {g o c : Nat} {L : List Bs} (h : TxV W (.slice (some ⟨g, o, none⟩) L.length c) L) (hb : Below W.heap.size W W') (i n : Nat) : ∀ j u, (strs ((L.drop i).take n))[j]? = some u → W'.cell? ((⟨g, o + i, none⟩ : Addr).add j) = some u := fun j u hu => by
  have hj : j < n ∧ i + j < L.length := by
    have := (List.getElem?_eq_some_iff.1 hu).1
    rw [strs, List.length_map, List.length_take, List.length_drop] at this
    omega
  rw [strs, List.getElem?_map, List.getElem?_take, if_pos hj.1, List.getElem?_drop, List.getElem?_eq_getElem hj.2] at hu
  obtain rfl : Value.string (tx L[i + j]) = u := by simpa using hu
  obtain ⟨x', c', he, _, _, hg⟩ := h.old
  obtain ⟨rfl, rfl⟩ : some (⟨g, o, none⟩ : Addr) = x' ∧ c = c' := by simpa using he
  obtain ⟨g', o', h1, h2, h3⟩ := hg (nil_not hj.2)
  obtain ⟨rfl, rfl⟩ : g = g' ∧ o = o' := by simpa using h1
  have h4 := h3 (i + j) hj.2
  rw [List.getD_eq_getElem?_getD, List.getElem?_eq_getElem hj.2] at h4
  have h5 : ((⟨g, o + i, none⟩ : Addr).add j) = ⟨g, o + (i + j), none⟩ := by
    by_cases e : j = 0 <;> simp [Addr.add, e]; omega
  rw [h5, hb.cell (p := ⟨g, o + (i + j), none⟩) h2, h4]
  rfl
theorem TxV.none0 {W : World} {n c : Nat} {L : List Bs} (h : TxV W (.slice none n c) L) : n = 0 ∧ c = 0 ∧ L = [] := by
  rcases h.2 with ⟨hv, h0⟩ | ⟨g, o, c', hv, _⟩
  · simp at hv; exact ⟨hv.1, hv.2, h0⟩
  · simp at hv
theorem TxV.some0 {W : World} {a : Addr} {n c : Nat} {L : List Bs} (h : TxV W (.slice (some a) n c) L) : ∃ g o, a = ⟨g, o, none⟩ := by
  rcases h.2 with ⟨hv, h0⟩ | ⟨g, o, c', hv, _⟩
  · simp at hv
  · simp at hv; exact ⟨g, o, hv.1⟩
theorem own_row {W : World} {s : Bs} {b : Nat} (h : W.heap[b]? = some (.cells #[.string (tx s)] 9 (0, 0))) : TxV W (.slice (some ⟨b, 0, none⟩) 1 1) [s] :=
  ⟨by simp, .inr ⟨b, 0, 1, rfl, by simp, (Array.getElem?_eq_some_iff.1 h).1, fun i hi => by
    obtain rfl : i = 0 := by simpa using hi
    simp [World.cell?, h]⟩⟩
set_option maxRecDepth 100000 in
set_option maxHeartbeats 8000000 in
theorem rNames : ∀ (n : Nat) (t : Tree), szT t ≤ n → ∀ (A : Nat → Prop) (v : Value) (w : World), szT t ≤ 100000 → NodeV A w v t →
    Calls Tryz.prog 17 #[v] w fun e w' => ∃ u, e = .returned u ∧ TxV w' u (refN t) ∧ Below w.heap.size w w' := by
  intro n
  induction n with
  | zero => intro t h; cases t; simp only [szT] at h; omega
  | succ n ih =>
    intro t hn A v w hd hv
    obtain ⟨op, fn, s, l⟩ := t
    obtain ⟨x, cap, rfl, hcap, hx, hch⟩ := hv
    have HIH := Lib.hid ih
    have HN := Lib.hid (show szL l ≤ n by simp only [szT] at hn; omega)
    have HD := Lib.hid (show 1 + szL l ≤ 100000 by simp only [szT] at hd; omega)
    have HC := Lib.hid hch
    have hll : l.length ≤ 100000 := by have := len_szL l; have := HD.out; omega
    have HX := Lib.hid hx
    have HRES : Hid (refN (.mk op fn s l) = refL (ownN op s) l) := Lib.hid (by rw [refN]; rfl)
    have HOL : Hid ((ownN op s).length ≤ 1) := Lib.hid (by unfold ownN; split <;> simp)
    obtain ⟨R, hR⟩ : ∃ R, R = refN (.mk op fn s l) := ⟨_, rfl⟩
    rw [← hR] at HRES ⊢
    obtain ⟨N, hN⟩ : ∃ N, N = l.length := ⟨_, rfl⟩
    rw [← hN] at hll hcap ⊢
    have HNL := Lib.hid hN
    have HB0 := Lib.hid (bel1 w (.cells #[.string (tx op), .float .f64 fn, .string (tx s), .slice x N cap] 25))
    have HA0 : Hid (NB (w.alloc (.cells #[.string (tx op), .float .f64 fn, .string (tx s), .slice x N cap] 25)) w.heap.size (.agg #[.string (tx op), .float .f64 fn, .string (tx s), .slice x N cap])) := Lib.hid ⟨_, _, _, _, rfl, heap_alloc_new _ _⟩
    clear hN hn hd hch hx ih hR
    go_enter Tryz.func17, Tryz.ntmps17
    go_upto_region 2 with (fail)
    generalize (w.alloc (.cells #[.string (tx op), .float .f64 fn, .string (tx s), .slice x N cap] 25)) = W0 at HB0 HA0 ⊢
    obtain ⟨p0, p1, p2, p3, _⟩ := HA0.out.cells
    have hlt := HA0.out.lt
    obtain ⟨tb, htb⟩ : ∃ tb, ((tx op).toList == [110, 97, 109, 101]) = tb := ⟨_, rfl⟩
    have HTB : Hid (tb = decide (op = wname)) := Lib.hid (by
      rw [← htb]
      by_cases q : op = wname
      · rw [decide_eq_true q, tx_toList, q]; rfl
      · rw [decide_eq_false q]; exact tx_ne q)
    go_upto_if 10 with (fail)
    go_cut [3] (fun o wx => Hid (TxV wx o (ownN op s)) ∧ Hid (NB wx w.heap.size (.agg #[.string (tx op), .float .f64 fn, .string (tx s), .slice x N cap])) ∧ Hid (Below w.heap.size w wx))
    case first =>
      clear htb
      cases tb with
      | true =>
        obtain rfl : op = wname := of_decide_eq_true HTB.out.symm
        have HLE : Hid (ownN wname s = [s]) := Lib.hid (by unfold ownN; rw [if_pos rfl])
        have HO3 : Hid (TxV (W0.alloc (.cells #[.string (tx s)] 9)) (.slice (some ⟨W0.heap.size, 0, none⟩) 1 1) (ownN wname s)) := Lib.hid (by rw [HLE.out]; exact own_row (heap_alloc_new _ _))
        have HA3 := Lib.hid (HA0.out.below ((Below.refl _ _).alloc (Nat.le_refl _) (.cells #[.string (tx s)] 9)))
        have HB3 := Lib.hid (HB0.out.alloc HB0.out.size (.cells #[.string (tx s)] 9))
        go_wp2
        go_meet
        exact ⟨HO3, HA3, HB3⟩
      | false =>
        have q : op ≠ wname := of_decide_eq_false HTB.out.symm
        have HO3 : Hid (TxV W0 (.slice none 0 0) (ownN op s)) := Lib.hid (by
          unfold ownN; rw [if_neg q]; exact TxV.nil _)
        go_wp2
        go_meet
        exact ⟨HO3, HA0, HB0⟩
    obtain ⟨HO1, HA1, HB1⟩ := hcut
    clear p0 p1 p2 p3 hlt HA0 HB0 htb HTB
    obtain ⟨PP, hPP⟩ : ∃ PP, PP = ownN op s := ⟨_, rfl⟩
    rw [← hPP] at HRES HOL HO1
    clear hPP
    rename World => w1
    go_wp2_with fail
    go_loopg [3, 4] N (fun gh o i wr => ∃ j : Nat, j + gh = N ∧ i = .int .i64 j ∧ Hid (TxV wr o (refL PP (l.take j))) ∧ Hid (NB wr w.heap.size (.agg #[.string (tx op), .float .f64 fn, .string (tx s), .slice x N cap])) ∧ Hid (Below w.heap.size w wr))
    case atStart => exact ⟨0, by omega, rfl, Lib.hid (by simpa [refL] using HO1.out), HA1, HB1⟩
    case round =>
      obtain ⟨j, hj, rfl, HO, HA, HB⟩ := hrel
      obtain ⟨p0, p1, p2, p3, _⟩ := HA.out.cells
      have hlt := HA.out.lt
      obtain ⟨ox, oc, rfl, _, hol, _⟩ := HO.out.old
      clear HO1 HA1 HB1
      by_cases q : j < N
      · have hjl : j < l.length := by have := HNL.out; omega
        obtain ⟨a, rfl⟩ : ∃ a, x = some a := by
          cases x with
          | none => have := HX.out rfl; rw [this] at hjl; cases hjl
          | some a => exact ⟨a, rfl⟩
        obtain ⟨u0, u1, u2, u3, d0, d1, d2, d3, hnode⟩ := NodesV.get l 0 (HC.out a rfl).2 j hjl
        rw [Nat.zero_add] at d0 d1 d2 d3
        have hab : a.block < w.heap.size := ((HC.out a rfl).1 (nil_not hjl)).2
        have hs : ∀ k, wr.heap[(a.add k).block]? = w.heap[(a.add k).block]? := fun k => by rw [add_block]; exact HB.out.block _ hab
        replace d0 := cell_same (hs _) d0
        replace d1 := cell_same (hs _) d1
        replace d2 := cell_same (hs _) d2
        replace d3 := cell_same (hs _) d3
        rw [add_lit _ _ _ (by decide)] at d1 d2 d3
        obtain ⟨o1, n1, s1, x1, l1, c1, hag⟩ := hnode.agg
        cases hag
        have HCH := Lib.hid (HIH.out l[j] (by have := szL_get l j hjl; have := HN.out; omega) A _ wr (by have := szL_get l j hjl; have := HD.out; omega) (hnode.below HB.out))
        have HSNO : Hid (refL PP (l.take (j + 1)) = insA (refL PP (l.take j)) (refN l[j])) := Lib.hid (by rw [List.take_succ_eq_append_getElem hjl, refL_snoc])
        have HLEN : Hid ((refL PP (l.take j)).length + (refN l[j]).length ≤ 200000) := Lib.hid (by
          have h1 := refL_len (l.take j) PP
          have h2 := refN_len l[j]
          have h3 := szL_split hjl
          have h4 := HOL.out
          have h5 := HD.out
          omega)
        obtain ⟨O, hO⟩ : ∃ O, O = refL PP (l.take j) := ⟨_, rfl⟩
        obtain ⟨M, hM⟩ : ∃ M, M = refN l[j] := ⟨_, rfl⟩
        rw [← hO, ← hM] at HSNO HLEN
        rw [← hO] at HO hol ⊢
        rw [← hM] at HCH
        clear hs hnode hO hM
        obtain ⟨K, hK⟩ : ∃ K, K = O.length := ⟨_, rfl⟩
        rw [← hK] at HO hol ⊢
        have HKK := Lib.hid hK
        clear hK
        go_wp2_with (first | (go_at_call 17; fail))
        go_at_call 17
        refine HCH.out.mono ?_
        rintro e w5 ⟨u, rfl, hu, hb5⟩
        obtain ⟨mx, mc, rfl, _, hml, _⟩ := hu.old
        have HM5 := Lib.hid hu
        have HO5 := Lib.hid (HO.out.below hb5)
        have HA5 := Lib.hid (HA.out.below hb5)
        have HB5 := Lib.hid (HB.out.trans (below_le hb5 HB.out.size))
        obtain ⟨ML, hML⟩ : ∃ ML, ML = M.length := ⟨_, rfl⟩
        have HML := Lib.hid hML
        rw [← hML] at hml HM5 ⊢
        clear hu hb5 hML HCH HO HA HB p0 p1 p2 p3 hlt d0 d1 d2 d3
        have HOK : Hid (TxV w5 (.slice ox K oc) (insA O (M.take 0))) := Lib.hid (by have h := HO5.out; simpa [insA] using h)
        go_wp2_with fail
        go_loopg [3, 6] ML (fun gh o i wr2 => ∃ q : Nat, q + gh = ML ∧ i = .int .i64 q ∧ Hid (TxV wr2 o (insA O (M.take q))) ∧ Hid (Below w5.heap.size w5 wr2))
        case atStart => exact ⟨0, by omega, rfl, HOK, Lib.hid (Below.refl _ _)⟩
        case round =>
          obtain ⟨qq, hqq, rfl, HOQ, HBQ⟩ := hrel
          rename World => wr2
          obtain ⟨px, pc, rfl, hpc, hpl, _⟩ := HOQ.out.old
          obtain ⟨P, hP⟩ : ∃ P, P = insA O (M.take qq) := ⟨_, rfl⟩
          have HPP := Lib.hid hP
          rw [← hP] at HOQ hpc hpl ⊢
          obtain ⟨PL, hPL⟩ : ∃ PL, PL = P.length := ⟨_, rfl⟩
          have HPL := Lib.hid hPL
          rw [← hPL] at HOQ hpc hpl ⊢
          have hpb : PL ≤ 200000 := by
            have h1 := insA_len (M.take qq) O
            have h2 : (M.take qq).length ≤ M.length := by rw [List.length_take]; omega
            have h3 := HLEN.out
            rw [hPL, hP]; omega
          clear hP hPL HOK
          by_cases q2 : qq < ML
          · have hqm : qq < M.length := by have := HML.out; omega
            have i2 : (qq : Int) < (ML : Int) := by omega
            obtain ⟨y, hy⟩ : ∃ y, y = M.getD qq [] := ⟨_, rfl⟩
            have HY := Lib.hid hy
            obtain ⟨Y, hYY⟩ : ∃ Y, Y = tx y := ⟨_, rfl⟩
            have HYY := Lib.hid hYY
            obtain ⟨gm, om, rfl, hgm, hmget⟩ : ∃ g o, mx = some ⟨g, o, none⟩ ∧ g < w5.heap.size ∧ ∀ i, i < M.length → w5.cell? ⟨g, o + i, none⟩ = some (.string (tx (M.getD i []))) := by
              obtain ⟨x', c', he, _, _, hg⟩ := HM5.out.old
              rw [HML.out] at he
              obtain ⟨rfl, rfl⟩ : mx = x' ∧ mc = c' := by simpa using he
              exact hg (nil_not hqm)
            have HMC : Hid (∀ W, Below wr2.heap.size wr2 W → W.cell? ⟨gm, om + qq, none⟩ = some (.string Y)) := Lib.hid (fun W hW => by
              have h1 : Below w5.heap.size w5 W := HBQ.out.trans (below_le hW HBQ.out.size)
              rw [h1.cell (p := ⟨gm, om + qq, none⟩) hgm, hmget qq hqm, hYY, hy])
            have HPC : Hid (∀ k, k < PL → ∃ g o, px = some ⟨g, o, none⟩ ∧ ∀ W, Below wr2.heap.size wr2 W → W.cell? ⟨g, o + k, none⟩ = some (.string (tx (P.getD k [])))) := Lib.hid (fun k hk => by
              obtain ⟨x', c', he, _, _, hg⟩ := HOQ.out.old
              rw [HPL.out] at he hk
              obtain ⟨rfl, rfl⟩ : px = x' ∧ pc = c' := by simpa using he
              obtain ⟨g, o, h1, h2, h3⟩ := hg (nil_not hk)
              exact ⟨g, o, h1, fun W hW => (hW.cell (p := ⟨g, o + k, none⟩) h2).trans (h3 k hk)⟩)
            clear hmget hy hYY
            go_wp2_with fail
            go_loopw [7] (fun i wr3 => ∃ k : Nat, k ≤ PL ∧ i = .int .i64 (k : Int) ∧ Hid (∀ r, r < k → P.getD r [] < y) ∧ Hid (∃ m, wr3 = wr2.drewN m)) (fun i _ => PL - (intOf i).toNat)
            case atStart => exact ⟨0, by omega, rfl, Lib.hid (fun r h => by omega), Lib.hid ⟨0, rfl⟩⟩
            case round =>
              obtain ⟨k, hk, rfl, HR, HW⟩ := hrel
              have i1 : (0 : Int) ≤ (k : Int) := by omega
              have i3 : (0 : Int) ≤ (qq : Int) := by omega
              have hB3 : Below wr2.heap.size wr2 wr := by
                obtain ⟨m, hm⟩ := HW.out
                rw [hm]; exact below_drewN (Below.refl _ _) m
              by_cases q3 : k < PL
              · obtain ⟨gp, op2, rfl, hpg⟩ := HPC.out k q3
                have c1 := hpg _ hB3
                have c2 := HMC.out _ hB3
                have i4 : (k : Int) < (PL : Int) := by omega
                obtain ⟨X, hXX⟩ : ∃ X, X = tx (P.getD k []) := ⟨_, rfl⟩
                rw [← hXX] at c1
                have HXX := Lib.hid hXX
                have HLS : Hid (Op.bytesLess X.toList Y.toList = decide (P.getD k [] < y)) := Lib.hid (by rw [hXX, HYY.out, tx_toList, tx_toList, less_eq])
                have hke : ((k : Int) == (PL : Int)) = false := by simpa using (show ¬ (k : Int) = (PL : Int) by omega)
                clear hB3 hpg hXX
                by_cases q4 : P.getD k [] < y
                · have hls : Op.bytesLess X.toList Y.toList = true := by rw [HLS.out]; exact decide_eq_true q4
                  have HQ4 := Lib.hid q4
                  clear q4
                  go_wp2
                  go_quiet (fail)
                  go_wp2
                  go_roundw
                  case rel =>
                    obtain ⟨m, rfl⟩ := HW.out
                    exact ⟨k + 1, by omega, by go_num, Lib.hid (fun r h => by
                      by_cases e : r = k
                      · rw [e]; exact HQ4.out
                      · exact HR.out r (by omega)), Lib.hid ⟨m + nq, World.drewN_drewN _ _ _⟩⟩
                  case measure => simp [intOf]; omega
                · have hls : Op.bytesLess X.toList Y.toList = false := by rw [HLS.out]; exact decide_eq_false q4
                  have HQ4 := Lib.hid q4
                  clear q4
                  go_wp2
                  go_quiet (fail)
                  revert nq
                  intro nqa
                  have HBW : Hid (∀ z, Below wr2.heap.size wr2 (wr.drewN z)) := Lib.hid (fun z => by
                    obtain ⟨m, hm⟩ := HW.out
                    rw [hm]; exact below_drewN (below_drewN (Below.refl _ _) m) _)
                  by_cases q5 : P.getD k [] = y
                  · obtain rfl : X = Y := by rw [HXX.out, HYY.out, q5]
                    have HNEXT : Hid (insA O (M.take (qq + 1)) = P) := Lib.hid (by
                      rw [List.take_succ_eq_append_getElem hqm, insA_snoc, ← HPP.out, show M[qq] = y by rw [HY.out, List.getD_eq_getElem?_getD, List.getElem?_eq_getElem hqm]; rfl]
                      rw [insU_at (k := k) (by have := HPL.out; omega) HR.out (.inr HQ4.out), if_pos ⟨by have := HPL.out; omega, q5⟩])
                    clear q5
                    go_wp2
                    go_quiet (fail)
                    go_wp2
                    go_roundg (gk - 1)
                    case measure => omega
                    case rel => exact ⟨qq + 1, by omega, by go_num, Lib.hid (by rw [HNEXT.out]; exact HOQ.out.below (HBW.out _)), Lib.hid (HBQ.out.trans (below_le (HBW.out _) HBQ.out.size))⟩
                  · have hne : (X.toList == Y.toList) = false := by rw [HXX.out, HYY.out, tx_toList, tx_toList]; simpa using q5
                    have HINS : Hid (insU y P = P.take k ++ [y] ++ P.drop k) := Lib.hid (by rw [insU_at (k := k) (by have := HPL.out; omega) HR.out (.inr HQ4.out), if_neg (fun e => q5 e.2)])
                    have HNEXT : Hid (insA O (M.take (qq + 1)) = insU y P) := Lib.hid (by
                      rw [List.take_succ_eq_append_getElem hqm, insA_snoc, ← HPP.out, show M[qq] = y by rw [HY.out, List.getD_eq_getElem?_getD, List.getElem?_eq_getElem hqm]; rfl])
                    clear q5
                    go_wp2
                    go_quiet (fail)
                    go_wp2_with fail
                    have HBz : Hid (Below wr2.heap.size wr2 ((wr.drewN nqa).drewN nq)) := Lib.hid (by rw [World.drewN_drewN]; exact HBW.out _)
                    generalize ((wr.drewN nqa).drewN nq) = Wz at HBz ⊢
                    have hkc : k ≤ pc := by omega
                    have hkl : k ≤ PL := by omega
                    have hpk : ¬ pc = k := by omega
                    have HSR : Hid (∀ W, Below wr2.heap.size wr2 W → ∀ i n, ∀ j u, (strs ((P.drop i).take n))[j]? = some u → W.cell? ((⟨gp, op2 + i, none⟩ : Addr).add j) = some u) := Lib.hid (fun W hW i n => TxV.src (by rw [← HPL.out]; exact HOQ.out) hW i n)
                    refine wp_region_held (S := (fun W => W.cell? ⟨gm, om + qq, none⟩ = some (.string Y))) (by as_aux_lemma => kernel_rfl) ?_
                    change wpAnyH _ _ _ _ _ _ _ _ (World.drew _)
                    have HD0 : Hid (Below wr2.heap.size wr2 Wz.drew) := Lib.hid HBz.out.drew
                    have HS0 := Lib.hid (HMC.out _ HD0.out)
                    refine wpAnyH_take (i := 1) (v := _) rfl (by as_aux_lemma => kernel_rfl) (by as_aux_lemma => kernel_rfl) (by as_aux_lemma => kernel_rfl) (fun _ _ _ h => h) (Or.inl ⟨by rfl, by intro w hSw; (try dsimp only at hSw); go_simp; try (with_reducible rfl)⟩) HS0.out ?_
                    try simp only [Act.put, List.setIfInBounds_toArray, List.set_cons_zero, List.set_cons_succ, List.getElem_toArray, List.getElem_cons_succ, List.getElem_cons_zero]
                    refine wpAnyH_take (i := 2) (v := _) rfl (by as_aux_lemma => kernel_rfl) (by as_aux_lemma => kernel_rfl) (by as_aux_lemma => kernel_rfl) (fun _ _ _ h => h) (Or.inl ⟨by rfl, by intro w hSw; (try dsimp only at hSw); go_simp; try (with_reducible rfl)⟩) HS0.out ?_
                    try simp only [Act.put, List.setIfInBounds_toArray, List.set_cons_zero, List.set_cons_succ, List.getElem_toArray, List.getElem_cons_succ, List.getElem_cons_zero]
                    refine wpAnyH_take (i := 3) (v := _) rfl (by as_aux_lemma => kernel_rfl) (by as_aux_lemma => kernel_rfl) (by as_aux_lemma => kernel_rfl) (fun _ _ _ h => h) (Or.inl ⟨by rfl, by intro w hSw; (try dsimp only at hSw); go_simp; try (with_reducible rfl)⟩) HS0.out ?_
                    try simp only [Act.put, List.setIfInBounds_toArray, List.set_cons_zero, List.set_cons_succ, List.getElem_toArray, List.getElem_cons_succ, List.getElem_cons_zero]
                    refine wpAnyH_take (i := 5) (v := _) rfl (by as_aux_lemma => kernel_rfl) (by as_aux_lemma => kernel_rfl) (by as_aux_lemma => kernel_rfl) (fun _ _ _ h => h) (Or.inl ⟨by rfl, by intro w hSw; (try dsimp only at hSw); go_simp; try (with_reducible rfl)⟩) HS0.out ?_
                    try simp only [Act.put, List.setIfInBounds_toArray, List.set_cons_zero, List.set_cons_succ, List.getElem_toArray, List.getElem_cons_succ, List.getElem_cons_zero]
                    refine wpAnyH_take (i := 6) (v := _) rfl (by as_aux_lemma => kernel_rfl) (by as_aux_lemma => kernel_rfl) (by as_aux_lemma => kernel_rfl) (fun _ _ _ h => h) (Or.inl ⟨by rfl, by intro w hSw; (try dsimp only at hSw); go_simp; try (with_reducible rfl)⟩) HS0.out ?_
                    try simp only [Act.put, List.setIfInBounds_toArray, List.set_cons_zero, List.set_cons_succ, List.getElem_toArray, List.getElem_cons_succ, List.getElem_cons_zero]
                    refine wpAnyH_take (i := 7) (v := _) rfl (by as_aux_lemma => kernel_rfl) (by as_aux_lemma => kernel_rfl) (by as_aux_lemma => kernel_rfl) (fun _ _ _ h => h) (Or.inl ⟨by rfl, by intro w hSw; (try dsimp only at hSw); go_simp; try (with_reducible rfl)⟩) HS0.out ?_
                    try simp only [Act.put, List.setIfInBounds_toArray, List.set_cons_zero, List.set_cons_succ, List.getElem_toArray, List.getElem_cons_succ, List.getElem_cons_zero]
                    refine wpAnyH_take (i := 8) (v := _) rfl (by as_aux_lemma => kernel_rfl) (by as_aux_lemma => kernel_rfl) (by as_aux_lemma => kernel_rfl) (fun _ _ _ h => h) (Or.inl ⟨by rfl, by intro w hSw; (try dsimp only at hSw); go_simp; try (with_reducible rfl)⟩) HS0.out ?_
                    try simp only [Act.put, List.setIfInBounds_toArray, List.set_cons_zero, List.set_cons_succ, List.getElem_toArray, List.getElem_cons_succ, List.getElem_cons_zero]
                    refine wpAnyH_take (i := 11) (v := _) rfl (by as_aux_lemma => kernel_rfl) (by as_aux_lemma => kernel_rfl) (by as_aux_lemma => kernel_rfl) (fun _ _ _ h => h) (Or.inl ⟨by rfl, by intro w hSw; (try dsimp only at hSw); go_simp; try (with_reducible rfl)⟩) HS0.out ?_
                    try simp only [Act.put, List.setIfInBounds_toArray, List.set_cons_zero, List.set_cons_succ, List.getElem_toArray, List.getElem_cons_succ, List.getElem_cons_zero]
                    refine wpAnyH_take (i := 12) (v := _) rfl (by as_aux_lemma => kernel_rfl) (by as_aux_lemma => kernel_rfl) (by as_aux_lemma => kernel_rfl) (fun _ _ _ h => h) (Or.inl ⟨by rfl, by intro w hSw; (try dsimp only at hSw); go_simp; try (with_reducible rfl)⟩) HS0.out ?_
                    try simp only [Act.put, List.setIfInBounds_toArray, List.set_cons_zero, List.set_cons_succ, List.getElem_toArray, List.getElem_cons_succ, List.getElem_cons_zero]
                    refine wpAnyH_take (i := 13) (v := _) rfl (by as_aux_lemma => kernel_rfl) (by as_aux_lemma => kernel_rfl) (by as_aux_lemma => kernel_rfl) (fun _ _ _ h => h) (Or.inl ⟨by rfl, by intro w hSw; (try dsimp only at hSw); go_simp; try (with_reducible rfl)⟩) HS0.out ?_
                    try simp only [Act.put, List.setIfInBounds_toArray, List.set_cons_zero, List.set_cons_succ, List.getElem_toArray, List.getElem_cons_succ, List.getElem_cons_zero]
                    refine wpAnyH_ready (rs := [0, 9]) (by as_aux_lemma => kernel_rfl) (by simp) ?_
                    refine AllReadyH.cons rfl (fun K hK => ?_) (AllReadyH.cons rfl (fun K hK => ?_) AllReadyH.nil)
                    · skip
                      go_simp
                      have HE_ : Hid (World.ownsRow ((World.alloc Wz (.cells #[] 9)).drew) Wz.heap.size 9 1 (.slice (some ⟨Wz.heap.size, 0, none⟩) 0 0) 0 []) := Lib.hid (by have h := (empty_row Wz 9 1).drew; simpa using h)
                      have HBE : Hid (Below wr2.heap.size wr2 (World.alloc Wz (.cells #[] 9))) := Lib.hid (HBz.out.alloc HBz.out.size _)
                      have HSE := Lib.hid (HMC.out _ HBE.out.drew)
                      refine hK.out _ _ HSE.out (fun _ => ?_)
                      clear hK K
                      try simp only [Act.put, List.setIfInBounds_toArray, List.set_cons_zero, List.set_cons_succ, List.getElem_toArray, List.getElem_cons_succ, List.getElem_cons_zero]
                      refine wpAnyH_ready (rs := [4, 9]) (by as_aux_lemma => kernel_rfl) (by simp) ?_
                      refine AllReadyH.cons rfl (fun K hK => ?_) (AllReadyH.cons rfl (fun K hK => ?_) AllReadyH.nil)
                      · skip
                        obtain ⟨v7, w7, hr1, ho1, hg1⟩ := app_str HE_.out (some ⟨gp, op2, none⟩) k pc (strs ((P.drop 0).take k)) (by rw [strs, List.length_map, List.length_take, List.drop_zero]; have := HPL.out; omega) (.inr ⟨_, rfl, HSR.out _ HBE.out.drew 0 k⟩) (strs_one _) (by omega) (by first | (simp; done) | (simp; omega)) 44
                        have HO7 := Lib.hid ho1
                        have HB7 : Hid (Below wr2.heap.size wr2 w7) := Lib.hid (HBE.out.drew.grown hg1 HBE.out.size (fun j e => Nat.le_trans (by have := HBz.out.size; omega) (HE_.out.lt j e).1))
                        have HS7 := Lib.hid (HMC.out _ HB7.out)
                        have HL7 : Hid (Wz.heap.size ≤ w7.heap.size) := Lib.hid (by have := hg1.size; simp at this; omega)
                        refine step_appG rfl _ _ 44 rfl rfl _ _ v7 w7 rfl rfl hr1 ?_
                        refine hK.out _ _ HS7.out (fun _ => ?_)
                        clear hK K hr1 ho1 hg1
                        try simp only [Act.put, List.setIfInBounds_toArray, List.set_cons_zero, List.set_cons_succ, List.getElem_toArray, List.getElem_cons_succ, List.getElem_cons_zero]
                        refine wpAnyH_ready (rs := [9]) (by as_aux_lemma => kernel_rfl) (by simp) ?_
                        refine AllReadyH.cons rfl (fun K hK => ?_) AllReadyH.nil
                        go_simp
                        have HNN : Hid (Box ((World.alloc w7 (.cells #[.string Y] 9))) w7.heap.size 9 (.string Y)) := Lib.hid (by have h : Box (World.alloc w7 (.cells #[.string Y] 9)) w7.heap.size 9 (.string Y) := (by have h := heap_alloc_new w7 (.cells #[.string Y] 9); unfold Box; simpa using h); exact h)
                        have HBN : Hid (Below wr2.heap.size wr2 (World.alloc w7 (.cells #[.string Y] 9))) := Lib.hid (HB7.out.alloc HB7.out.size _)
                        have HSN := Lib.hid (HMC.out _ HBN.out)
                        have HRN : Hid (World.ownsRow ((World.alloc w7 (.cells #[.string Y] 9))) Wz.heap.size 9 1 v7 (0 + k) ([] ++ strs ((P.drop 0).take k))) := Lib.hid ((HO7.out.alloc (.cells #[.string Y] 9)))
                        refine hK.out _ _ HSN.out (fun _ => ?_)
                        clear hK K
                        try simp only [Act.put, List.setIfInBounds_toArray, List.set_cons_zero, List.set_cons_succ, List.getElem_toArray, List.getElem_cons_succ, List.getElem_cons_zero]
                        refine wpAnyH_ready (rs := [10]) (by as_aux_lemma => kernel_rfl) (by simp) ?_
                        refine AllReadyH.cons rfl (fun K hK => ?_) AllReadyH.nil
                        obtain ⟨v10, w10, hr1, ho1, hg1⟩ := app_str HRN.out (some ⟨w7.heap.size, 0, none⟩) 1 1 [.string Y] rfl (.inr ⟨_, rfl, box_cell HNN.out⟩) (by simp [Value.oneCell']) (by omega) (by have := HL7.out; first | omega | (simp; omega)) 44
                        have HO10 := Lib.hid ho1
                        have HB10 : Hid (Below wr2.heap.size wr2 w10) := Lib.hid (HBN.out.grown hg1 HBN.out.size (fun j e => Nat.le_trans (by have := HBz.out.size; omega) (HRN.out.lt j e).1))
                        have HS10 := Lib.hid (HMC.out _ HB10.out)
                        have HL10 : Hid (Wz.heap.size ≤ w10.heap.size) := Lib.hid (by have := hg1.size; have := HL7.out; first | omega | (simp at *; omega))
                        refine step_appG rfl _ _ 44 rfl rfl _ _ v10 w10 rfl rfl hr1 ?_
                        refine hK.out _ _ HS10.out (fun _ => ?_)
                        clear hK K hr1 ho1 hg1
                        try simp only [Act.put, List.setIfInBounds_toArray, List.set_cons_zero, List.set_cons_succ, List.getElem_toArray, List.getElem_cons_succ, List.getElem_cons_zero]
                        refine wpAnyH_ready (rs := [14]) (by as_aux_lemma => kernel_rfl) (by simp) ?_
                        refine AllReadyH.cons rfl (fun K hK => ?_) AllReadyH.nil
                        obtain ⟨v12, w12, hr1, ho1, hg1⟩ := app_str HO10.out (some ⟨gp, op2 + k, none⟩) (PL - k) (pc - k) (strs ((P.drop k).take (PL - k))) (by rw [strs, List.length_map, List.length_take, List.length_drop]; have := HPL.out; omega) (.inr ⟨_, rfl, HSR.out _ HB10.out k (PL - k)⟩) (strs_one _) (by omega) HL10.out 44
                        have HO12 := Lib.hid ho1
                        have HB12 : Hid (Below wr2.heap.size wr2 w12) := Lib.hid (HB10.out.grown hg1 HB10.out.size (fun j e => Nat.le_trans (by have := HBz.out.size; omega) (HO10.out.lt j e).1))
                        have HS12 := Lib.hid (HMC.out _ HB12.out)
                        refine step_appG rfl _ _ 44 rfl rfl _ _ v12 w12 rfl rfl hr1 ?_
                        refine hK.out _ _ HS12.out (fun _ => ?_)
                        clear hK K hr1 ho1 hg1
                        try simp only [Act.put, List.setIfInBounds_toArray, List.set_cons_zero, List.set_cons_succ, List.getElem_toArray, List.getElem_cons_succ, List.getElem_cons_zero]
                        refine wpAnyH_take (i := 15) (v := _) rfl (by as_aux_lemma => kernel_rfl) (by as_aux_lemma => kernel_rfl) (by as_aux_lemma => kernel_rfl) (fun _ _ _ h => h) (Or.inl ⟨by rfl, by intro w hSw; (try dsimp only at hSw); go_simp; try (with_reducible rfl)⟩) HS12.out ?_
                        try simp only [Act.put, List.setIfInBounds_toArray, List.set_cons_zero, List.set_cons_succ, List.getElem_toArray, List.getElem_cons_succ, List.getElem_cons_zero]
                        refine wpAnyH_done (by as_aux_lemma => kernel_rfl) ?_ _
                        have HT9 : Hid (∃ qx qc, v12 = .slice qx (insU y P).length qc ∧ TxV w12 (.slice qx (insU y P).length qc) (insU y P)) := Lib.hid (by
                          have hl : (insU y P).length = 0 + k + 1 + (PL - k) := by rw [HINS.out, List.length_append, List.length_append, List.length_take, List.length_drop, List.length_singleton]; have := HPL.out; omega
                          have hx : [] ++ strs ((P.drop 0).take k) ++ [Value.string Y] ++ strs ((P.drop k).take (PL - k)) = strs (insU y P) := by
                            rw [HINS.out, strs_app, strs_app, List.drop_zero, List.take_of_length_le (l := P.drop k) (by rw [List.length_drop]; have := HPL.out; omega), HYY.out]; rfl
                          have ho := HO12.out
                          rw [hx, ← hl] at ho
                          obtain ⟨qx, qc, rfl⟩ := ownsRow_is ho
                          exact ⟨qx, qc, rfl, TxV.of_row ho (by rw [hl]; omega)⟩)
                        obtain ⟨qx, qc, rfl, ht9⟩ := HT9.out
                        have HT10 := Lib.hid ht9
                        clear ht9 HT9
                        generalize (insU y P).length = QL at HT10 ⊢
                        go_wp2
                        go_roundg (gk - 1)
                        case measure => omega
                        case rel => exact ⟨qq + 1, by omega, by go_num, Lib.hid (by rw [HNEXT.out]; exact HT10.out), Lib.hid (HBQ.out.trans (below_le HB12.out HBQ.out.size))⟩
                      · skip
                        go_simp
                        have HNN : Hid (Box ((World.alloc (World.alloc Wz (.cells #[] 9)) (.cells #[.string Y] 9)).drew) (Wz.heap.size + 1) 9 (.string Y)) := Lib.hid (by have h : Box (World.alloc (World.alloc Wz (.cells #[] 9)) (.cells #[.string Y] 9)) (Wz.heap.size + 1) 9 (.string Y) := (by have h := heap_alloc_new (World.alloc Wz (.cells #[] 9)) (.cells #[.string Y] 9); unfold Box; simpa using h); exact h)
                        have HBN : Hid (Below wr2.heap.size wr2 (World.alloc (World.alloc Wz (.cells #[] 9)) (.cells #[.string Y] 9))) := Lib.hid (HBE.out.alloc HBE.out.size _)
                        have HSN := Lib.hid (HMC.out _ HBN.out.drew)
                        have HRN : Hid (World.ownsRow ((World.alloc (World.alloc Wz (.cells #[] 9)) (.cells #[.string Y] 9)).drew) Wz.heap.size 9 1 (.slice (some ⟨Wz.heap.size, 0, none⟩) 0 0) 0 []) := Lib.hid ((HE_.out.alloc (.cells #[.string Y] 9)))
                        refine hK.out _ _ HSN.out (fun _ => ?_)
                        clear hK K
                        try simp only [Act.put, List.setIfInBounds_toArray, List.set_cons_zero, List.set_cons_succ, List.getElem_toArray, List.getElem_cons_succ, List.getElem_cons_zero]
                        refine wpAnyH_ready (rs := [4]) (by as_aux_lemma => kernel_rfl) (by simp) ?_
                        refine AllReadyH.cons rfl (fun K hK => ?_) AllReadyH.nil
                        obtain ⟨v7, w7, hr1, ho1, hg1⟩ := app_str HRN.out (some ⟨gp, op2, none⟩) k pc (strs ((P.drop 0).take k)) (by rw [strs, List.length_map, List.length_take, List.drop_zero]; have := HPL.out; omega) (.inr ⟨_, rfl, HSR.out _ HBN.out.drew 0 k⟩) (strs_one _) (by omega) (by first | (simp; done) | (simp; omega)) 44
                        have HO7 := Lib.hid ho1
                        have HB7 : Hid (Below wr2.heap.size wr2 w7) := Lib.hid (HBN.out.drew.grown hg1 HBN.out.size (fun j e => Nat.le_trans (by have := HBz.out.size; omega) (HRN.out.lt j e).1))
                        have HS7 := Lib.hid (HMC.out _ HB7.out)
                        have HN7 : Hid (Box w7 (Wz.heap.size + 1) 9 (.string Y)) := Lib.hid ((hg1.block _ HNN.out.lt (fun e => by have h1 : _ = some Wz.heap.size := rfl; have h2 := e.trans h1; simp at h2)).trans HNN.out)
                        have HL7 : Hid (Wz.heap.size ≤ w7.heap.size) := Lib.hid (by have := hg1.size; simp at this; omega)
                        refine step_appG rfl _ _ 44 rfl rfl _ _ v7 w7 rfl rfl hr1 ?_
                        refine hK.out _ _ HS7.out (fun _ => ?_)
                        clear hK K hr1 ho1 hg1
                        try simp only [Act.put, List.setIfInBounds_toArray, List.set_cons_zero, List.set_cons_succ, List.getElem_toArray, List.getElem_cons_succ, List.getElem_cons_zero]
                        refine wpAnyH_ready (rs := [10]) (by as_aux_lemma => kernel_rfl) (by simp) ?_
                        refine AllReadyH.cons rfl (fun K hK => ?_) AllReadyH.nil
                        obtain ⟨v10, w10, hr1, ho1, hg1⟩ := app_str HO7.out (some ⟨(Wz.heap.size + 1), 0, none⟩) 1 1 [.string Y] rfl (.inr ⟨_, rfl, box_cell HN7.out⟩) (by simp [Value.oneCell']) (by omega) (by have := HL7.out; first | omega | (simp; omega)) 44
                        have HO10 := Lib.hid ho1
                        have HB10 : Hid (Below wr2.heap.size wr2 w10) := Lib.hid (HB7.out.grown hg1 HB7.out.size (fun j e => Nat.le_trans (by have := HBz.out.size; omega) (HO7.out.lt j e).1))
                        have HS10 := Lib.hid (HMC.out _ HB10.out)
                        have HL10 : Hid (Wz.heap.size ≤ w10.heap.size) := Lib.hid (by have := hg1.size; have := HL7.out; first | omega | (simp at *; omega))
                        refine step_appG rfl _ _ 44 rfl rfl _ _ v10 w10 rfl rfl hr1 ?_
                        refine hK.out _ _ HS10.out (fun _ => ?_)
                        clear hK K hr1 ho1 hg1
                        try simp only [Act.put, List.setIfInBounds_toArray, List.set_cons_zero, List.set_cons_succ, List.getElem_toArray, List.getElem_cons_succ, List.getElem_cons_zero]
                        refine wpAnyH_ready (rs := [14]) (by as_aux_lemma => kernel_rfl) (by simp) ?_
                        refine AllReadyH.cons rfl (fun K hK => ?_) AllReadyH.nil
                        obtain ⟨v12, w12, hr1, ho1, hg1⟩ := app_str HO10.out (some ⟨gp, op2 + k, none⟩) (PL - k) (pc - k) (strs ((P.drop k).take (PL - k))) (by rw [strs, List.length_map, List.length_take, List.length_drop]; have := HPL.out; omega) (.inr ⟨_, rfl, HSR.out _ HB10.out k (PL - k)⟩) (strs_one _) (by omega) HL10.out 44
                        have HO12 := Lib.hid ho1
                        have HB12 : Hid (Below wr2.heap.size wr2 w12) := Lib.hid (HB10.out.grown hg1 HB10.out.size (fun j e => Nat.le_trans (by have := HBz.out.size; omega) (HO10.out.lt j e).1))
                        have HS12 := Lib.hid (HMC.out _ HB12.out)
                        refine step_appG rfl _ _ 44 rfl rfl _ _ v12 w12 rfl rfl hr1 ?_
                        refine hK.out _ _ HS12.out (fun _ => ?_)
                        clear hK K hr1 ho1 hg1
                        try simp only [Act.put, List.setIfInBounds_toArray, List.set_cons_zero, List.set_cons_succ, List.getElem_toArray, List.getElem_cons_succ, List.getElem_cons_zero]
                        refine wpAnyH_take (i := 15) (v := _) rfl (by as_aux_lemma => kernel_rfl) (by as_aux_lemma => kernel_rfl) (by as_aux_lemma => kernel_rfl) (fun _ _ _ h => h) (Or.inl ⟨by rfl, by intro w hSw; (try dsimp only at hSw); go_simp; try (with_reducible rfl)⟩) HS12.out ?_
                        try simp only [Act.put, List.setIfInBounds_toArray, List.set_cons_zero, List.set_cons_succ, List.getElem_toArray, List.getElem_cons_succ, List.getElem_cons_zero]
                        refine wpAnyH_done (by as_aux_lemma => kernel_rfl) ?_ _
                        have HT9 : Hid (∃ qx qc, v12 = .slice qx (insU y P).length qc ∧ TxV w12 (.slice qx (insU y P).length qc) (insU y P)) := Lib.hid (by
                          have hl : (insU y P).length = 0 + k + 1 + (PL - k) := by rw [HINS.out, List.length_append, List.length_append, List.length_take, List.length_drop, List.length_singleton]; have := HPL.out; omega
                          have hx : [] ++ strs ((P.drop 0).take k) ++ [Value.string Y] ++ strs ((P.drop k).take (PL - k)) = strs (insU y P) := by
                            rw [HINS.out, strs_app, strs_app, List.drop_zero, List.take_of_length_le (l := P.drop k) (by rw [List.length_drop]; have := HPL.out; omega), HYY.out]; rfl
                          have ho := HO12.out
                          rw [hx, ← hl] at ho
                          obtain ⟨qx, qc, rfl⟩ := ownsRow_is ho
                          exact ⟨qx, qc, rfl, TxV.of_row ho (by rw [hl]; omega)⟩)
                        obtain ⟨qx, qc, rfl, ht9⟩ := HT9.out
                        have HT10 := Lib.hid ht9
                        clear ht9 HT9
                        generalize (insU y P).length = QL at HT10 ⊢
                        go_wp2
                        go_roundg (gk - 1)
                        case measure => omega
                        case rel => exact ⟨qq + 1, by omega, by go_num, Lib.hid (by rw [HNEXT.out]; exact HT10.out), Lib.hid (HBQ.out.trans (below_le HB12.out HBQ.out.size))⟩
                    · skip
                      go_simp
                      have HNN : Hid (Box ((World.alloc Wz (.cells #[.string Y] 9)).drew) Wz.heap.size 9 (.string Y)) := Lib.hid (by have h : Box (World.alloc Wz (.cells #[.string Y] 9)) Wz.heap.size 9 (.string Y) := (by have h := heap_alloc_new Wz (.cells #[.string Y] 9); unfold Box; simpa using h); exact h)
                      have HBN : Hid (Below wr2.heap.size wr2 (World.alloc Wz (.cells #[.string Y] 9))) := Lib.hid (HBz.out.alloc HBz.out.size _)
                      have HSN := Lib.hid (HMC.out _ HBN.out.drew)
                      refine hK.out _ _ HSN.out (fun _ => ?_)
                      clear hK K
                      try simp only [Act.put, List.setIfInBounds_toArray, List.set_cons_zero, List.set_cons_succ, List.getElem_toArray, List.getElem_cons_succ, List.getElem_cons_zero]
                      refine wpAnyH_ready (rs := [0]) (by as_aux_lemma => kernel_rfl) (by simp) ?_
                      refine AllReadyH.cons rfl (fun K hK => ?_) AllReadyH.nil
                      go_simp
                      have HE_ : Hid (World.ownsRow ((World.alloc (World.alloc Wz (.cells #[.string Y] 9)) (.cells #[] 9)).drew) (Wz.heap.size + 1) 9 1 (.slice (some ⟨(Wz.heap.size + 1), 0, none⟩) 0 0) 0 []) := Lib.hid (by have h := (empty_row (World.alloc Wz (.cells #[.string Y] 9)) 9 1).drew; simpa using h)
                      have HBE : Hid (Below wr2.heap.size wr2 (World.alloc (World.alloc Wz (.cells #[.string Y] 9)) (.cells #[] 9))) := Lib.hid (HBN.out.alloc HBN.out.size _)
                      have HSE := Lib.hid (HMC.out _ HBE.out.drew)
                      have HNE : Hid (Box ((World.alloc (World.alloc Wz (.cells #[.string Y] 9)) (.cells #[] 9)).drew) Wz.heap.size 9 (.string Y)) := Lib.hid ((heap_alloc_old _ _ HNN.out.lt).trans HNN.out)
                      refine hK.out _ _ HSE.out (fun _ => ?_)
                      clear hK K
                      try simp only [Act.put, List.setIfInBounds_toArray, List.set_cons_zero, List.set_cons_succ, List.getElem_toArray, List.getElem_cons_succ, List.getElem_cons_zero]
                      refine wpAnyH_ready (rs := [4]) (by as_aux_lemma => kernel_rfl) (by simp) ?_
                      refine AllReadyH.cons rfl (fun K hK => ?_) AllReadyH.nil
                      obtain ⟨v7, w7, hr1, ho1, hg1⟩ := app_str HE_.out (some ⟨gp, op2, none⟩) k pc (strs ((P.drop 0).take k)) (by rw [strs, List.length_map, List.length_take, List.drop_zero]; have := HPL.out; omega) (.inr ⟨_, rfl, HSR.out _ HBE.out.drew 0 k⟩) (strs_one _) (by omega) (by first | (simp; done) | (simp; omega)) 44
                      have HO7 := Lib.hid ho1
                      have HB7 : Hid (Below wr2.heap.size wr2 w7) := Lib.hid (HBE.out.drew.grown hg1 HBE.out.size (fun j e => Nat.le_trans (by have := HBz.out.size; omega) (HE_.out.lt j e).1))
                      have HS7 := Lib.hid (HMC.out _ HB7.out)
                      have HN7 : Hid (Box w7 Wz.heap.size 9 (.string Y)) := Lib.hid ((hg1.block _ HNE.out.lt (fun e => by have h1 : _ = some (Wz.heap.size + 1) := rfl; have h2 := e.trans h1; simp at h2)).trans HNE.out)
                      have HL7 : Hid ((Wz.heap.size + 1) ≤ w7.heap.size) := Lib.hid (by have := hg1.size; simp at this; omega)
                      refine step_appG rfl _ _ 44 rfl rfl _ _ v7 w7 rfl rfl hr1 ?_
                      refine hK.out _ _ HS7.out (fun _ => ?_)
                      clear hK K hr1 ho1 hg1
                      try simp only [Act.put, List.setIfInBounds_toArray, List.set_cons_zero, List.set_cons_succ, List.getElem_toArray, List.getElem_cons_succ, List.getElem_cons_zero]
                      refine wpAnyH_ready (rs := [10]) (by as_aux_lemma => kernel_rfl) (by simp) ?_
                      refine AllReadyH.cons rfl (fun K hK => ?_) AllReadyH.nil
                      obtain ⟨v10, w10, hr1, ho1, hg1⟩ := app_str HO7.out (some ⟨Wz.heap.size, 0, none⟩) 1 1 [.string Y] rfl (.inr ⟨_, rfl, box_cell HN7.out⟩) (by simp [Value.oneCell']) (by omega) (by have := HL7.out; first | omega | (simp; omega)) 44
                      have HO10 := Lib.hid ho1
                      have HB10 : Hid (Below wr2.heap.size wr2 w10) := Lib.hid (HB7.out.grown hg1 HB7.out.size (fun j e => Nat.le_trans (by have := HBz.out.size; omega) (HO7.out.lt j e).1))
                      have HS10 := Lib.hid (HMC.out _ HB10.out)
                      have HL10 : Hid ((Wz.heap.size + 1) ≤ w10.heap.size) := Lib.hid (by have := hg1.size; have := HL7.out; first | omega | (simp at *; omega))
                      refine step_appG rfl _ _ 44 rfl rfl _ _ v10 w10 rfl rfl hr1 ?_
                      refine hK.out _ _ HS10.out (fun _ => ?_)
                      clear hK K hr1 ho1 hg1
                      try simp only [Act.put, List.setIfInBounds_toArray, List.set_cons_zero, List.set_cons_succ, List.getElem_toArray, List.getElem_cons_succ, List.getElem_cons_zero]
                      refine wpAnyH_ready (rs := [14]) (by as_aux_lemma => kernel_rfl) (by simp) ?_
                      refine AllReadyH.cons rfl (fun K hK => ?_) AllReadyH.nil
                      obtain ⟨v12, w12, hr1, ho1, hg1⟩ := app_str HO10.out (some ⟨gp, op2 + k, none⟩) (PL - k) (pc - k) (strs ((P.drop k).take (PL - k))) (by rw [strs, List.length_map, List.length_take, List.length_drop]; have := HPL.out; omega) (.inr ⟨_, rfl, HSR.out _ HB10.out k (PL - k)⟩) (strs_one _) (by omega) HL10.out 44
                      have HO12 := Lib.hid ho1
                      have HB12 : Hid (Below wr2.heap.size wr2 w12) := Lib.hid (HB10.out.grown hg1 HB10.out.size (fun j e => Nat.le_trans (by have := HBz.out.size; omega) (HO10.out.lt j e).1))
                      have HS12 := Lib.hid (HMC.out _ HB12.out)
                      refine step_appG rfl _ _ 44 rfl rfl _ _ v12 w12 rfl rfl hr1 ?_
                      refine hK.out _ _ HS12.out (fun _ => ?_)
                      clear hK K hr1 ho1 hg1
                      try simp only [Act.put, List.setIfInBounds_toArray, List.set_cons_zero, List.set_cons_succ, List.getElem_toArray, List.getElem_cons_succ, List.getElem_cons_zero]
                      refine wpAnyH_take (i := 15) (v := _) rfl (by as_aux_lemma => kernel_rfl) (by as_aux_lemma => kernel_rfl) (by as_aux_lemma => kernel_rfl) (fun _ _ _ h => h) (Or.inl ⟨by rfl, by intro w hSw; (try dsimp only at hSw); go_simp; try (with_reducible rfl)⟩) HS12.out ?_
                      try simp only [Act.put, List.setIfInBounds_toArray, List.set_cons_zero, List.set_cons_succ, List.getElem_toArray, List.getElem_cons_succ, List.getElem_cons_zero]
                      refine wpAnyH_done (by as_aux_lemma => kernel_rfl) ?_ _
                      have HT9 : Hid (∃ qx qc, v12 = .slice qx (insU y P).length qc ∧ TxV w12 (.slice qx (insU y P).length qc) (insU y P)) := Lib.hid (by
                        have hl : (insU y P).length = 0 + k + 1 + (PL - k) := by rw [HINS.out, List.length_append, List.length_append, List.length_take, List.length_drop, List.length_singleton]; have := HPL.out; omega
                        have hx : [] ++ strs ((P.drop 0).take k) ++ [Value.string Y] ++ strs ((P.drop k).take (PL - k)) = strs (insU y P) := by
                          rw [HINS.out, strs_app, strs_app, List.drop_zero, List.take_of_length_le (l := P.drop k) (by rw [List.length_drop]; have := HPL.out; omega), HYY.out]; rfl
                        have ho := HO12.out
                        rw [hx, ← hl] at ho
                        obtain ⟨qx, qc, rfl⟩ := ownsRow_is ho
                        exact ⟨qx, qc, rfl, TxV.of_row ho (by rw [hl]; omega)⟩)
                      obtain ⟨qx, qc, rfl, ht9⟩ := HT9.out
                      have HT10 := Lib.hid ht9
                      clear ht9 HT9
                      generalize (insU y P).length = QL at HT10 ⊢
                      go_wp2
                      go_roundg (gk - 1)
                      case measure => omega
                      case rel => exact ⟨qq + 1, by omega, by go_num, Lib.hid (by rw [HNEXT.out]; exact HT10.out), Lib.hid (HBQ.out.trans (below_le HB12.out HBQ.out.size))⟩
              · obtain rfl : k = PL := by omega
                have HINS : Hid (insU y P = P.take k ++ [y] ++ P.drop k) := Lib.hid (by rw [insU_at (k := k) (by have := HPL.out; omega) HR.out (.inl HPL.out), if_neg (fun e => by have := HPL.out; omega)])
                have HNEXT : Hid (insA O (M.take (qq + 1)) = insU y P) := Lib.hid (by
                  rw [List.take_succ_eq_append_getElem hqm, insA_snoc, ← HPP.out, show M[qq] = y by rw [HY.out, List.getD_eq_getElem?_getD, List.getElem?_eq_getElem hqm]; rfl])
                have hke : ((k : Int) == (k : Int)) = true := by simp
                have HBW : Hid (∀ z, Below wr2.heap.size wr2 (wr.drewN z)) := Lib.hid (fun z => by
                  obtain ⟨m, hm⟩ := HW.out
                  rw [hm]; exact below_drewN (below_drewN (Below.refl _ _) m) _)
                cases px with
                | none =>
                  obtain ⟨rfl, rfl, _⟩ := HOQ.out.none0
                  clear hB3
                  go_wp2
                  go_quiet (fail)
                  revert nq
                  intro nqa
                  go_wp2
                  go_quiet (fail)
                  go_wp2_with fail
                  have HBz : Hid (Below wr2.heap.size wr2 ((wr.drewN nqa).drewN nq)) := Lib.hid (by rw [World.drewN_drewN]; exact HBW.out _)
                  generalize ((wr.drewN nqa).drewN nq) = Wz at HBz ⊢
                  refine wp_region_held (S := (fun W => W.cell? ⟨gm, om + qq, none⟩ = some (.string Y))) (by as_aux_lemma => kernel_rfl) ?_
                  change wpAnyH _ _ _ _ _ _ _ _ (World.drew _)
                  have HD0 : Hid (Below wr2.heap.size wr2 Wz.drew) := Lib.hid HBz.out.drew
                  have HS0 := Lib.hid (HMC.out _ HD0.out)
                  refine wpAnyH_take (i := 1) (v := _) rfl (by as_aux_lemma => kernel_rfl) (by as_aux_lemma => kernel_rfl) (by as_aux_lemma => kernel_rfl) (fun _ _ _ h => h) (Or.inl ⟨by rfl, by intro w hSw; (try dsimp only at hSw); go_simp; try (with_reducible rfl)⟩) HS0.out ?_
                  try simp only [Act.put, List.setIfInBounds_toArray, List.set_cons_zero, List.set_cons_succ, List.getElem_toArray, List.getElem_cons_succ, List.getElem_cons_zero]
                  refine wpAnyH_take (i := 2) (v := _) rfl (by as_aux_lemma => kernel_rfl) (by as_aux_lemma => kernel_rfl) (by as_aux_lemma => kernel_rfl) (fun _ _ _ h => h) (Or.inl ⟨by rfl, by intro w hSw; (try dsimp only at hSw); go_simp; try (with_reducible rfl)⟩) HS0.out ?_
                  try simp only [Act.put, List.setIfInBounds_toArray, List.set_cons_zero, List.set_cons_succ, List.getElem_toArray, List.getElem_cons_succ, List.getElem_cons_zero]
                  refine wpAnyH_take (i := 3) (v := _) rfl (by as_aux_lemma => kernel_rfl) (by as_aux_lemma => kernel_rfl) (by as_aux_lemma => kernel_rfl) (fun _ _ _ h => h) (Or.inl ⟨by rfl, by intro w hSw; (try dsimp only at hSw); go_simp; try (with_reducible rfl)⟩) HS0.out ?_
                  try simp only [Act.put, List.setIfInBounds_toArray, List.set_cons_zero, List.set_cons_succ, List.getElem_toArray, List.getElem_cons_succ, List.getElem_cons_zero]
                  refine wpAnyH_take (i := 5) (v := _) rfl (by as_aux_lemma => kernel_rfl) (by as_aux_lemma => kernel_rfl) (by as_aux_lemma => kernel_rfl) (fun _ _ _ h => h) (Or.inl ⟨by rfl, by intro w hSw; (try dsimp only at hSw); go_simp; try (with_reducible rfl)⟩) HS0.out ?_
                  try simp only [Act.put, List.setIfInBounds_toArray, List.set_cons_zero, List.set_cons_succ, List.getElem_toArray, List.getElem_cons_succ, List.getElem_cons_zero]
                  refine wpAnyH_take (i := 6) (v := _) rfl (by as_aux_lemma => kernel_rfl) (by as_aux_lemma => kernel_rfl) (by as_aux_lemma => kernel_rfl) (fun _ _ _ h => h) (Or.inl ⟨by rfl, by intro w hSw; (try dsimp only at hSw); go_simp; try (with_reducible rfl)⟩) HS0.out ?_
                  try simp only [Act.put, List.setIfInBounds_toArray, List.set_cons_zero, List.set_cons_succ, List.getElem_toArray, List.getElem_cons_succ, List.getElem_cons_zero]
                  refine wpAnyH_take (i := 7) (v := _) rfl (by as_aux_lemma => kernel_rfl) (by as_aux_lemma => kernel_rfl) (by as_aux_lemma => kernel_rfl) (fun _ _ _ h => h) (Or.inl ⟨by rfl, by intro w hSw; (try dsimp only at hSw); go_simp; try (with_reducible rfl)⟩) HS0.out ?_
                  try simp only [Act.put, List.setIfInBounds_toArray, List.set_cons_zero, List.set_cons_succ, List.getElem_toArray, List.getElem_cons_succ, List.getElem_cons_zero]
                  refine wpAnyH_take (i := 8) (v := _) rfl (by as_aux_lemma => kernel_rfl) (by as_aux_lemma => kernel_rfl) (by as_aux_lemma => kernel_rfl) (fun _ _ _ h => h) (Or.inl ⟨by rfl, by intro w hSw; (try dsimp only at hSw); go_simp; try (with_reducible rfl)⟩) HS0.out ?_
                  try simp only [Act.put, List.setIfInBounds_toArray, List.set_cons_zero, List.set_cons_succ, List.getElem_toArray, List.getElem_cons_succ, List.getElem_cons_zero]
                  refine wpAnyH_take (i := 11) (v := _) rfl (by as_aux_lemma => kernel_rfl) (by as_aux_lemma => kernel_rfl) (by as_aux_lemma => kernel_rfl) (fun _ _ _ h => h) (Or.inl ⟨by rfl, by intro w hSw; (try dsimp only at hSw); go_simp; try (with_reducible rfl)⟩) HS0.out ?_
                  try simp only [Act.put, List.setIfInBounds_toArray, List.set_cons_zero, List.set_cons_succ, List.getElem_toArray, List.getElem_cons_succ, List.getElem_cons_zero]
                  refine wpAnyH_take (i := 12) (v := _) rfl (by as_aux_lemma => kernel_rfl) (by as_aux_lemma => kernel_rfl) (by as_aux_lemma => kernel_rfl) (fun _ _ _ h => h) (Or.inl ⟨by rfl, by intro w hSw; (try dsimp only at hSw); go_simp; try (with_reducible rfl)⟩) HS0.out ?_
                  try simp only [Act.put, List.setIfInBounds_toArray, List.set_cons_zero, List.set_cons_succ, List.getElem_toArray, List.getElem_cons_succ, List.getElem_cons_zero]
                  refine wpAnyH_take (i := 13) (v := _) rfl (by as_aux_lemma => kernel_rfl) (by as_aux_lemma => kernel_rfl) (by as_aux_lemma => kernel_rfl) (fun _ _ _ h => h) (Or.inl ⟨by rfl, by intro w hSw; (try dsimp only at hSw); go_simp; try (with_reducible rfl)⟩) HS0.out ?_
                  try simp only [Act.put, List.setIfInBounds_toArray, List.set_cons_zero, List.set_cons_succ, List.getElem_toArray, List.getElem_cons_succ, List.getElem_cons_zero]
                  refine wpAnyH_ready (rs := [0, 9]) (by as_aux_lemma => kernel_rfl) (by simp) ?_
                  refine AllReadyH.cons rfl (fun K hK => ?_) (AllReadyH.cons rfl (fun K hK => ?_) AllReadyH.nil)
                  · skip
                    go_simp
                    have HE_ : Hid (World.ownsRow ((World.alloc Wz (.cells #[] 9)).drew) Wz.heap.size 9 1 (.slice (some ⟨Wz.heap.size, 0, none⟩) 0 0) 0 []) := Lib.hid (by have h := (empty_row Wz 9 1).drew; simpa using h)
                    have HBE : Hid (Below wr2.heap.size wr2 (World.alloc Wz (.cells #[] 9))) := Lib.hid (HBz.out.alloc HBz.out.size _)
                    have HSE := Lib.hid (HMC.out _ HBE.out.drew)
                    refine hK.out _ _ HSE.out (fun _ => ?_)
                    clear hK K
                    try simp only [Act.put, List.setIfInBounds_toArray, List.set_cons_zero, List.set_cons_succ, List.getElem_toArray, List.getElem_cons_succ, List.getElem_cons_zero]
                    refine wpAnyH_ready (rs := [4, 9]) (by as_aux_lemma => kernel_rfl) (by simp) ?_
                    refine AllReadyH.cons rfl (fun K hK => ?_) (AllReadyH.cons rfl (fun K hK => ?_) AllReadyH.nil)
                    · skip
                      obtain ⟨v7, w7, hr1, ho1, hg1⟩ := app_str HE_.out none 0 0 (strs ((P.drop 0).take 0)) (by rw [strs, List.length_map, List.length_take, List.drop_zero]; have := HPL.out; omega) (.inl ⟨rfl, rfl, rfl⟩) (strs_one _) (by omega) (by first | (simp; done) | (simp; omega)) 44
                      have HO7 := Lib.hid ho1
                      have HB7 : Hid (Below wr2.heap.size wr2 w7) := Lib.hid (HBE.out.drew.grown hg1 HBE.out.size (fun j e => Nat.le_trans (by have := HBz.out.size; omega) (HE_.out.lt j e).1))
                      have HS7 := Lib.hid (HMC.out _ HB7.out)
                      have HL7 : Hid (Wz.heap.size ≤ w7.heap.size) := Lib.hid (by have := hg1.size; simp at this; omega)
                      refine step_appG rfl _ _ 44 rfl rfl _ _ v7 w7 rfl rfl hr1 ?_
                      refine hK.out _ _ HS7.out (fun _ => ?_)
                      clear hK K hr1 ho1 hg1
                      try simp only [Act.put, List.setIfInBounds_toArray, List.set_cons_zero, List.set_cons_succ, List.getElem_toArray, List.getElem_cons_succ, List.getElem_cons_zero]
                      refine wpAnyH_ready (rs := [9]) (by as_aux_lemma => kernel_rfl) (by simp) ?_
                      refine AllReadyH.cons rfl (fun K hK => ?_) AllReadyH.nil
                      go_simp
                      have HNN : Hid (Box ((World.alloc w7 (.cells #[.string Y] 9))) w7.heap.size 9 (.string Y)) := Lib.hid (by have h : Box (World.alloc w7 (.cells #[.string Y] 9)) w7.heap.size 9 (.string Y) := (by have h := heap_alloc_new w7 (.cells #[.string Y] 9); unfold Box; simpa using h); exact h)
                      have HBN : Hid (Below wr2.heap.size wr2 (World.alloc w7 (.cells #[.string Y] 9))) := Lib.hid (HB7.out.alloc HB7.out.size _)
                      have HSN := Lib.hid (HMC.out _ HBN.out)
                      have HRN : Hid (World.ownsRow ((World.alloc w7 (.cells #[.string Y] 9))) Wz.heap.size 9 1 v7 (0 + 0) ([] ++ strs ((P.drop 0).take 0))) := Lib.hid ((HO7.out.alloc (.cells #[.string Y] 9)))
                      refine hK.out _ _ HSN.out (fun _ => ?_)
                      clear hK K
                      try simp only [Act.put, List.setIfInBounds_toArray, List.set_cons_zero, List.set_cons_succ, List.getElem_toArray, List.getElem_cons_succ, List.getElem_cons_zero]
                      refine wpAnyH_ready (rs := [10]) (by as_aux_lemma => kernel_rfl) (by simp) ?_
                      refine AllReadyH.cons rfl (fun K hK => ?_) AllReadyH.nil
                      obtain ⟨v10, w10, hr1, ho1, hg1⟩ := app_str HRN.out (some ⟨w7.heap.size, 0, none⟩) 1 1 [.string Y] rfl (.inr ⟨_, rfl, box_cell HNN.out⟩) (by simp [Value.oneCell']) (by omega) (by have := HL7.out; first | omega | (simp; omega)) 44
                      have HO10 := Lib.hid ho1
                      have HB10 : Hid (Below wr2.heap.size wr2 w10) := Lib.hid (HBN.out.grown hg1 HBN.out.size (fun j e => Nat.le_trans (by have := HBz.out.size; omega) (HRN.out.lt j e).1))
                      have HS10 := Lib.hid (HMC.out _ HB10.out)
                      have HL10 : Hid (Wz.heap.size ≤ w10.heap.size) := Lib.hid (by have := hg1.size; have := HL7.out; first | omega | (simp at *; omega))
                      refine step_appG rfl _ _ 44 rfl rfl _ _ v10 w10 rfl rfl hr1 ?_
                      refine hK.out _ _ HS10.out (fun _ => ?_)
                      clear hK K hr1 ho1 hg1
                      try simp only [Act.put, List.setIfInBounds_toArray, List.set_cons_zero, List.set_cons_succ, List.getElem_toArray, List.getElem_cons_succ, List.getElem_cons_zero]
                      refine wpAnyH_ready (rs := [14]) (by as_aux_lemma => kernel_rfl) (by simp) ?_
                      refine AllReadyH.cons rfl (fun K hK => ?_) AllReadyH.nil
                      obtain ⟨v12, w12, hr1, ho1, hg1⟩ := app_str HO10.out none 0 0 (strs ((P.drop 0).take 0)) (by rw [strs, List.length_map, List.length_take, List.length_drop]; have := HPL.out; omega) (.inl ⟨rfl, rfl, rfl⟩) (strs_one _) (by omega) HL10.out 44
                      have HO12 := Lib.hid ho1
                      have HB12 : Hid (Below wr2.heap.size wr2 w12) := Lib.hid (HB10.out.grown hg1 HB10.out.size (fun j e => Nat.le_trans (by have := HBz.out.size; omega) (HO10.out.lt j e).1))
                      have HS12 := Lib.hid (HMC.out _ HB12.out)
                      refine step_appG rfl _ _ 44 rfl rfl _ _ v12 w12 rfl rfl hr1 ?_
                      refine hK.out _ _ HS12.out (fun _ => ?_)
                      clear hK K hr1 ho1 hg1
                      try simp only [Act.put, List.setIfInBounds_toArray, List.set_cons_zero, List.set_cons_succ, List.getElem_toArray, List.getElem_cons_succ, List.getElem_cons_zero]
                      refine wpAnyH_take (i := 15) (v := _) rfl (by as_aux_lemma => kernel_rfl) (by as_aux_lemma => kernel_rfl) (by as_aux_lemma => kernel_rfl) (fun _ _ _ h => h) (Or.inl ⟨by rfl, by intro w hSw; (try dsimp only at hSw); go_simp; try (with_reducible rfl)⟩) HS12.out ?_
                      try simp only [Act.put, List.setIfInBounds_toArray, List.set_cons_zero, List.set_cons_succ, List.getElem_toArray, List.getElem_cons_succ, List.getElem_cons_zero]
                      refine wpAnyH_done (by as_aux_lemma => kernel_rfl) ?_ _
                      have HT9 : Hid (∃ qx qc, v12 = .slice qx (insU y P).length qc ∧ TxV w12 (.slice qx (insU y P).length qc) (insU y P)) := Lib.hid (by
                        have hl : (insU y P).length = 0 + 0 + 1 + 0 := by rw [HINS.out, List.length_append, List.length_append, List.length_take, List.length_drop, List.length_singleton]; have := HPL.out; omega
                        have hx : [] ++ strs ((P.drop 0).take 0) ++ [Value.string Y] ++ strs ((P.drop 0).take 0) = strs (insU y P) := by
                          rw [HINS.out, strs_app, strs_app, List.drop_zero, List.take_of_length_le (l := P) (by have := HPL.out; omega), HYY.out]; rfl
                        have ho := HO12.out
                        rw [hx, ← hl] at ho
                        obtain ⟨qx, qc, rfl⟩ := ownsRow_is ho
                        exact ⟨qx, qc, rfl, TxV.of_row ho (by rw [hl]; omega)⟩)
                      obtain ⟨qx, qc, rfl, ht9⟩ := HT9.out
                      have HT10 := Lib.hid ht9
                      clear ht9 HT9
                      generalize (insU y P).length = QL at HT10 ⊢
                      go_wp2
                      go_roundg (gk - 1)
                      case measure => omega
                      case rel => exact ⟨qq + 1, by omega, by go_num, Lib.hid (by rw [HNEXT.out]; exact HT10.out), Lib.hid (HBQ.out.trans (below_le HB12.out HBQ.out.size))⟩
                    · skip
                      go_simp
                      have HNN : Hid (Box ((World.alloc (World.alloc Wz (.cells #[] 9)) (.cells #[.string Y] 9)).drew) (Wz.heap.size + 1) 9 (.string Y)) := Lib.hid (by have h : Box (World.alloc (World.alloc Wz (.cells #[] 9)) (.cells #[.string Y] 9)) (Wz.heap.size + 1) 9 (.string Y) := (by have h := heap_alloc_new (World.alloc Wz (.cells #[] 9)) (.cells #[.string Y] 9); unfold Box; simpa using h); exact h)
                      have HBN : Hid (Below wr2.heap.size wr2 (World.alloc (World.alloc Wz (.cells #[] 9)) (.cells #[.string Y] 9))) := Lib.hid (HBE.out.alloc HBE.out.size _)
                      have HSN := Lib.hid (HMC.out _ HBN.out.drew)
                      have HRN : Hid (World.ownsRow ((World.alloc (World.alloc Wz (.cells #[] 9)) (.cells #[.string Y] 9)).drew) Wz.heap.size 9 1 (.slice (some ⟨Wz.heap.size, 0, none⟩) 0 0) 0 []) := Lib.hid ((HE_.out.alloc (.cells #[.string Y] 9)))
                      refine hK.out _ _ HSN.out (fun _ => ?_)
                      clear hK K
                      try simp only [Act.put, List.setIfInBounds_toArray, List.set_cons_zero, List.set_cons_succ, List.getElem_toArray, List.getElem_cons_succ, List.getElem_cons_zero]
                      refine wpAnyH_ready (rs := [4]) (by as_aux_lemma => kernel_rfl) (by simp) ?_
                      refine AllReadyH.cons rfl (fun K hK => ?_) AllReadyH.nil
                      obtain ⟨v7, w7, hr1, ho1, hg1⟩ := app_str HRN.out none 0 0 (strs ((P.drop 0).take 0)) (by rw [strs, List.length_map, List.length_take, List.drop_zero]; have := HPL.out; omega) (.inl ⟨rfl, rfl, rfl⟩) (strs_one _) (by omega) (by first | (simp; done) | (simp; omega)) 44
                      have HO7 := Lib.hid ho1
                      have HB7 : Hid (Below wr2.heap.size wr2 w7) := Lib.hid (HBN.out.drew.grown hg1 HBN.out.size (fun j e => Nat.le_trans (by have := HBz.out.size; omega) (HRN.out.lt j e).1))
                      have HS7 := Lib.hid (HMC.out _ HB7.out)
                      have HN7 : Hid (Box w7 (Wz.heap.size + 1) 9 (.string Y)) := Lib.hid ((hg1.block _ HNN.out.lt (fun e => by have h1 : _ = some Wz.heap.size := rfl; have h2 := e.trans h1; simp at h2)).trans HNN.out)
                      have HL7 : Hid (Wz.heap.size ≤ w7.heap.size) := Lib.hid (by have := hg1.size; simp at this; omega)
                      refine step_appG rfl _ _ 44 rfl rfl _ _ v7 w7 rfl rfl hr1 ?_
                      refine hK.out _ _ HS7.out (fun _ => ?_)
                      clear hK K hr1 ho1 hg1
                      try simp only [Act.put, List.setIfInBounds_toArray, List.set_cons_zero, List.set_cons_succ, List.getElem_toArray, List.getElem_cons_succ, List.getElem_cons_zero]
                      refine wpAnyH_ready (rs := [10]) (by as_aux_lemma => kernel_rfl) (by simp) ?_
                      refine AllReadyH.cons rfl (fun K hK => ?_) AllReadyH.nil
                      obtain ⟨v10, w10, hr1, ho1, hg1⟩ := app_str HO7.out (some ⟨(Wz.heap.size + 1), 0, none⟩) 1 1 [.string Y] rfl (.inr ⟨_, rfl, box_cell HN7.out⟩) (by simp [Value.oneCell']) (by omega) (by have := HL7.out; first | omega | (simp; omega)) 44
                      have HO10 := Lib.hid ho1
                      have HB10 : Hid (Below wr2.heap.size wr2 w10) := Lib.hid (HB7.out.grown hg1 HB7.out.size (fun j e => Nat.le_trans (by have := HBz.out.size; omega) (HO7.out.lt j e).1))
                      have HS10 := Lib.hid (HMC.out _ HB10.out)
                      have HL10 : Hid (Wz.heap.size ≤ w10.heap.size) := Lib.hid (by have := hg1.size; have := HL7.out; first | omega | (simp at *; omega))
                      refine step_appG rfl _ _ 44 rfl rfl _ _ v10 w10 rfl rfl hr1 ?_
                      refine hK.out _ _ HS10.out (fun _ => ?_)
                      clear hK K hr1 ho1 hg1
                      try simp only [Act.put, List.setIfInBounds_toArray, List.set_cons_zero, List.set_cons_succ, List.getElem_toArray, List.getElem_cons_succ, List.getElem_cons_zero]
                      refine wpAnyH_ready (rs := [14]) (by as_aux_lemma => kernel_rfl) (by simp) ?_
                      refine AllReadyH.cons rfl (fun K hK => ?_) AllReadyH.nil
                      obtain ⟨v12, w12, hr1, ho1, hg1⟩ := app_str HO10.out none 0 0 (strs ((P.drop 0).take 0)) (by rw [strs, List.length_map, List.length_take, List.length_drop]; have := HPL.out; omega) (.inl ⟨rfl, rfl, rfl⟩) (strs_one _) (by omega) HL10.out 44
                      have HO12 := Lib.hid ho1
                      have HB12 : Hid (Below wr2.heap.size wr2 w12) := Lib.hid (HB10.out.grown hg1 HB10.out.size (fun j e => Nat.le_trans (by have := HBz.out.size; omega) (HO10.out.lt j e).1))
                      have HS12 := Lib.hid (HMC.out _ HB12.out)
                      refine step_appG rfl _ _ 44 rfl rfl _ _ v12 w12 rfl rfl hr1 ?_
                      refine hK.out _ _ HS12.out (fun _ => ?_)
                      clear hK K hr1 ho1 hg1
                      try simp only [Act.put, List.setIfInBounds_toArray, List.set_cons_zero, List.set_cons_succ, List.getElem_toArray, List.getElem_cons_succ, List.getElem_cons_zero]
                      refine wpAnyH_take (i := 15) (v := _) rfl (by as_aux_lemma => kernel_rfl) (by as_aux_lemma => kernel_rfl) (by as_aux_lemma => kernel_rfl) (fun _ _ _ h => h) (Or.inl ⟨by rfl, by intro w hSw; (try dsimp only at hSw); go_simp; try (with_reducible rfl)⟩) HS12.out ?_
                      try simp only [Act.put, List.setIfInBounds_toArray, List.set_cons_zero, List.set_cons_succ, List.getElem_toArray, List.getElem_cons_succ, List.getElem_cons_zero]
                      refine wpAnyH_done (by as_aux_lemma => kernel_rfl) ?_ _
                      have HT9 : Hid (∃ qx qc, v12 = .slice qx (insU y P).length qc ∧ TxV w12 (.slice qx (insU y P).length qc) (insU y P)) := Lib.hid (by
                        have hl : (insU y P).length = 0 + 0 + 1 + 0 := by rw [HINS.out, List.length_append, List.length_append, List.length_take, List.length_drop, List.length_singleton]; have := HPL.out; omega
                        have hx : [] ++ strs ((P.drop 0).take 0) ++ [Value.string Y] ++ strs ((P.drop 0).take 0) = strs (insU y P) := by
                          rw [HINS.out, strs_app, strs_app, List.drop_zero, List.take_of_length_le (l := P) (by have := HPL.out; omega), HYY.out]; rfl
                        have ho := HO12.out
                        rw [hx, ← hl] at ho
                        obtain ⟨qx, qc, rfl⟩ := ownsRow_is ho
                        exact ⟨qx, qc, rfl, TxV.of_row ho (by rw [hl]; omega)⟩)
                      obtain ⟨qx, qc, rfl, ht9⟩ := HT9.out
                      have HT10 := Lib.hid ht9
                      clear ht9 HT9
                      generalize (insU y P).length = QL at HT10 ⊢
                      go_wp2
                      go_roundg (gk - 1)
                      case measure => omega
                      case rel => exact ⟨qq + 1, by omega, by go_num, Lib.hid (by rw [HNEXT.out]; exact HT10.out), Lib.hid (HBQ.out.trans (below_le HB12.out HBQ.out.size))⟩
                  · skip
                    go_simp
                    have HNN : Hid (Box ((World.alloc Wz (.cells #[.string Y] 9)).drew) Wz.heap.size 9 (.string Y)) := Lib.hid (by have h : Box (World.alloc Wz (.cells #[.string Y] 9)) Wz.heap.size 9 (.string Y) := (by have h := heap_alloc_new Wz (.cells #[.string Y] 9); unfold Box; simpa using h); exact h)
                    have HBN : Hid (Below wr2.heap.size wr2 (World.alloc Wz (.cells #[.string Y] 9))) := Lib.hid (HBz.out.alloc HBz.out.size _)
                    have HSN := Lib.hid (HMC.out _ HBN.out.drew)
                    refine hK.out _ _ HSN.out (fun _ => ?_)
                    clear hK K
                    try simp only [Act.put, List.setIfInBounds_toArray, List.set_cons_zero, List.set_cons_succ, List.getElem_toArray, List.getElem_cons_succ, List.getElem_cons_zero]
                    refine wpAnyH_ready (rs := [0]) (by as_aux_lemma => kernel_rfl) (by simp) ?_
                    refine AllReadyH.cons rfl (fun K hK => ?_) AllReadyH.nil
                    go_simp
                    have HE_ : Hid (World.ownsRow ((World.alloc (World.alloc Wz (.cells #[.string Y] 9)) (.cells #[] 9)).drew) (Wz.heap.size + 1) 9 1 (.slice (some ⟨(Wz.heap.size + 1), 0, none⟩) 0 0) 0 []) := Lib.hid (by have h := (empty_row (World.alloc Wz (.cells #[.string Y] 9)) 9 1).drew; simpa using h)
                    have HBE : Hid (Below wr2.heap.size wr2 (World.alloc (World.alloc Wz (.cells #[.string Y] 9)) (.cells #[] 9))) := Lib.hid (HBN.out.alloc HBN.out.size _)
                    have HSE := Lib.hid (HMC.out _ HBE.out.drew)
                    have HNE : Hid (Box ((World.alloc (World.alloc Wz (.cells #[.string Y] 9)) (.cells #[] 9)).drew) Wz.heap.size 9 (.string Y)) := Lib.hid ((heap_alloc_old _ _ HNN.out.lt).trans HNN.out)
                    refine hK.out _ _ HSE.out (fun _ => ?_)
                    clear hK K
                    try simp only [Act.put, List.setIfInBounds_toArray, List.set_cons_zero, List.set_cons_succ, List.getElem_toArray, List.getElem_cons_succ, List.getElem_cons_zero]
                    refine wpAnyH_ready (rs := [4]) (by as_aux_lemma => kernel_rfl) (by simp) ?_
                    refine AllReadyH.cons rfl (fun K hK => ?_) AllReadyH.nil
                    obtain ⟨v7, w7, hr1, ho1, hg1⟩ := app_str HE_.out none 0 0 (strs ((P.drop 0).take 0)) (by rw [strs, List.length_map, List.length_take, List.drop_zero]; have := HPL.out; omega) (.inl ⟨rfl, rfl, rfl⟩) (strs_one _) (by omega) (by first | (simp; done) | (simp; omega)) 44
                    have HO7 := Lib.hid ho1
                    have HB7 : Hid (Below wr2.heap.size wr2 w7) := Lib.hid (HBE.out.drew.grown hg1 HBE.out.size (fun j e => Nat.le_trans (by have := HBz.out.size; omega) (HE_.out.lt j e).1))
                    have HS7 := Lib.hid (HMC.out _ HB7.out)
                    have HN7 : Hid (Box w7 Wz.heap.size 9 (.string Y)) := Lib.hid ((hg1.block _ HNE.out.lt (fun e => by have h1 : _ = some (Wz.heap.size + 1) := rfl; have h2 := e.trans h1; simp at h2)).trans HNE.out)
                    have HL7 : Hid ((Wz.heap.size + 1) ≤ w7.heap.size) := Lib.hid (by have := hg1.size; simp at this; omega)
                    refine step_appG rfl _ _ 44 rfl rfl _ _ v7 w7 rfl rfl hr1 ?_
                    refine hK.out _ _ HS7.out (fun _ => ?_)
                    clear hK K hr1 ho1 hg1
                    try simp only [Act.put, List.setIfInBounds_toArray, List.set_cons_zero, List.set_cons_succ, List.getElem_toArray, List.getElem_cons_succ, List.getElem_cons_zero]
                    refine wpAnyH_ready (rs := [10]) (by as_aux_lemma => kernel_rfl) (by simp) ?_
                    refine AllReadyH.cons rfl (fun K hK => ?_) AllReadyH.nil
                    obtain ⟨v10, w10, hr1, ho1, hg1⟩ := app_str HO7.out (some ⟨Wz.heap.size, 0, none⟩) 1 1 [.string Y] rfl (.inr ⟨_, rfl, box_cell HN7.out⟩) (by simp [Value.oneCell']) (by omega) (by have := HL7.out; first | omega | (simp; omega)) 44
                    have HO10 := Lib.hid ho1
                    have HB10 : Hid (Below wr2.heap.size wr2 w10) := Lib.hid (HB7.out.grown hg1 HB7.out.size (fun j e => Nat.le_trans (by have := HBz.out.size; omega) (HO7.out.lt j e).1))
                    have HS10 := Lib.hid (HMC.out _ HB10.out)
                    have HL10 : Hid ((Wz.heap.size + 1) ≤ w10.heap.size) := Lib.hid (by have := hg1.size; have := HL7.out; first | omega | (simp at *; omega))
                    refine step_appG rfl _ _ 44 rfl rfl _ _ v10 w10 rfl rfl hr1 ?_
                    refine hK.out _ _ HS10.out (fun _ => ?_)
                    clear hK K hr1 ho1 hg1
                    try simp only [Act.put, List.setIfInBounds_toArray, List.set_cons_zero, List.set_cons_succ, List.getElem_toArray, List.getElem_cons_succ, List.getElem_cons_zero]
                    refine wpAnyH_ready (rs := [14]) (by as_aux_lemma => kernel_rfl) (by simp) ?_
                    refine AllReadyH.cons rfl (fun K hK => ?_) AllReadyH.nil
                    obtain ⟨v12, w12, hr1, ho1, hg1⟩ := app_str HO10.out none 0 0 (strs ((P.drop 0).take 0)) (by rw [strs, List.length_map, List.length_take, List.length_drop]; have := HPL.out; omega) (.inl ⟨rfl, rfl, rfl⟩) (strs_one _) (by omega) HL10.out 44
                    have HO12 := Lib.hid ho1
                    have HB12 : Hid (Below wr2.heap.size wr2 w12) := Lib.hid (HB10.out.grown hg1 HB10.out.size (fun j e => Nat.le_trans (by have := HBz.out.size; omega) (HO10.out.lt j e).1))
                    have HS12 := Lib.hid (HMC.out _ HB12.out)
                    refine step_appG rfl _ _ 44 rfl rfl _ _ v12 w12 rfl rfl hr1 ?_
                    refine hK.out _ _ HS12.out (fun _ => ?_)
                    clear hK K hr1 ho1 hg1
                    try simp only [Act.put, List.setIfInBounds_toArray, List.set_cons_zero, List.set_cons_succ, List.getElem_toArray, List.getElem_cons_succ, List.getElem_cons_zero]
                    refine wpAnyH_take (i := 15) (v := _) rfl (by as_aux_lemma => kernel_rfl) (by as_aux_lemma => kernel_rfl) (by as_aux_lemma => kernel_rfl) (fun _ _ _ h => h) (Or.inl ⟨by rfl, by intro w hSw; (try dsimp only at hSw); go_simp; try (with_reducible rfl)⟩) HS12.out ?_
                    try simp only [Act.put, List.setIfInBounds_toArray, List.set_cons_zero, List.set_cons_succ, List.getElem_toArray, List.getElem_cons_succ, List.getElem_cons_zero]
                    refine wpAnyH_done (by as_aux_lemma => kernel_rfl) ?_ _
                    have HT9 : Hid (∃ qx qc, v12 = .slice qx (insU y P).length qc ∧ TxV w12 (.slice qx (insU y P).length qc) (insU y P)) := Lib.hid (by
                      have hl : (insU y P).length = 0 + 0 + 1 + 0 := by rw [HINS.out, List.length_append, List.length_append, List.length_take, List.length_drop, List.length_singleton]; have := HPL.out; omega
                      have hx : [] ++ strs ((P.drop 0).take 0) ++ [Value.string Y] ++ strs ((P.drop 0).take 0) = strs (insU y P) := by
                        rw [HINS.out, strs_app, strs_app, List.drop_zero, List.take_of_length_le (l := P) (by have := HPL.out; omega), HYY.out]; rfl
                      have ho := HO12.out
                      rw [hx, ← hl] at ho
                      obtain ⟨qx, qc, rfl⟩ := ownsRow_is ho
                      exact ⟨qx, qc, rfl, TxV.of_row ho (by rw [hl]; omega)⟩)
                    obtain ⟨qx, qc, rfl, ht9⟩ := HT9.out
                    have HT10 := Lib.hid ht9
                    clear ht9 HT9
                    generalize (insU y P).length = QL at HT10 ⊢
                    go_wp2
                    go_roundg (gk - 1)
                    case measure => omega
                    case rel => exact ⟨qq + 1, by omega, by go_num, Lib.hid (by rw [HNEXT.out]; exact HT10.out), Lib.hid (HBQ.out.trans (below_le HB12.out HBQ.out.size))⟩
                | some a0 =>
                  obtain ⟨gp, op2, rfl⟩ := HOQ.out.some0
                  have HSR : Hid (∀ W, Below wr2.heap.size wr2 W → ∀ i n, ∀ j u, (strs ((P.drop i).take n))[j]? = some u → W.cell? ((⟨gp, op2 + i, none⟩ : Addr).add j) = some u) := Lib.hid (fun W hW i n => TxV.src (by rw [← HPL.out]; exact HOQ.out) hW i n)
                  clear hB3
                  by_cases hpk : k = pc
                  · subst hpk
                    go_wp2
                    go_quiet (fail)
                    revert nq
                    intro nqa
                    go_wp2
                    go_quiet (fail)
                    go_wp2_with fail
                    have HBz : Hid (Below wr2.heap.size wr2 ((wr.drewN nqa).drewN nq)) := Lib.hid (by rw [World.drewN_drewN]; exact HBW.out _)
                    generalize ((wr.drewN nqa).drewN nq) = Wz at HBz ⊢
                    refine wp_region_held (S := (fun W => W.cell? ⟨gm, om + qq, none⟩ = some (.string Y))) (by as_aux_lemma => kernel_rfl) ?_
                    change wpAnyH _ _ _ _ _ _ _ _ (World.drew _)
                    have HD0 : Hid (Below wr2.heap.size wr2 Wz.drew) := Lib.hid HBz.out.drew
                    have HS0 := Lib.hid (HMC.out _ HD0.out)
                    refine wpAnyH_take (i := 1) (v := _) rfl (by as_aux_lemma => kernel_rfl) (by as_aux_lemma => kernel_rfl) (by as_aux_lemma => kernel_rfl) (fun _ _ _ h => h) (Or.inl ⟨by rfl, by intro w hSw; (try dsimp only at hSw); go_simp; try (with_reducible rfl)⟩) HS0.out ?_
                    try simp only [Act.put, List.setIfInBounds_toArray, List.set_cons_zero, List.set_cons_succ, List.getElem_toArray, List.getElem_cons_succ, List.getElem_cons_zero]
                    refine wpAnyH_take (i := 2) (v := _) rfl (by as_aux_lemma => kernel_rfl) (by as_aux_lemma => kernel_rfl) (by as_aux_lemma => kernel_rfl) (fun _ _ _ h => h) (Or.inl ⟨by rfl, by intro w hSw; (try dsimp only at hSw); go_simp; try (with_reducible rfl)⟩) HS0.out ?_
                    try simp only [Act.put, List.setIfInBounds_toArray, List.set_cons_zero, List.set_cons_succ, List.getElem_toArray, List.getElem_cons_succ, List.getElem_cons_zero]
                    refine wpAnyH_take (i := 3) (v := _) rfl (by as_aux_lemma => kernel_rfl) (by as_aux_lemma => kernel_rfl) (by as_aux_lemma => kernel_rfl) (fun _ _ _ h => h) (Or.inl ⟨by rfl, by intro w hSw; (try dsimp only at hSw); go_simp; try (with_reducible rfl)⟩) HS0.out ?_
                    try simp only [Act.put, List.setIfInBounds_toArray, List.set_cons_zero, List.set_cons_succ, List.getElem_toArray, List.getElem_cons_succ, List.getElem_cons_zero]
                    refine wpAnyH_take (i := 5) (v := _) rfl (by as_aux_lemma => kernel_rfl) (by as_aux_lemma => kernel_rfl) (by as_aux_lemma => kernel_rfl) (fun _ _ _ h => h) (Or.inl ⟨by rfl, by intro w hSw; (try dsimp only at hSw); go_simp; try (with_reducible rfl)⟩) HS0.out ?_
                    try simp only [Act.put, List.setIfInBounds_toArray, List.set_cons_zero, List.set_cons_succ, List.getElem_toArray, List.getElem_cons_succ, List.getElem_cons_zero]
                    refine wpAnyH_take (i := 6) (v := _) rfl (by as_aux_lemma => kernel_rfl) (by as_aux_lemma => kernel_rfl) (by as_aux_lemma => kernel_rfl) (fun _ _ _ h => h) (Or.inl ⟨by rfl, by intro w hSw; (try dsimp only at hSw); go_simp; try (with_reducible rfl)⟩) HS0.out ?_
                    try simp only [Act.put, List.setIfInBounds_toArray, List.set_cons_zero, List.set_cons_succ, List.getElem_toArray, List.getElem_cons_succ, List.getElem_cons_zero]
                    refine wpAnyH_take (i := 7) (v := _) rfl (by as_aux_lemma => kernel_rfl) (by as_aux_lemma => kernel_rfl) (by as_aux_lemma => kernel_rfl) (fun _ _ _ h => h) (Or.inl ⟨by rfl, by intro w hSw; (try dsimp only at hSw); go_simp; try (with_reducible rfl)⟩) HS0.out ?_
                    try simp only [Act.put, List.setIfInBounds_toArray, List.set_cons_zero, List.set_cons_succ, List.getElem_toArray, List.getElem_cons_succ, List.getElem_cons_zero]
                    refine wpAnyH_take (i := 8) (v := _) rfl (by as_aux_lemma => kernel_rfl) (by as_aux_lemma => kernel_rfl) (by as_aux_lemma => kernel_rfl) (fun _ _ _ h => h) (Or.inl ⟨by rfl, by intro w hSw; (try dsimp only at hSw); go_simp; try (with_reducible rfl)⟩) HS0.out ?_
                    try simp only [Act.put, List.setIfInBounds_toArray, List.set_cons_zero, List.set_cons_succ, List.getElem_toArray, List.getElem_cons_succ, List.getElem_cons_zero]
                    refine wpAnyH_take (i := 11) (v := _) rfl (by as_aux_lemma => kernel_rfl) (by as_aux_lemma => kernel_rfl) (by as_aux_lemma => kernel_rfl) (fun _ _ _ h => h) (Or.inl ⟨by rfl, by intro w hSw; (try dsimp only at hSw); go_simp; try (with_reducible rfl)⟩) HS0.out ?_
                    try simp only [Act.put, List.setIfInBounds_toArray, List.set_cons_zero, List.set_cons_succ, List.getElem_toArray, List.getElem_cons_succ, List.getElem_cons_zero]
                    refine wpAnyH_take (i := 12) (v := _) rfl (by as_aux_lemma => kernel_rfl) (by as_aux_lemma => kernel_rfl) (by as_aux_lemma => kernel_rfl) (fun _ _ _ h => h) (Or.inl ⟨by rfl, by intro w hSw; (try dsimp only at hSw); go_simp; try (with_reducible rfl)⟩) HS0.out ?_
                    try simp only [Act.put, List.setIfInBounds_toArray, List.set_cons_zero, List.set_cons_succ, List.getElem_toArray, List.getElem_cons_succ, List.getElem_cons_zero]
                    refine wpAnyH_take (i := 13) (v := _) rfl (by as_aux_lemma => kernel_rfl) (by as_aux_lemma => kernel_rfl) (by as_aux_lemma => kernel_rfl) (fun _ _ _ h => h) (Or.inl ⟨by rfl, by intro w hSw; (try dsimp only at hSw); go_simp; try (with_reducible rfl)⟩) HS0.out ?_
                    try simp only [Act.put, List.setIfInBounds_toArray, List.set_cons_zero, List.set_cons_succ, List.getElem_toArray, List.getElem_cons_succ, List.getElem_cons_zero]
                    refine wpAnyH_ready (rs := [0, 9]) (by as_aux_lemma => kernel_rfl) (by simp) ?_
                    refine AllReadyH.cons rfl (fun K hK => ?_) (AllReadyH.cons rfl (fun K hK => ?_) AllReadyH.nil)
                    · skip
                      go_simp
                      have HE_ : Hid (World.ownsRow ((World.alloc Wz (.cells #[] 9)).drew) Wz.heap.size 9 1 (.slice (some ⟨Wz.heap.size, 0, none⟩) 0 0) 0 []) := Lib.hid (by have h := (empty_row Wz 9 1).drew; simpa using h)
                      have HBE : Hid (Below wr2.heap.size wr2 (World.alloc Wz (.cells #[] 9))) := Lib.hid (HBz.out.alloc HBz.out.size _)
                      have HSE := Lib.hid (HMC.out _ HBE.out.drew)
                      refine hK.out _ _ HSE.out (fun _ => ?_)
                      clear hK K
                      try simp only [Act.put, List.setIfInBounds_toArray, List.set_cons_zero, List.set_cons_succ, List.getElem_toArray, List.getElem_cons_succ, List.getElem_cons_zero]
                      refine wpAnyH_ready (rs := [4, 9]) (by as_aux_lemma => kernel_rfl) (by simp) ?_
                      refine AllReadyH.cons rfl (fun K hK => ?_) (AllReadyH.cons rfl (fun K hK => ?_) AllReadyH.nil)
                      · skip
                        obtain ⟨v7, w7, hr1, ho1, hg1⟩ := app_str HE_.out (some ⟨gp, op2, none⟩) k k (strs ((P.drop 0).take k)) (by rw [strs, List.length_map, List.length_take, List.drop_zero]; have := HPL.out; omega) (.inr ⟨_, rfl, HSR.out _ HBE.out.drew 0 k⟩) (strs_one _) (by omega) (by first | (simp; done) | (simp; omega)) 44
                        have HO7 := Lib.hid ho1
                        have HB7 : Hid (Below wr2.heap.size wr2 w7) := Lib.hid (HBE.out.drew.grown hg1 HBE.out.size (fun j e => Nat.le_trans (by have := HBz.out.size; omega) (HE_.out.lt j e).1))
                        have HS7 := Lib.hid (HMC.out _ HB7.out)
                        have HL7 : Hid (Wz.heap.size ≤ w7.heap.size) := Lib.hid (by have := hg1.size; simp at this; omega)
                        refine step_appG rfl _ _ 44 rfl rfl _ _ v7 w7 rfl rfl hr1 ?_
                        refine hK.out _ _ HS7.out (fun _ => ?_)
                        clear hK K hr1 ho1 hg1
                        try simp only [Act.put, List.setIfInBounds_toArray, List.set_cons_zero, List.set_cons_succ, List.getElem_toArray, List.getElem_cons_succ, List.getElem_cons_zero]
                        refine wpAnyH_ready (rs := [9]) (by as_aux_lemma => kernel_rfl) (by simp) ?_
                        refine AllReadyH.cons rfl (fun K hK => ?_) AllReadyH.nil
                        go_simp
                        have HNN : Hid (Box ((World.alloc w7 (.cells #[.string Y] 9))) w7.heap.size 9 (.string Y)) := Lib.hid (by have h : Box (World.alloc w7 (.cells #[.string Y] 9)) w7.heap.size 9 (.string Y) := (by have h := heap_alloc_new w7 (.cells #[.string Y] 9); unfold Box; simpa using h); exact h)
                        have HBN : Hid (Below wr2.heap.size wr2 (World.alloc w7 (.cells #[.string Y] 9))) := Lib.hid (HB7.out.alloc HB7.out.size _)
                        have HSN := Lib.hid (HMC.out _ HBN.out)
                        have HRN : Hid (World.ownsRow ((World.alloc w7 (.cells #[.string Y] 9))) Wz.heap.size 9 1 v7 (0 + k) ([] ++ strs ((P.drop 0).take k))) := Lib.hid ((HO7.out.alloc (.cells #[.string Y] 9)))
                        refine hK.out _ _ HSN.out (fun _ => ?_)
                        clear hK K
                        try simp only [Act.put, List.setIfInBounds_toArray, List.set_cons_zero, List.set_cons_succ, List.getElem_toArray, List.getElem_cons_succ, List.getElem_cons_zero]
                        refine wpAnyH_ready (rs := [10]) (by as_aux_lemma => kernel_rfl) (by simp) ?_
                        refine AllReadyH.cons rfl (fun K hK => ?_) AllReadyH.nil
                        obtain ⟨v10, w10, hr1, ho1, hg1⟩ := app_str HRN.out (some ⟨w7.heap.size, 0, none⟩) 1 1 [.string Y] rfl (.inr ⟨_, rfl, box_cell HNN.out⟩) (by simp [Value.oneCell']) (by omega) (by have := HL7.out; first | omega | (simp; omega)) 44
                        have HO10 := Lib.hid ho1
                        have HB10 : Hid (Below wr2.heap.size wr2 w10) := Lib.hid (HBN.out.grown hg1 HBN.out.size (fun j e => Nat.le_trans (by have := HBz.out.size; omega) (HRN.out.lt j e).1))
                        have HS10 := Lib.hid (HMC.out _ HB10.out)
                        have HL10 : Hid (Wz.heap.size ≤ w10.heap.size) := Lib.hid (by have := hg1.size; have := HL7.out; first | omega | (simp at *; omega))
                        refine step_appG rfl _ _ 44 rfl rfl _ _ v10 w10 rfl rfl hr1 ?_
                        refine hK.out _ _ HS10.out (fun _ => ?_)
                        clear hK K hr1 ho1 hg1
                        try simp only [Act.put, List.setIfInBounds_toArray, List.set_cons_zero, List.set_cons_succ, List.getElem_toArray, List.getElem_cons_succ, List.getElem_cons_zero]
                        refine wpAnyH_ready (rs := [14]) (by as_aux_lemma => kernel_rfl) (by simp) ?_
                        refine AllReadyH.cons rfl (fun K hK => ?_) AllReadyH.nil
                        obtain ⟨v12, w12, hr1, ho1, hg1⟩ := app_str HO10.out (some ⟨gp, op2, none⟩) 0 0 (strs ((P.drop k).take 0)) (by rw [strs, List.length_map, List.length_take, List.length_drop]; have := HPL.out; omega) (.inr ⟨_, rfl, fun j u hu => by simp [strs] at hu⟩) (strs_one _) (by omega) HL10.out 44
                        have HO12 := Lib.hid ho1
                        have HB12 : Hid (Below wr2.heap.size wr2 w12) := Lib.hid (HB10.out.grown hg1 HB10.out.size (fun j e => Nat.le_trans (by have := HBz.out.size; omega) (HO10.out.lt j e).1))
                        have HS12 := Lib.hid (HMC.out _ HB12.out)
                        refine step_appG rfl _ _ 44 rfl rfl _ _ v12 w12 rfl rfl hr1 ?_
                        refine hK.out _ _ HS12.out (fun _ => ?_)
                        clear hK K hr1 ho1 hg1
                        try simp only [Act.put, List.setIfInBounds_toArray, List.set_cons_zero, List.set_cons_succ, List.getElem_toArray, List.getElem_cons_succ, List.getElem_cons_zero]
                        refine wpAnyH_take (i := 15) (v := _) rfl (by as_aux_lemma => kernel_rfl) (by as_aux_lemma => kernel_rfl) (by as_aux_lemma => kernel_rfl) (fun _ _ _ h => h) (Or.inl ⟨by rfl, by intro w hSw; (try dsimp only at hSw); go_simp; try (with_reducible rfl)⟩) HS12.out ?_
                        try simp only [Act.put, List.setIfInBounds_toArray, List.set_cons_zero, List.set_cons_succ, List.getElem_toArray, List.getElem_cons_succ, List.getElem_cons_zero]
                        refine wpAnyH_done (by as_aux_lemma => kernel_rfl) ?_ _
                        have HT9 : Hid (∃ qx qc, v12 = .slice qx (insU y P).length qc ∧ TxV w12 (.slice qx (insU y P).length qc) (insU y P)) := Lib.hid (by
                          have hl : (insU y P).length = 0 + k + 1 + 0 := by rw [HINS.out, List.length_append, List.length_append, List.length_take, List.length_drop, List.length_singleton]; have := HPL.out; omega
                          have hx : [] ++ strs ((P.drop 0).take k) ++ [Value.string Y] ++ strs ((P.drop k).take 0) = strs (insU y P) := by
                            rw [HINS.out, strs_app, strs_app, List.drop_zero, List.take_of_length_le (l := P.drop k) (by rw [List.length_drop]; have := HPL.out; omega), HYY.out]; rfl
                          have ho := HO12.out
                          rw [hx, ← hl] at ho
                          obtain ⟨qx, qc, rfl⟩ := ownsRow_is ho
                          exact ⟨qx, qc, rfl, TxV.of_row ho (by rw [hl]; omega)⟩)
                        obtain ⟨qx, qc, rfl, ht9⟩ := HT9.out
                        have HT10 := Lib.hid ht9
                        clear ht9 HT9
                        generalize (insU y P).length = QL at HT10 ⊢
                        go_wp2
                        go_roundg (gk - 1)
                        case measure => omega
                        case rel => exact ⟨qq + 1, by omega, by go_num, Lib.hid (by rw [HNEXT.out]; exact HT10.out), Lib.hid (HBQ.out.trans (below_le HB12.out HBQ.out.size))⟩
                      · skip
                        go_simp
                        have HNN : Hid (Box ((World.alloc (World.alloc Wz (.cells #[] 9)) (.cells #[.string Y] 9)).drew) (Wz.heap.size + 1) 9 (.string Y)) := Lib.hid (by have h : Box (World.alloc (World.alloc Wz (.cells #[] 9)) (.cells #[.string Y] 9)) (Wz.heap.size + 1) 9 (.string Y) := (by have h := heap_alloc_new (World.alloc Wz (.cells #[] 9)) (.cells #[.string Y] 9); unfold Box; simpa using h); exact h)
                        have HBN : Hid (Below wr2.heap.size wr2 (World.alloc (World.alloc Wz (.cells #[] 9)) (.cells #[.string Y] 9))) := Lib.hid (HBE.out.alloc HBE.out.size _)
                        have HSN := Lib.hid (HMC.out _ HBN.out.drew)
                        have HRN : Hid (World.ownsRow ((World.alloc (World.alloc Wz (.cells #[] 9)) (.cells #[.string Y] 9)).drew) Wz.heap.size 9 1 (.slice (some ⟨Wz.heap.size, 0, none⟩) 0 0) 0 []) := Lib.hid ((HE_.out.alloc (.cells #[.string Y] 9)))
                        refine hK.out _ _ HSN.out (fun _ => ?_)
                        clear hK K
                        try simp only [Act.put, List.setIfInBounds_toArray, List.set_cons_zero, List.set_cons_succ, List.getElem_toArray, List.getElem_cons_succ, List.getElem_cons_zero]
                        refine wpAnyH_ready (rs := [4]) (by as_aux_lemma => kernel_rfl) (by simp) ?_
                        refine AllReadyH.cons rfl (fun K hK => ?_) AllReadyH.nil
                        obtain ⟨v7, w7, hr1, ho1, hg1⟩ := app_str HRN.out (some ⟨gp, op2, none⟩) k k (strs ((P.drop 0).take k)) (by rw [strs, List.length_map, List.length_take, List.drop_zero]; have := HPL.out; omega) (.inr ⟨_, rfl, HSR.out _ HBN.out.drew 0 k⟩) (strs_one _) (by omega) (by first | (simp; done) | (simp; omega)) 44
                        have HO7 := Lib.hid ho1
                        have HB7 : Hid (Below wr2.heap.size wr2 w7) := Lib.hid (HBN.out.drew.grown hg1 HBN.out.size (fun j e => Nat.le_trans (by have := HBz.out.size; omega) (HRN.out.lt j e).1))
                        have HS7 := Lib.hid (HMC.out _ HB7.out)
                        have HN7 : Hid (Box w7 (Wz.heap.size + 1) 9 (.string Y)) := Lib.hid ((hg1.block _ HNN.out.lt (fun e => by have h1 : _ = some Wz.heap.size := rfl; have h2 := e.trans h1; simp at h2)).trans HNN.out)
                        have HL7 : Hid (Wz.heap.size ≤ w7.heap.size) := Lib.hid (by have := hg1.size; simp at this; omega)
                        refine step_appG rfl _ _ 44 rfl rfl _ _ v7 w7 rfl rfl hr1 ?_
                        refine hK.out _ _ HS7.out (fun _ => ?_)
                        clear hK K hr1 ho1 hg1
                        try simp only [Act.put, List.setIfInBounds_toArray, List.set_cons_zero, List.set_cons_succ, List.getElem_toArray, List.getElem_cons_succ, List.getElem_cons_zero]
                        refine wpAnyH_ready (rs := [10]) (by as_aux_lemma => kernel_rfl) (by simp) ?_
                        refine AllReadyH.cons rfl (fun K hK => ?_) AllReadyH.nil
                        obtain ⟨v10, w10, hr1, ho1, hg1⟩ := app_str HO7.out (some ⟨(Wz.heap.size + 1), 0, none⟩) 1 1 [.string Y] rfl (.inr ⟨_, rfl, box_cell HN7.out⟩) (by simp [Value.oneCell']) (by omega) (by have := HL7.out; first | omega | (simp; omega)) 44
                        have HO10 := Lib.hid ho1
                        have HB10 : Hid (Below wr2.heap.size wr2 w10) := Lib.hid (HB7.out.grown hg1 HB7.out.size (fun j e => Nat.le_trans (by have := HBz.out.size; omega) (HO7.out.lt j e).1))
                        have HS10 := Lib.hid (HMC.out _ HB10.out)
                        have HL10 : Hid (Wz.heap.size ≤ w10.heap.size) := Lib.hid (by have := hg1.size; have := HL7.out; first | omega | (simp at *; omega))
                        refine step_appG rfl _ _ 44 rfl rfl _ _ v10 w10 rfl rfl hr1 ?_
                        refine hK.out _ _ HS10.out (fun _ => ?_)
                        clear hK K hr1 ho1 hg1
                        try simp only [Act.put, List.setIfInBounds_toArray, List.set_cons_zero, List.set_cons_succ, List.getElem_toArray, List.getElem_cons_succ, List.getElem_cons_zero]
                        refine wpAnyH_ready (rs := [14]) (by as_aux_lemma => kernel_rfl) (by simp) ?_
                        refine AllReadyH.cons rfl (fun K hK => ?_) AllReadyH.nil
                        obtain ⟨v12, w12, hr1, ho1, hg1⟩ := app_str HO10.out (some ⟨gp, op2, none⟩) 0 0 (strs ((P.drop k).take 0)) (by rw [strs, List.length_map, List.length_take, List.length_drop]; have := HPL.out; omega) (.inr ⟨_, rfl, fun j u hu => by simp [strs] at hu⟩) (strs_one _) (by omega) HL10.out 44
                        have HO12 := Lib.hid ho1
                        have HB12 : Hid (Below wr2.heap.size wr2 w12) := Lib.hid (HB10.out.grown hg1 HB10.out.size (fun j e => Nat.le_trans (by have := HBz.out.size; omega) (HO10.out.lt j e).1))
                        have HS12 := Lib.hid (HMC.out _ HB12.out)
                        refine step_appG rfl _ _ 44 rfl rfl _ _ v12 w12 rfl rfl hr1 ?_
                        refine hK.out _ _ HS12.out (fun _ => ?_)
                        clear hK K hr1 ho1 hg1
                        try simp only [Act.put, List.setIfInBounds_toArray, List.set_cons_zero, List.set_cons_succ, List.getElem_toArray, List.getElem_cons_succ, List.getElem_cons_zero]
                        refine wpAnyH_take (i := 15) (v := _) rfl (by as_aux_lemma => kernel_rfl) (by as_aux_lemma => kernel_rfl) (by as_aux_lemma => kernel_rfl) (fun _ _ _ h => h) (Or.inl ⟨by rfl, by intro w hSw; (try dsimp only at hSw); go_simp; try (with_reducible rfl)⟩) HS12.out ?_
                        try simp only [Act.put, List.setIfInBounds_toArray, List.set_cons_zero, List.set_cons_succ, List.getElem_toArray, List.getElem_cons_succ, List.getElem_cons_zero]
                        refine wpAnyH_done (by as_aux_lemma => kernel_rfl) ?_ _
                        have HT9 : Hid (∃ qx qc, v12 = .slice qx (insU y P).length qc ∧ TxV w12 (.slice qx (insU y P).length qc) (insU y P)) := Lib.hid (by
                          have hl : (insU y P).length = 0 + k + 1 + 0 := by rw [HINS.out, List.length_append, List.length_append, List.length_take, List.length_drop, List.length_singleton]; have := HPL.out; omega
                          have hx : [] ++ strs ((P.drop 0).take k) ++ [Value.string Y] ++ strs ((P.drop k).take 0) = strs (insU y P) := by
                            rw [HINS.out, strs_app, strs_app, List.drop_zero, List.take_of_length_le (l := P.drop k) (by rw [List.length_drop]; have := HPL.out; omega), HYY.out]; rfl
                          have ho := HO12.out
                          rw [hx, ← hl] at ho
                          obtain ⟨qx, qc, rfl⟩ := ownsRow_is ho
                          exact ⟨qx, qc, rfl, TxV.of_row ho (by rw [hl]; omega)⟩)
                        obtain ⟨qx, qc, rfl, ht9⟩ := HT9.out
                        have HT10 := Lib.hid ht9
                        clear ht9 HT9
                        generalize (insU y P).length = QL at HT10 ⊢
                        go_wp2
                        go_roundg (gk - 1)
                        case measure => omega
                        case rel => exact ⟨qq + 1, by omega, by go_num, Lib.hid (by rw [HNEXT.out]; exact HT10.out), Lib.hid (HBQ.out.trans (below_le HB12.out HBQ.out.size))⟩
                    · skip
                      go_simp
                      have HNN : Hid (Box ((World.alloc Wz (.cells #[.string Y] 9)).drew) Wz.heap.size 9 (.string Y)) := Lib.hid (by have h : Box (World.alloc Wz (.cells #[.string Y] 9)) Wz.heap.size 9 (.string Y) := (by have h := heap_alloc_new Wz (.cells #[.string Y] 9); unfold Box; simpa using h); exact h)
                      have HBN : Hid (Below wr2.heap.size wr2 (World.alloc Wz (.cells #[.string Y] 9))) := Lib.hid (HBz.out.alloc HBz.out.size _)
                      have HSN := Lib.hid (HMC.out _ HBN.out.drew)
                      refine hK.out _ _ HSN.out (fun _ => ?_)
                      clear hK K
                      try simp only [Act.put, List.setIfInBounds_toArray, List.set_cons_zero, List.set_cons_succ, List.getElem_toArray, List.getElem_cons_succ, List.getElem_cons_zero]
                      refine wpAnyH_ready (rs := [0]) (by as_aux_lemma => kernel_rfl) (by simp) ?_
                      refine AllReadyH.cons rfl (fun K hK => ?_) AllReadyH.nil
                      go_simp
                      have HE_ : Hid (World.ownsRow ((World.alloc (World.alloc Wz (.cells #[.string Y] 9)) (.cells #[] 9)).drew) (Wz.heap.size + 1) 9 1 (.slice (some ⟨(Wz.heap.size + 1), 0, none⟩) 0 0) 0 []) := Lib.hid (by have h := (empty_row (World.alloc Wz (.cells #[.string Y] 9)) 9 1).drew; simpa using h)
                      have HBE : Hid (Below wr2.heap.size wr2 (World.alloc (World.alloc Wz (.cells #[.string Y] 9)) (.cells #[] 9))) := Lib.hid (HBN.out.alloc HBN.out.size _)
                      have HSE := Lib.hid (HMC.out _ HBE.out.drew)
                      have HNE : Hid (Box ((World.alloc (World.alloc Wz (.cells #[.string Y] 9)) (.cells #[] 9)).drew) Wz.heap.size 9 (.string Y)) := Lib.hid ((heap_alloc_old _ _ HNN.out.lt).trans HNN.out)
                      refine hK.out _ _ HSE.out (fun _ => ?_)
                      clear hK K
                      try simp only [Act.put, List.setIfInBounds_toArray, List.set_cons_zero, List.set_cons_succ, List.getElem_toArray, List.getElem_cons_succ, List.getElem_cons_zero]
                      refine wpAnyH_ready (rs := [4]) (by as_aux_lemma => kernel_rfl) (by simp) ?_
                      refine AllReadyH.cons rfl (fun K hK => ?_) AllReadyH.nil
                      obtain ⟨v7, w7, hr1, ho1, hg1⟩ := app_str HE_.out (some ⟨gp, op2, none⟩) k k (strs ((P.drop 0).take k)) (by rw [strs, List.length_map, List.length_take, List.drop_zero]; have := HPL.out; omega) (.inr ⟨_, rfl, HSR.out _ HBE.out.drew 0 k⟩) (strs_one _) (by omega) (by first | (simp; done) | (simp; omega)) 44
                      have HO7 := Lib.hid ho1
                      have HB7 : Hid (Below wr2.heap.size wr2 w7) := Lib.hid (HBE.out.drew.grown hg1 HBE.out.size (fun j e => Nat.le_trans (by have := HBz.out.size; omega) (HE_.out.lt j e).1))
                      have HS7 := Lib.hid (HMC.out _ HB7.out)
                      have HN7 : Hid (Box w7 Wz.heap.size 9 (.string Y)) := Lib.hid ((hg1.block _ HNE.out.lt (fun e => by have h1 : _ = some (Wz.heap.size + 1) := rfl; have h2 := e.trans h1; simp at h2)).trans HNE.out)
                      have HL7 : Hid ((Wz.heap.size + 1) ≤ w7.heap.size) := Lib.hid (by have := hg1.size; simp at this; omega)
                      refine step_appG rfl _ _ 44 rfl rfl _ _ v7 w7 rfl rfl hr1 ?_
                      refine hK.out _ _ HS7.out (fun _ => ?_)
                      clear hK K hr1 ho1 hg1
                      try simp only [Act.put, List.setIfInBounds_toArray, List.set_cons_zero, List.set_cons_succ, List.getElem_toArray, List.getElem_cons_succ, List.getElem_cons_zero]
                      refine wpAnyH_ready (rs := [10]) (by as_aux_lemma => kernel_rfl) (by simp) ?_
                      refine AllReadyH.cons rfl (fun K hK => ?_) AllReadyH.nil
                      obtain ⟨v10, w10, hr1, ho1, hg1⟩ := app_str HO7.out (some ⟨Wz.heap.size, 0, none⟩) 1 1 [.string Y] rfl (.inr ⟨_, rfl, box_cell HN7.out⟩) (by simp [Value.oneCell']) (by omega) (by have := HL7.out; first | omega | (simp; omega)) 44
                      have HO10 := Lib.hid ho1
                      have HB10 : Hid (Below wr2.heap.size wr2 w10) := Lib.hid (HB7.out.grown hg1 HB7.out.size (fun j e => Nat.le_trans (by have := HBz.out.size; omega) (HO7.out.lt j e).1))
                      have HS10 := Lib.hid (HMC.out _ HB10.out)
                      have HL10 : Hid ((Wz.heap.size + 1) ≤ w10.heap.size) := Lib.hid (by have := hg1.size; have := HL7.out; first | omega | (simp at *; omega))
                      refine step_appG rfl _ _ 44 rfl rfl _ _ v10 w10 rfl rfl hr1 ?_
                      refine hK.out _ _ HS10.out (fun _ => ?_)
                      clear hK K hr1 ho1 hg1
                      try simp only [Act.put, List.setIfInBounds_toArray, List.set_cons_zero, List.set_cons_succ, List.getElem_toArray, List.getElem_cons_succ, List.getElem_cons_zero]
                      refine wpAnyH_ready (rs := [14]) (by as_aux_lemma => kernel_rfl) (by simp) ?_
                      refine AllReadyH.cons rfl (fun K hK => ?_) AllReadyH.nil
                      obtain ⟨v12, w12, hr1, ho1, hg1⟩ := app_str HO10.out (some ⟨gp, op2, none⟩) 0 0 (strs ((P.drop k).take 0)) (by rw [strs, List.length_map, List.length_take, List.length_drop]; have := HPL.out; omega) (.inr ⟨_, rfl, fun j u hu => by simp [strs] at hu⟩) (strs_one _) (by omega) HL10.out 44
                      have HO12 := Lib.hid ho1
                      have HB12 : Hid (Below wr2.heap.size wr2 w12) := Lib.hid (HB10.out.grown hg1 HB10.out.size (fun j e => Nat.le_trans (by have := HBz.out.size; omega) (HO10.out.lt j e).1))
                      have HS12 := Lib.hid (HMC.out _ HB12.out)
                      refine step_appG rfl _ _ 44 rfl rfl _ _ v12 w12 rfl rfl hr1 ?_
                      refine hK.out _ _ HS12.out (fun _ => ?_)
                      clear hK K hr1 ho1 hg1
                      try simp only [Act.put, List.setIfInBounds_toArray, List.set_cons_zero, List.set_cons_succ, List.getElem_toArray, List.getElem_cons_succ, List.getElem_cons_zero]
                      refine wpAnyH_take (i := 15) (v := _) rfl (by as_aux_lemma => kernel_rfl) (by as_aux_lemma => kernel_rfl) (by as_aux_lemma => kernel_rfl) (fun _ _ _ h => h) (Or.inl ⟨by rfl, by intro w hSw; (try dsimp only at hSw); go_simp; try (with_reducible rfl)⟩) HS12.out ?_
                      try simp only [Act.put, List.setIfInBounds_toArray, List.set_cons_zero, List.set_cons_succ, List.getElem_toArray, List.getElem_cons_succ, List.getElem_cons_zero]
                      refine wpAnyH_done (by as_aux_lemma => kernel_rfl) ?_ _
                      have HT9 : Hid (∃ qx qc, v12 = .slice qx (insU y P).length qc ∧ TxV w12 (.slice qx (insU y P).length qc) (insU y P)) := Lib.hid (by
                        have hl : (insU y P).length = 0 + k + 1 + 0 := by rw [HINS.out, List.length_append, List.length_append, List.length_take, List.length_drop, List.length_singleton]; have := HPL.out; omega
                        have hx : [] ++ strs ((P.drop 0).take k) ++ [Value.string Y] ++ strs ((P.drop k).take 0) = strs (insU y P) := by
                          rw [HINS.out, strs_app, strs_app, List.drop_zero, List.take_of_length_le (l := P.drop k) (by rw [List.length_drop]; have := HPL.out; omega), HYY.out]; rfl
                        have ho := HO12.out
                        rw [hx, ← hl] at ho
                        obtain ⟨qx, qc, rfl⟩ := ownsRow_is ho
                        exact ⟨qx, qc, rfl, TxV.of_row ho (by rw [hl]; omega)⟩)
                      obtain ⟨qx, qc, rfl, ht9⟩ := HT9.out
                      have HT10 := Lib.hid ht9
                      clear ht9 HT9
                      generalize (insU y P).length = QL at HT10 ⊢
                      go_wp2
                      go_roundg (gk - 1)
                      case measure => omega
                      case rel => exact ⟨qq + 1, by omega, by go_num, Lib.hid (by rw [HNEXT.out]; exact HT10.out), Lib.hid (HBQ.out.trans (below_le HB12.out HBQ.out.size))⟩
                  · replace hpk : ¬ pc = k := fun e => hpk e.symm
                    go_wp2
                    go_quiet (fail)
                    revert nq
                    intro nqa
                    go_wp2
                    go_quiet (fail)
                    go_wp2_with fail
                    have HBz : Hid (Below wr2.heap.size wr2 ((wr.drewN nqa).drewN nq)) := Lib.hid (by rw [World.drewN_drewN]; exact HBW.out _)
                    generalize ((wr.drewN nqa).drewN nq) = Wz at HBz ⊢
                    refine wp_region_held (S := (fun W => W.cell? ⟨gm, om + qq, none⟩ = some (.string Y))) (by as_aux_lemma => kernel_rfl) ?_
                    change wpAnyH _ _ _ _ _ _ _ _ (World.drew _)
                    have HD0 : Hid (Below wr2.heap.size wr2 Wz.drew) := Lib.hid HBz.out.drew
                    have HS0 := Lib.hid (HMC.out _ HD0.out)
                    refine wpAnyH_take (i := 1) (v := _) rfl (by as_aux_lemma => kernel_rfl) (by as_aux_lemma => kernel_rfl) (by as_aux_lemma => kernel_rfl) (fun _ _ _ h => h) (Or.inl ⟨by rfl, by intro w hSw; (try dsimp only at hSw); go_simp; try (with_reducible rfl)⟩) HS0.out ?_
                    try simp only [Act.put, List.setIfInBounds_toArray, List.set_cons_zero, List.set_cons_succ, List.getElem_toArray, List.getElem_cons_succ, List.getElem_cons_zero]
                    refine wpAnyH_take (i := 2) (v := _) rfl (by as_aux_lemma => kernel_rfl) (by as_aux_lemma => kernel_rfl) (by as_aux_lemma => kernel_rfl) (fun _ _ _ h => h) (Or.inl ⟨by rfl, by intro w hSw; (try dsimp only at hSw); go_simp; try (with_reducible rfl)⟩) HS0.out ?_
                    try simp only [Act.put, List.setIfInBounds_toArray, List.set_cons_zero, List.set_cons_succ, List.getElem_toArray, List.getElem_cons_succ, List.getElem_cons_zero]
                    refine wpAnyH_take (i := 3) (v := _) rfl (by as_aux_lemma => kernel_rfl) (by as_aux_lemma => kernel_rfl) (by as_aux_lemma => kernel_rfl) (fun _ _ _ h => h) (Or.inl ⟨by rfl, by intro w hSw; (try dsimp only at hSw); go_simp; try (with_reducible rfl)⟩) HS0.out ?_
                    try simp only [Act.put, List.setIfInBounds_toArray, List.set_cons_zero, List.set_cons_succ, List.getElem_toArray, List.getElem_cons_succ, List.getElem_cons_zero]
                    refine wpAnyH_take (i := 5) (v := _) rfl (by as_aux_lemma => kernel_rfl) (by as_aux_lemma => kernel_rfl) (by as_aux_lemma => kernel_rfl) (fun _ _ _ h => h) (Or.inl ⟨by rfl, by intro w hSw; (try dsimp only at hSw); go_simp; try (with_reducible rfl)⟩) HS0.out ?_
                    try simp only [Act.put, List.setIfInBounds_toArray, List.set_cons_zero, List.set_cons_succ, List.getElem_toArray, List.getElem_cons_succ, List.getElem_cons_zero]
                    refine wpAnyH_take (i := 6) (v := _) rfl (by as_aux_lemma => kernel_rfl) (by as_aux_lemma => kernel_rfl) (by as_aux_lemma => kernel_rfl) (fun _ _ _ h => h) (Or.inl ⟨by rfl, by intro w hSw; (try dsimp only at hSw); go_simp; try (with_reducible rfl)⟩) HS0.out ?_
                    try simp only [Act.put, List.setIfInBounds_toArray, List.set_cons_zero, List.set_cons_succ, List.getElem_toArray, List.getElem_cons_succ, List.getElem_cons_zero]
                    refine wpAnyH_take (i := 7) (v := _) rfl (by as_aux_lemma => kernel_rfl) (by as_aux_lemma => kernel_rfl) (by as_aux_lemma => kernel_rfl) (fun _ _ _ h => h) (Or.inl ⟨by rfl, by intro w hSw; (try dsimp only at hSw); go_simp; try (with_reducible rfl)⟩) HS0.out ?_
                    try simp only [Act.put, List.setIfInBounds_toArray, List.set_cons_zero, List.set_cons_succ, List.getElem_toArray, List.getElem_cons_succ, List.getElem_cons_zero]
                    refine wpAnyH_take (i := 8) (v := _) rfl (by as_aux_lemma => kernel_rfl) (by as_aux_lemma => kernel_rfl) (by as_aux_lemma => kernel_rfl) (fun _ _ _ h => h) (Or.inl ⟨by rfl, by intro w hSw; (try dsimp only at hSw); go_simp; try (with_reducible rfl)⟩) HS0.out ?_
                    try simp only [Act.put, List.setIfInBounds_toArray, List.set_cons_zero, List.set_cons_succ, List.getElem_toArray, List.getElem_cons_succ, List.getElem_cons_zero]
                    refine wpAnyH_take (i := 11) (v := _) rfl (by as_aux_lemma => kernel_rfl) (by as_aux_lemma => kernel_rfl) (by as_aux_lemma => kernel_rfl) (fun _ _ _ h => h) (Or.inl ⟨by rfl, by intro w hSw; (try dsimp only at hSw); go_simp; try (with_reducible rfl)⟩) HS0.out ?_
                    try simp only [Act.put, List.setIfInBounds_toArray, List.set_cons_zero, List.set_cons_succ, List.getElem_toArray, List.getElem_cons_succ, List.getElem_cons_zero]
                    refine wpAnyH_take (i := 12) (v := _) rfl (by as_aux_lemma => kernel_rfl) (by as_aux_lemma => kernel_rfl) (by as_aux_lemma => kernel_rfl) (fun _ _ _ h => h) (Or.inl ⟨by rfl, by intro w hSw; (try dsimp only at hSw); go_simp; try (with_reducible rfl)⟩) HS0.out ?_
                    try simp only [Act.put, List.setIfInBounds_toArray, List.set_cons_zero, List.set_cons_succ, List.getElem_toArray, List.getElem_cons_succ, List.getElem_cons_zero]
                    refine wpAnyH_take (i := 13) (v := _) rfl (by as_aux_lemma => kernel_rfl) (by as_aux_lemma => kernel_rfl) (by as_aux_lemma => kernel_rfl) (fun _ _ _ h => h) (Or.inl ⟨by rfl, by intro w hSw; (try dsimp only at hSw); go_simp; try (with_reducible rfl)⟩) HS0.out ?_
                    try simp only [Act.put, List.setIfInBounds_toArray, List.set_cons_zero, List.set_cons_succ, List.getElem_toArray, List.getElem_cons_succ, List.getElem_cons_zero]
                    refine wpAnyH_ready (rs := [0, 9]) (by as_aux_lemma => kernel_rfl) (by simp) ?_
                    refine AllReadyH.cons rfl (fun K hK => ?_) (AllReadyH.cons rfl (fun K hK => ?_) AllReadyH.nil)
                    · skip
                      go_simp
                      have HE_ : Hid (World.ownsRow ((World.alloc Wz (.cells #[] 9)).drew) Wz.heap.size 9 1 (.slice (some ⟨Wz.heap.size, 0, none⟩) 0 0) 0 []) := Lib.hid (by have h := (empty_row Wz 9 1).drew; simpa using h)
                      have HBE : Hid (Below wr2.heap.size wr2 (World.alloc Wz (.cells #[] 9))) := Lib.hid (HBz.out.alloc HBz.out.size _)
                      have HSE := Lib.hid (HMC.out _ HBE.out.drew)
                      refine hK.out _ _ HSE.out (fun _ => ?_)
                      clear hK K
                      try simp only [Act.put, List.setIfInBounds_toArray, List.set_cons_zero, List.set_cons_succ, List.getElem_toArray, List.getElem_cons_succ, List.getElem_cons_zero]
                      refine wpAnyH_ready (rs := [4, 9]) (by as_aux_lemma => kernel_rfl) (by simp) ?_
                      refine AllReadyH.cons rfl (fun K hK => ?_) (AllReadyH.cons rfl (fun K hK => ?_) AllReadyH.nil)
                      · skip
                        obtain ⟨v7, w7, hr1, ho1, hg1⟩ := app_str HE_.out (some ⟨gp, op2, none⟩) k pc (strs ((P.drop 0).take k)) (by rw [strs, List.length_map, List.length_take, List.drop_zero]; have := HPL.out; omega) (.inr ⟨_, rfl, HSR.out _ HBE.out.drew 0 k⟩) (strs_one _) (by omega) (by first | (simp; done) | (simp; omega)) 44
                        have HO7 := Lib.hid ho1
                        have HB7 : Hid (Below wr2.heap.size wr2 w7) := Lib.hid (HBE.out.drew.grown hg1 HBE.out.size (fun j e => Nat.le_trans (by have := HBz.out.size; omega) (HE_.out.lt j e).1))
                        have HS7 := Lib.hid (HMC.out _ HB7.out)
                        have HL7 : Hid (Wz.heap.size ≤ w7.heap.size) := Lib.hid (by have := hg1.size; simp at this; omega)
                        refine step_appG rfl _ _ 44 rfl rfl _ _ v7 w7 rfl rfl hr1 ?_
                        refine hK.out _ _ HS7.out (fun _ => ?_)
                        clear hK K hr1 ho1 hg1
                        try simp only [Act.put, List.setIfInBounds_toArray, List.set_cons_zero, List.set_cons_succ, List.getElem_toArray, List.getElem_cons_succ, List.getElem_cons_zero]
                        refine wpAnyH_ready (rs := [9]) (by as_aux_lemma => kernel_rfl) (by simp) ?_
                        refine AllReadyH.cons rfl (fun K hK => ?_) AllReadyH.nil
                        go_simp
                        have HNN : Hid (Box ((World.alloc w7 (.cells #[.string Y] 9))) w7.heap.size 9 (.string Y)) := Lib.hid (by have h : Box (World.alloc w7 (.cells #[.string Y] 9)) w7.heap.size 9 (.string Y) := (by have h := heap_alloc_new w7 (.cells #[.string Y] 9); unfold Box; simpa using h); exact h)
                        have HBN : Hid (Below wr2.heap.size wr2 (World.alloc w7 (.cells #[.string Y] 9))) := Lib.hid (HB7.out.alloc HB7.out.size _)
                        have HSN := Lib.hid (HMC.out _ HBN.out)
                        have HRN : Hid (World.ownsRow ((World.alloc w7 (.cells #[.string Y] 9))) Wz.heap.size 9 1 v7 (0 + k) ([] ++ strs ((P.drop 0).take k))) := Lib.hid ((HO7.out.alloc (.cells #[.string Y] 9)))
                        refine hK.out _ _ HSN.out (fun _ => ?_)
                        clear hK K
                        try simp only [Act.put, List.setIfInBounds_toArray, List.set_cons_zero, List.set_cons_succ, List.getElem_toArray, List.getElem_cons_succ, List.getElem_cons_zero]
                        refine wpAnyH_ready (rs := [10]) (by as_aux_lemma => kernel_rfl) (by simp) ?_
                        refine AllReadyH.cons rfl (fun K hK => ?_) AllReadyH.nil
                        obtain ⟨v10, w10, hr1, ho1, hg1⟩ := app_str HRN.out (some ⟨w7.heap.size, 0, none⟩) 1 1 [.string Y] rfl (.inr ⟨_, rfl, box_cell HNN.out⟩) (by simp [Value.oneCell']) (by omega) (by have := HL7.out; first | omega | (simp; omega)) 44
                        have HO10 := Lib.hid ho1
                        have HB10 : Hid (Below wr2.heap.size wr2 w10) := Lib.hid (HBN.out.grown hg1 HBN.out.size (fun j e => Nat.le_trans (by have := HBz.out.size; omega) (HRN.out.lt j e).1))
                        have HS10 := Lib.hid (HMC.out _ HB10.out)
                        have HL10 : Hid (Wz.heap.size ≤ w10.heap.size) := Lib.hid (by have := hg1.size; have := HL7.out; first | omega | (simp at *; omega))
                        refine step_appG rfl _ _ 44 rfl rfl _ _ v10 w10 rfl rfl hr1 ?_
                        refine hK.out _ _ HS10.out (fun _ => ?_)
                        clear hK K hr1 ho1 hg1
                        try simp only [Act.put, List.setIfInBounds_toArray, List.set_cons_zero, List.set_cons_succ, List.getElem_toArray, List.getElem_cons_succ, List.getElem_cons_zero]
                        refine wpAnyH_ready (rs := [14]) (by as_aux_lemma => kernel_rfl) (by simp) ?_
                        refine AllReadyH.cons rfl (fun K hK => ?_) AllReadyH.nil
                        obtain ⟨v12, w12, hr1, ho1, hg1⟩ := app_str HO10.out (some ⟨gp, op2 + k, none⟩) 0 (pc - k) (strs ((P.drop k).take 0)) (by rw [strs, List.length_map, List.length_take, List.length_drop]; have := HPL.out; omega) (.inr ⟨_, rfl, fun j u hu => by simp [strs] at hu⟩) (strs_one _) (by omega) HL10.out 44
                        have HO12 := Lib.hid ho1
                        have HB12 : Hid (Below wr2.heap.size wr2 w12) := Lib.hid (HB10.out.grown hg1 HB10.out.size (fun j e => Nat.le_trans (by have := HBz.out.size; omega) (HO10.out.lt j e).1))
                        have HS12 := Lib.hid (HMC.out _ HB12.out)
                        refine step_appG rfl _ _ 44 rfl rfl _ _ v12 w12 rfl rfl hr1 ?_
                        refine hK.out _ _ HS12.out (fun _ => ?_)
                        clear hK K hr1 ho1 hg1
                        try simp only [Act.put, List.setIfInBounds_toArray, List.set_cons_zero, List.set_cons_succ, List.getElem_toArray, List.getElem_cons_succ, List.getElem_cons_zero]
                        refine wpAnyH_take (i := 15) (v := _) rfl (by as_aux_lemma => kernel_rfl) (by as_aux_lemma => kernel_rfl) (by as_aux_lemma => kernel_rfl) (fun _ _ _ h => h) (Or.inl ⟨by rfl, by intro w hSw; (try dsimp only at hSw); go_simp; try (with_reducible rfl)⟩) HS12.out ?_
                        try simp only [Act.put, List.setIfInBounds_toArray, List.set_cons_zero, List.set_cons_succ, List.getElem_toArray, List.getElem_cons_succ, List.getElem_cons_zero]
                        refine wpAnyH_done (by as_aux_lemma => kernel_rfl) ?_ _
                        have HT9 : Hid (∃ qx qc, v12 = .slice qx (insU y P).length qc ∧ TxV w12 (.slice qx (insU y P).length qc) (insU y P)) := Lib.hid (by
                          have hl : (insU y P).length = 0 + k + 1 + 0 := by rw [HINS.out, List.length_append, List.length_append, List.length_take, List.length_drop, List.length_singleton]; have := HPL.out; omega
                          have hx : [] ++ strs ((P.drop 0).take k) ++ [Value.string Y] ++ strs ((P.drop k).take 0) = strs (insU y P) := by
                            rw [HINS.out, strs_app, strs_app, List.drop_zero, List.take_of_length_le (l := P.drop k) (by rw [List.length_drop]; have := HPL.out; omega), HYY.out]; rfl
                          have ho := HO12.out
                          rw [hx, ← hl] at ho
                          obtain ⟨qx, qc, rfl⟩ := ownsRow_is ho
                          exact ⟨qx, qc, rfl, TxV.of_row ho (by rw [hl]; omega)⟩)
                        obtain ⟨qx, qc, rfl, ht9⟩ := HT9.out
                        have HT10 := Lib.hid ht9
                        clear ht9 HT9
                        generalize (insU y P).length = QL at HT10 ⊢
                        go_wp2
                        go_roundg (gk - 1)
                        case measure => omega
                        case rel => exact ⟨qq + 1, by omega, by go_num, Lib.hid (by rw [HNEXT.out]; exact HT10.out), Lib.hid (HBQ.out.trans (below_le HB12.out HBQ.out.size))⟩
                      · skip
                        go_simp
                        have HNN : Hid (Box ((World.alloc (World.alloc Wz (.cells #[] 9)) (.cells #[.string Y] 9)).drew) (Wz.heap.size + 1) 9 (.string Y)) := Lib.hid (by have h : Box (World.alloc (World.alloc Wz (.cells #[] 9)) (.cells #[.string Y] 9)) (Wz.heap.size + 1) 9 (.string Y) := (by have h := heap_alloc_new (World.alloc Wz (.cells #[] 9)) (.cells #[.string Y] 9); unfold Box; simpa using h); exact h)
                        have HBN : Hid (Below wr2.heap.size wr2 (World.alloc (World.alloc Wz (.cells #[] 9)) (.cells #[.string Y] 9))) := Lib.hid (HBE.out.alloc HBE.out.size _)
                        have HSN := Lib.hid (HMC.out _ HBN.out.drew)
                        have HRN : Hid (World.ownsRow ((World.alloc (World.alloc Wz (.cells #[] 9)) (.cells #[.string Y] 9)).drew) Wz.heap.size 9 1 (.slice (some ⟨Wz.heap.size, 0, none⟩) 0 0) 0 []) := Lib.hid ((HE_.out.alloc (.cells #[.string Y] 9)))
                        refine hK.out _ _ HSN.out (fun _ => ?_)
                        clear hK K
                        try simp only [Act.put, List.setIfInBounds_toArray, List.set_cons_zero, List.set_cons_succ, List.getElem_toArray, List.getElem_cons_succ, List.getElem_cons_zero]
                        refine wpAnyH_ready (rs := [4]) (by as_aux_lemma => kernel_rfl) (by simp) ?_
                        refine AllReadyH.cons rfl (fun K hK => ?_) AllReadyH.nil
                        obtain ⟨v7, w7, hr1, ho1, hg1⟩ := app_str HRN.out (some ⟨gp, op2, none⟩) k pc (strs ((P.drop 0).take k)) (by rw [strs, List.length_map, List.length_take, List.drop_zero]; have := HPL.out; omega) (.inr ⟨_, rfl, HSR.out _ HBN.out.drew 0 k⟩) (strs_one _) (by omega) (by first | (simp; done) | (simp; omega)) 44
                        have HO7 := Lib.hid ho1
                        have HB7 : Hid (Below wr2.heap.size wr2 w7) := Lib.hid (HBN.out.drew.grown hg1 HBN.out.size (fun j e => Nat.le_trans (by have := HBz.out.size; omega) (HRN.out.lt j e).1))
                        have HS7 := Lib.hid (HMC.out _ HB7.out)
                        have HN7 : Hid (Box w7 (Wz.heap.size + 1) 9 (.string Y)) := Lib.hid ((hg1.block _ HNN.out.lt (fun e => by have h1 : _ = some Wz.heap.size := rfl; have h2 := e.trans h1; simp at h2)).trans HNN.out)
                        have HL7 : Hid (Wz.heap.size ≤ w7.heap.size) := Lib.hid (by have := hg1.size; simp at this; omega)
                        refine step_appG rfl _ _ 44 rfl rfl _ _ v7 w7 rfl rfl hr1 ?_
                        refine hK.out _ _ HS7.out (fun _ => ?_)
                        clear hK K hr1 ho1 hg1
                        try simp only [Act.put, List.setIfInBounds_toArray, List.set_cons_zero, List.set_cons_succ, List.getElem_toArray, List.getElem_cons_succ, List.getElem_cons_zero]
                        refine wpAnyH_ready (rs := [10]) (by as_aux_lemma => kernel_rfl) (by simp) ?_
                        refine AllReadyH.cons rfl (fun K hK => ?_) AllReadyH.nil
                        obtain ⟨v10, w10, hr1, ho1, hg1⟩ := app_str HO7.out (some ⟨(Wz.heap.size + 1), 0, none⟩) 1 1 [.string Y] rfl (.inr ⟨_, rfl, box_cell HN7.out⟩) (by simp [Value.oneCell']) (by omega) (by have := HL7.out; first | omega | (simp; omega)) 44
                        have HO10 := Lib.hid ho1
                        have HB10 : Hid (Below wr2.heap.size wr2 w10) := Lib.hid (HB7.out.grown hg1 HB7.out.size (fun j e => Nat.le_trans (by have := HBz.out.size; omega) (HO7.out.lt j e).1))
                        have HS10 := Lib.hid (HMC.out _ HB10.out)
                        have HL10 : Hid (Wz.heap.size ≤ w10.heap.size) := Lib.hid (by have := hg1.size; have := HL7.out; first | omega | (simp at *; omega))
                        refine step_appG rfl _ _ 44 rfl rfl _ _ v10 w10 rfl rfl hr1 ?_
                        refine hK.out _ _ HS10.out (fun _ => ?_)
                        clear hK K hr1 ho1 hg1
                        try simp only [Act.put, List.setIfInBounds_toArray, List.set_cons_zero, List.set_cons_succ, List.getElem_toArray, List.getElem_cons_succ, List.getElem_cons_zero]
                        refine wpAnyH_ready (rs := [14]) (by as_aux_lemma => kernel_rfl) (by simp) ?_
                        refine AllReadyH.cons rfl (fun K hK => ?_) AllReadyH.nil
                        obtain ⟨v12, w12, hr1, ho1, hg1⟩ := app_str HO10.out (some ⟨gp, op2 + k, none⟩) 0 (pc - k) (strs ((P.drop k).take 0)) (by rw [strs, List.length_map, List.length_take, List.length_drop]; have := HPL.out; omega) (.inr ⟨_, rfl, fun j u hu => by simp [strs] at hu⟩) (strs_one _) (by omega) HL10.out 44
                        have HO12 := Lib.hid ho1
                        have HB12 : Hid (Below wr2.heap.size wr2 w12) := Lib.hid (HB10.out.grown hg1 HB10.out.size (fun j e => Nat.le_trans (by have := HBz.out.size; omega) (HO10.out.lt j e).1))
                        have HS12 := Lib.hid (HMC.out _ HB12.out)
                        refine step_appG rfl _ _ 44 rfl rfl _ _ v12 w12 rfl rfl hr1 ?_
                        refine hK.out _ _ HS12.out (fun _ => ?_)
                        clear hK K hr1 ho1 hg1
                        try simp only [Act.put, List.setIfInBounds_toArray, List.set_cons_zero, List.set_cons_succ, List.getElem_toArray, List.getElem_cons_succ, List.getElem_cons_zero]
                        refine wpAnyH_take (i := 15) (v := _) rfl (by as_aux_lemma => kernel_rfl) (by as_aux_lemma => kernel_rfl) (by as_aux_lemma => kernel_rfl) (fun _ _ _ h => h) (Or.inl ⟨by rfl, by intro w hSw; (try dsimp only at hSw); go_simp; try (with_reducible rfl)⟩) HS12.out ?_
                        try simp only [Act.put, List.setIfInBounds_toArray, List.set_cons_zero, List.set_cons_succ, List.getElem_toArray, List.getElem_cons_succ, List.getElem_cons_zero]
                        refine wpAnyH_done (by as_aux_lemma => kernel_rfl) ?_ _
                        have HT9 : Hid (∃ qx qc, v12 = .slice qx (insU y P).length qc ∧ TxV w12 (.slice qx (insU y P).length qc) (insU y P)) := Lib.hid (by
                          have hl : (insU y P).length = 0 + k + 1 + 0 := by rw [HINS.out, List.length_append, List.length_append, List.length_take, List.length_drop, List.length_singleton]; have := HPL.out; omega
                          have hx : [] ++ strs ((P.drop 0).take k) ++ [Value.string Y] ++ strs ((P.drop k).take 0) = strs (insU y P) := by
                            rw [HINS.out, strs_app, strs_app, List.drop_zero, List.take_of_length_le (l := P.drop k) (by rw [List.length_drop]; have := HPL.out; omega), HYY.out]; rfl
                          have ho := HO12.out
                          rw [hx, ← hl] at ho
                          obtain ⟨qx, qc, rfl⟩ := ownsRow_is ho
                          exact ⟨qx, qc, rfl, TxV.of_row ho (by rw [hl]; omega)⟩)
                        obtain ⟨qx, qc, rfl, ht9⟩ := HT9.out
                        have HT10 := Lib.hid ht9
                        clear ht9 HT9
                        generalize (insU y P).length = QL at HT10 ⊢
                        go_wp2
                        go_roundg (gk - 1)
                        case measure => omega
                        case rel => exact ⟨qq + 1, by omega, by go_num, Lib.hid (by rw [HNEXT.out]; exact HT10.out), Lib.hid (HBQ.out.trans (below_le HB12.out HBQ.out.size))⟩
                    · skip
                      go_simp
                      have HNN : Hid (Box ((World.alloc Wz (.cells #[.string Y] 9)).drew) Wz.heap.size 9 (.string Y)) := Lib.hid (by have h : Box (World.alloc Wz (.cells #[.string Y] 9)) Wz.heap.size 9 (.string Y) := (by have h := heap_alloc_new Wz (.cells #[.string Y] 9); unfold Box; simpa using h); exact h)
                      have HBN : Hid (Below wr2.heap.size wr2 (World.alloc Wz (.cells #[.string Y] 9))) := Lib.hid (HBz.out.alloc HBz.out.size _)
                      have HSN := Lib.hid (HMC.out _ HBN.out.drew)
                      refine hK.out _ _ HSN.out (fun _ => ?_)
                      clear hK K
                      try simp only [Act.put, List.setIfInBounds_toArray, List.set_cons_zero, List.set_cons_succ, List.getElem_toArray, List.getElem_cons_succ, List.getElem_cons_zero]
                      refine wpAnyH_ready (rs := [0]) (by as_aux_lemma => kernel_rfl) (by simp) ?_
                      refine AllReadyH.cons rfl (fun K hK => ?_) AllReadyH.nil
                      go_simp
                      have HE_ : Hid (World.ownsRow ((World.alloc (World.alloc Wz (.cells #[.string Y] 9)) (.cells #[] 9)).drew) (Wz.heap.size + 1) 9 1 (.slice (some ⟨(Wz.heap.size + 1), 0, none⟩) 0 0) 0 []) := Lib.hid (by have h := (empty_row (World.alloc Wz (.cells #[.string Y] 9)) 9 1).drew; simpa using h)
                      have HBE : Hid (Below wr2.heap.size wr2 (World.alloc (World.alloc Wz (.cells #[.string Y] 9)) (.cells #[] 9))) := Lib.hid (HBN.out.alloc HBN.out.size _)
                      have HSE := Lib.hid (HMC.out _ HBE.out.drew)
                      have HNE : Hid (Box ((World.alloc (World.alloc Wz (.cells #[.string Y] 9)) (.cells #[] 9)).drew) Wz.heap.size 9 (.string Y)) := Lib.hid ((heap_alloc_old _ _ HNN.out.lt).trans HNN.out)
                      refine hK.out _ _ HSE.out (fun _ => ?_)
                      clear hK K
                      try simp only [Act.put, List.setIfInBounds_toArray, List.set_cons_zero, List.set_cons_succ, List.getElem_toArray, List.getElem_cons_succ, List.getElem_cons_zero]
                      refine wpAnyH_ready (rs := [4]) (by as_aux_lemma => kernel_rfl) (by simp) ?_
                      refine AllReadyH.cons rfl (fun K hK => ?_) AllReadyH.nil
                      obtain ⟨v7, w7, hr1, ho1, hg1⟩ := app_str HE_.out (some ⟨gp, op2, none⟩) k pc (strs ((P.drop 0).take k)) (by rw [strs, List.length_map, List.length_take, List.drop_zero]; have := HPL.out; omega) (.inr ⟨_, rfl, HSR.out _ HBE.out.drew 0 k⟩) (strs_one _) (by omega) (by first | (simp; done) | (simp; omega)) 44
                      have HO7 := Lib.hid ho1
                      have HB7 : Hid (Below wr2.heap.size wr2 w7) := Lib.hid (HBE.out.drew.grown hg1 HBE.out.size (fun j e => Nat.le_trans (by have := HBz.out.size; omega) (HE_.out.lt j e).1))
                      have HS7 := Lib.hid (HMC.out _ HB7.out)
                      have HN7 : Hid (Box w7 Wz.heap.size 9 (.string Y)) := Lib.hid ((hg1.block _ HNE.out.lt (fun e => by have h1 : _ = some (Wz.heap.size + 1) := rfl; have h2 := e.trans h1; simp at h2)).trans HNE.out)
                      have HL7 : Hid ((Wz.heap.size + 1) ≤ w7.heap.size) := Lib.hid (by have := hg1.size; simp at this; omega)
                      refine step_appG rfl _ _ 44 rfl rfl _ _ v7 w7 rfl rfl hr1 ?_
                      refine hK.out _ _ HS7.out (fun _ => ?_)
                      clear hK K hr1 ho1 hg1
                      try simp only [Act.put, List.setIfInBounds_toArray, List.set_cons_zero, List.set_cons_succ, List.getElem_toArray, List.getElem_cons_succ, List.getElem_cons_zero]
                      refine wpAnyH_ready (rs := [10]) (by as_aux_lemma => kernel_rfl) (by simp) ?_
                      refine AllReadyH.cons rfl (fun K hK => ?_) AllReadyH.nil
                      obtain ⟨v10, w10, hr1, ho1, hg1⟩ := app_str HO7.out (some ⟨Wz.heap.size, 0, none⟩) 1 1 [.string Y] rfl (.inr ⟨_, rfl, box_cell HN7.out⟩) (by simp [Value.oneCell']) (by omega) (by have := HL7.out; first | omega | (simp; omega)) 44
                      have HO10 := Lib.hid ho1
                      have HB10 : Hid (Below wr2.heap.size wr2 w10) := Lib.hid (HB7.out.grown hg1 HB7.out.size (fun j e => Nat.le_trans (by have := HBz.out.size; omega) (HO7.out.lt j e).1))
                      have HS10 := Lib.hid (HMC.out _ HB10.out)
                      have HL10 : Hid ((Wz.heap.size + 1) ≤ w10.heap.size) := Lib.hid (by have := hg1.size; have := HL7.out; first | omega | (simp at *; omega))
                      refine step_appG rfl _ _ 44 rfl rfl _ _ v10 w10 rfl rfl hr1 ?_
                      refine hK.out _ _ HS10.out (fun _ => ?_)
                      clear hK K hr1 ho1 hg1
                      try simp only [Act.put, List.setIfInBounds_toArray, List.set_cons_zero, List.set_cons_succ, List.getElem_toArray, List.getElem_cons_succ, List.getElem_cons_zero]
                      refine wpAnyH_ready (rs := [14]) (by as_aux_lemma => kernel_rfl) (by simp) ?_
                      refine AllReadyH.cons rfl (fun K hK => ?_) AllReadyH.nil
                      obtain ⟨v12, w12, hr1, ho1, hg1⟩ := app_str HO10.out (some ⟨gp, op2 + k, none⟩) 0 (pc - k) (strs ((P.drop k).take 0)) (by rw [strs, List.length_map, List.length_take, List.length_drop]; have := HPL.out; omega) (.inr ⟨_, rfl, fun j u hu => by simp [strs] at hu⟩) (strs_one _) (by omega) HL10.out 44
                      have HO12 := Lib.hid ho1
                      have HB12 : Hid (Below wr2.heap.size wr2 w12) := Lib.hid (HB10.out.grown hg1 HB10.out.size (fun j e => Nat.le_trans (by have := HBz.out.size; omega) (HO10.out.lt j e).1))
                      have HS12 := Lib.hid (HMC.out _ HB12.out)
                      refine step_appG rfl _ _ 44 rfl rfl _ _ v12 w12 rfl rfl hr1 ?_
                      refine hK.out _ _ HS12.out (fun _ => ?_)
                      clear hK K hr1 ho1 hg1
                      try simp only [Act.put, List.setIfInBounds_toArray, List.set_cons_zero, List.set_cons_succ, List.getElem_toArray, List.getElem_cons_succ, List.getElem_cons_zero]
                      refine wpAnyH_take (i := 15) (v := _) rfl (by as_aux_lemma => kernel_rfl) (by as_aux_lemma => kernel_rfl) (by as_aux_lemma => kernel_rfl) (fun _ _ _ h => h) (Or.inl ⟨by rfl, by intro w hSw; (try dsimp only at hSw); go_simp; try (with_reducible rfl)⟩) HS12.out ?_
                      try simp only [Act.put, List.setIfInBounds_toArray, List.set_cons_zero, List.set_cons_succ, List.getElem_toArray, List.getElem_cons_succ, List.getElem_cons_zero]
                      refine wpAnyH_done (by as_aux_lemma => kernel_rfl) ?_ _
                      have HT9 : Hid (∃ qx qc, v12 = .slice qx (insU y P).length qc ∧ TxV w12 (.slice qx (insU y P).length qc) (insU y P)) := Lib.hid (by
                        have hl : (insU y P).length = 0 + k + 1 + 0 := by rw [HINS.out, List.length_append, List.length_append, List.length_take, List.length_drop, List.length_singleton]; have := HPL.out; omega
                        have hx : [] ++ strs ((P.drop 0).take k) ++ [Value.string Y] ++ strs ((P.drop k).take 0) = strs (insU y P) := by
                          rw [HINS.out, strs_app, strs_app, List.drop_zero, List.take_of_length_le (l := P.drop k) (by rw [List.length_drop]; have := HPL.out; omega), HYY.out]; rfl
                        have ho := HO12.out
                        rw [hx, ← hl] at ho
                        obtain ⟨qx, qc, rfl⟩ := ownsRow_is ho
                        exact ⟨qx, qc, rfl, TxV.of_row ho (by rw [hl]; omega)⟩)
                      obtain ⟨qx, qc, rfl, ht9⟩ := HT9.out
                      have HT10 := Lib.hid ht9
                      clear ht9 HT9
                      generalize (insU y P).length = QL at HT10 ⊢
                      go_wp2
                      go_roundg (gk - 1)
                      case measure => omega
                      case rel => exact ⟨qq + 1, by omega, by go_num, Lib.hid (by rw [HNEXT.out]; exact HT10.out), Lib.hid (HBQ.out.trans (below_le HB12.out HBQ.out.size))⟩
          · have HE9 : Hid (insA O (M.take qq) = insA O M) := Lib.hid (by rw [List.take_of_length_le (by have := HML.out; omega)])
            go_wp2
            go_roundg (N - j - 1)
            case measure => omega
            case rel => exact ⟨j + 1, by omega, by go_num, Lib.hid (by rw [HSNO.out, ← HE9.out]; exact (by have h := HOQ.out; rw [HPP.out] at h; exact h)), Lib.hid (HA5.out.below HBQ.out), Lib.hid (HB5.out.trans (below_le HBQ.out HB5.out.size))⟩
      · have HE : Hid (R = refL PP (l.take j)) := Lib.hid (by
          rw [HRES.out, List.take_of_length_le (by have := HNL.out; omega)])
        go_wp2
        go_ret
        exact ⟨_, rfl, by rw [HE.out]; exact HO.out, HB.out⟩
end Go.Proofs.YtfalcmbjjlgoaaaGreatDoor
