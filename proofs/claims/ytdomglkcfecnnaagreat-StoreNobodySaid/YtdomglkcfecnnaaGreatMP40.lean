/- Own texts, merged: DK. -/
import Derived.Deep.Cut
import Derived.Test.YtdomglkcfecnnaaGreatMP39
/- Walk: desc: Check. -/
namespace Go.Proofs.YtdomglkcfecnnaaGreat
open Go.RowKit Go.Shelf
attribute [local go_sem] run_store_float
attribute [local go_sem] Oper.semAt_some
/-- What a form names in memory. -/
structure DM (w : World) (d : Des) (Ls : List FL) (x1 : Option Addr) (q o c1 : Nat) (x2 : Option Addr) (c2 : Nat) : Prop where
  len : Ls.length = d.fs.length
  cap : Ls.length ≤ c1
  row : FRow w x1 q o Ls
  fm : ∀ i (h : i < Ls.length), ∃ xo co xl cl, Ls[i] = (fldA d.fs i).fl xo co xl cl ∧ FM w (fldA d.fs i) xo co xl cl
  rl : TxV w (.slice x2 d.rl.length c2) d.rl
structure DOk (d : Des) : Prop where
  t : d.t.length ≤ 900000
  fs : ∀ i, i < d.fs.length → FOk (fldA d.fs i)
  rl : ∀ j, j < d.rl.length → (d.rl.getD j []).length ≤ 900000
theorem info_bindD : ∃ i0, Tryz.prog.info? 96 = some i0 ∧ i0.zero = some (.agg #[.string ⟨#[]⟩, .int .i64 0, .float .f64 0, .string ⟨#[]⟩, .bool false]) ∧ i0.size = 5 ∧ i0.bytes = 56 :=
  info_parts (show (Tryz.prog.info? 96).map (fun i => (i.zero, i.size, i.bytes)) = some (some (.agg #[.string ⟨#[]⟩, .int .i64 0, .float .f64 0, .string ⟨#[]⟩, .bool false]), 5, 56) by kernel_rfl)
theorem five_new (W : World) (b : Bnd) (T : TypeId) : ∀ j u, (bcs b)[j]? = some u → (W.alloc (.cells #[.string (tx b.nm), .int .i64 b.v.t, .float .f64 b.v.n, .string (tx b.v.s), .bool b.v.b] T)).cell? ((⟨W.heap.size, 0, none⟩ : Addr).add j) = some u := fun j u hu => by
  have h := heap_alloc_new W (.cells #[.string (tx b.nm), .int .i64 b.v.t, .float .f64 b.v.n, .string (tx b.v.s), .bool b.v.b] T)
  rw [addr_add]
  simp only [World.cell?, h]
  simpa [bcs] using hu
theorem stepIn_append_own {F : Fence} {fn : Nat} {P : Program} {ops : Array Oper} {o : Oper} {a : Act} {w : World} {K : Act → World → Prop} {Q : Exit → Act → World → Prop} {E : Prop}
    (hg : o.guard = none) (s x : Operand) (t : TypeId) (hop : o.op = Op.call { callee := Callee.builtin Builtin.append, args := #[s, x], argTypes := #[t, t] })
    (base : Nat) (e : TypeId) (i : TypeInfo) (z : Value) (size bytes : Nat) (h1 : P.underlying t = some (.slice e)) (h2 : P.info? e = some i) (h3 : i.zero = some z) (h4 : i.size = size) (h5 : i.bytes = bytes) (h6 : z.cells.size = size) (h7 : 0 < size)
    (v : Value) (n : Nat) (xs : List Value) (hs : a.eval s = v) (hown : w.ownsRow base e size v n xs)
    (ad : Addr) (m c : Nat) (news : List Value) (hx : a.eval x = .slice (some ad) m c) (hn : news.length = m * size) (hc : ∀ j u, news[j]? = some u → w.cell? (ad.add j) = some u) (h1c : ∀ u ∈ news, u.oneCell' = true)
    (b1 : n + m ≤ maxLen) (b2 : (n + m) * bytes ≤ 140737488355328) (hbase : base ≤ w.heap.size)
    (hK : ∀ v' w', w'.ownsRow base e size v' (n + m) (xs ++ news) → w.grownBy w' v.ownBlock → (v'.ownBlock = v.ownBlock ∨ v'.ownBlock = some w.heap.size) → K (a.put o.dst v') w') :
    if Region.wanted o (yielded ops a.tmps) = true then Oper.wpIn F fn P o a w K Q else E := by
  have hw : Region.wanted o (yielded ops a.tmps) = true := by simp [Region.wanted, hg]
  rw [if_pos hw]
  obtain ⟨v', w', hrun, r1, r2, _, r4⟩ := run_append_own_at (P := P) w base t o.type e i z size bytes h1 h2 h3 h4 h5 h6 h7 v n xs hown ad m c news hn hc h1c b1 b2 hbase
  unfold Oper.wpIn
  refine ⟨by simp [Oper.about, hop, resolve, Target.leads, Sem.run_pure], ?_⟩
  rw [Oper.semAt_plain F _ _ (by rw [hop]; intro c hc'; cases hc')]
  simp [execOp, hop, resolve, invoke, builtin, hs, hx, hrun, Result.andThen]
  exact hK v' w' r1 r2 r4
set_option maxRecDepth 100000 in
set_option maxHeartbeats 16000000 in
theorem check_go (d : Des) (hd : DOk d) (Ls : List FL) (x1 : Option Addr) (q o c1 : Nat) (x2 : Option Addr) (c2 : Nat) (w : World) (hm : DM w d Ls x1 q o c1 x2 c2)
    (h0 : 1 ≤ d.rows ∧ d.rows ≤ 60) (h1 : 1 ≤ d.fs.length ∧ d.fs.length ≤ 64) (h2 : d.rl.length ≤ 16) (h3 : d.t = [] ∨ labelP d.t = true) :
    Calls Tryz.prog 19 #[.agg (desA (tx d.t) x1 d.fs.length c1 x2 d.rl.length c2 d.rows)] w fun e w' => e = .returned (.tuple #[.int .i64 (checkP d).1, .int .i64 ((checkP d).2 : Nat)]) ∧ Below w.heap.size w w' := by
  have HW := Lib.hid (fun W => dwithin d.rows 1 60 W)
  have HN := Lib.hid (fun W => dwithin (d.fs.length : Nat) 1 64 W)
  have HLB := Lib.hid (fun W => dlabel d.t hd.t W)
  have HET := Lib.hid (isEmpty_tx d.t)
  rw [decide_eq_true h0] at HW
  rw [decide_eq_true (by omega)] at HN
  have HH3 := Lib.hid h3
  have HM := Lib.hid hm
  have HDO := Lib.hid hd
  have HH1 := Lib.hid h1
  obtain ⟨N, hN⟩ : ∃ N, N = d.fs.length := ⟨_, rfl⟩
  obtain ⟨M, hM⟩ : ∃ M, M = d.rl.length := ⟨_, rfl⟩
  rw [← hN] at HN ⊢
  rw [← hM] at h2 ⊢
  have HNN := Lib.hid hN
  have HMM := Lib.hid hM
  have h4 : decide (16 < (M : Int)) = false := by simp; omega
  obtain ⟨rows, hrows⟩ : ∃ rows, rows = d.rows := ⟨_, rfl⟩
  rw [← hrows] at HW ⊢
  obtain ⟨T, hT⟩ : ∃ T, T = tx d.t := ⟨_, rfl⟩
  rw [← hT] at HLB HET ⊢
  obtain ⟨R, hR⟩ : ∃ R, R = checkP d := ⟨_, rfl⟩
  rw [← hR]
  have HRR : Hid (R = if badI d.fs < d.fs.length then ((badI d.fs : Int), badE d.fs (badI d.fs)) else if badR d < d.rl.length then (-1, truthE (bndsN d.fs d.fs.length) (d.rl.getD (badR d) [])) else (-1, 0)) := Lib.hid (by
    rw [hR]
    unfold checkP
    rw [if_neg (by omega), if_neg (by omega), if_neg (fun e => by rcases h3 with h | h; exact e.1 h; rw [h] at e; cases e.2)])
  clear hN hM hrows hT hR h0 h1 h3 hm hd
  unfold desA
  obtain ⟨B1, hB1⟩ : ∃ B1, B1 = ((w.alloc (.cells #[.string T, .slice x1 N c1, .slice x2 M c2, .int .i64 rows] 27)).alloc (.cells #[.int .i64 0] 3)).alloc (.cells #[.int .i64 0] 39) := ⟨_, rfl⟩
  have HBL : Hid (Below w.heap.size w B1) := Lib.hid (by rw [hB1]; exact (((Below.refl w.heap.size w).alloc (Nat.le_refl _) _).alloc (by simp) _).alloc (by simp; omega) _)
  have HB1 : Hid (B1.heap[w.heap.size]? = some (.cells #[.string T, .slice x1 N c1, .slice x2 M c2, .int .i64 rows] 27 (0, 0))) := Lib.hid (by rw [hB1]; exact (heap_alloc_old _ _ (by simp; omega)).trans ((heap_alloc_old _ _ (by simp)).trans (heap_alloc_new _ _)))
  have HB2 : Hid (Box B1 (w.heap.size + 1) 3 (.int .i64 0)) := Lib.hid (by rw [hB1]; exact (heap_alloc_old _ _ (by simp)).trans (boxed_at (heap_alloc_new _ _) (by simp)))
  have HB3 : Hid (Box B1 (w.heap.size + 2) 39 (.int .i64 0)) := Lib.hid (by rw [hB1]; exact boxed_at (heap_alloc_new _ _) (by simp))
  have HZ1 : Hid (B1.heap.size = w.heap.size + 3) := Lib.hid (by rw [hB1]; simp)
  refine (callsIn_wide (n := 6)).1 ?_
  refine callsIn_of_wp_marks Tryz.func19 rfl trivial ?_ rfl
  simp only [Tryz.ntmps19, List.size_toArray, List.length_cons, List.length_nil, Nat.reduceAdd, Nat.reduceSub, Array.replicate_succ, Array.replicate_zero, List.push_toArray, List.append_toArray, List.nil_append, List.cons_append]
  refine wpIn_wide.2 ?_
  go_upto_region 6 with (first | (go_at_call 29; (with_reducible refine (HW.out _).mono ?_); rintro e w1 ⟨rfl, rfl⟩) | (go_at_call 29; (with_reducible refine (HN.out _).mono ?_); rintro e w1 ⟨rfl, rfl⟩))
  rw [← hB1]
  clear hB1 HW HN
  go_cut [26] from 26 to 35 (fun t wx => t = .bool false ∧ Hid (Below B1.heap.size B1 wx))
  case first =>
    have cc := HB1.out
    have c0 : B1.cell? ⟨w.heap.size, 0, none⟩ = some (.string T) := by simp [World.cell?, cc]
    clear cc
    by_cases ht : d.t = []
    · have he := HET.out
      rw [decide_eq_true ht] at he
      go_wp2
      go_meet
      exact ⟨rfl, Lib.hid (Below.refl _ _)⟩
    · have he := HET.out
      rw [decide_eq_false ht] at he
      rw [HH3.out.resolve_left ht] at HLB
      go_wp2_with (first | (go_at_call 30; refine (HLB.out _).mono ?_; rintro e w2 ⟨rfl, hb2⟩; have HBB := Lib.hid hb2; clear hb2))
      go_meet
      exact ⟨rfl, HBB⟩
  case rest =>
    obtain ⟨rfl, HC⟩ := hcut
    have HBC : Hid (Below w.heap.size w wc) := Lib.hid (HBL.out.trans (below_le HC.out HBL.out.size))
    have HD : Hid (wc.heap[w.heap.size]? = some (.cells #[.string T, .slice x1 N c1, .slice x2 M c2, .int .i64 rows] 27 (0, 0))) := Lib.hid ((HC.out.block _ (Array.getElem?_eq_some_iff.1 HB1.out).1).trans HB1.out)
    have HK2 : Hid (Box wc (w.heap.size + 1) 3 (.int .i64 0)) := Lib.hid ((HC.out.block _ HB2.out.lt).trans HB2.out)
    have HK3 : Hid (Box wc (w.heap.size + 2) 39 (.int .i64 0)) := Lib.hid ((HC.out.block _ HB3.out.lt).trans HB3.out)
    have HZC : Hid (w.heap.size + 3 ≤ wc.heap.size) := Lib.hid (by have := HC.out.size; have := HZ1.out; omega)
    clear HC HB1 HB2 HB3 HZ1 HBL HET HLB HH3
    have hlt : w.heap.size < wc.heap.size := by have := HZC.out; omega
    have dd := HD.out
    have d0 : wc.cell? ⟨w.heap.size, 0, none⟩ = some (.string T) := by simp [World.cell?, dd]
    have d1 : wc.cell? ⟨w.heap.size, 1, none⟩ = some (.slice x1 N c1) := by simp [World.cell?, dd]
    have d2 : wc.cell? ⟨w.heap.size, 2, none⟩ = some (.slice x2 M c2) := by simp [World.cell?, dd]
    have d3 : wc.cell? ⟨w.heap.size, 3, none⟩ = some (.int .i64 rows) := by simp [World.cell?, dd]
    clear dd
    go_wp2_with (first | (go_at_call 31; fail))
    go_at_call 31
    refine (dFields _ _ _ _ _ _ _ _ _).mono ?_
    rintro e w1 ⟨rfl, rfl⟩
    obtain ⟨W0, hW0⟩ : ∃ W0, W0 = (wc.alloc (.cells #[.slice none 0 0] 87)).alloc (.cells #[.string T, .slice x1 N c1, .slice x2 M c2, .int .i64 rows] 27) := ⟨_, rfl⟩
    have hal : Below wc.heap.size wc W0 := by rw [hW0]; exact ((Below.refl _ _).alloc (Nat.le_refl _) _).alloc (by simp) _
    have hzw : W0.heap.size = wc.heap.size + 2 := by rw [hW0]; simp
    have HP : Hid (W0.heap[wc.heap.size + 1]? = some (.cells #[.string T, .slice x1 N c1, .slice x2 M c2, .int .i64 rows] 27 (0, 0))) := Lib.hid (by rw [hW0]; exact heap_at (heap_alloc_new _ _) (by simp))
    have HI : Hid (CKI w #[.string T, .slice x1 N c1, .slice x2 M c2, .int .i64 rows] wc.heap.size (wc.heap.size + 1) [] 0 0 W0) := Lib.hid
      ⟨(hal.block _ hlt).trans HD.out, (hal.block _ HK2.out.lt).trans HK2.out, (hal.block _ HK3.out.lt).trans HK3.out, ⟨.slice none 0 0, by rw [hW0]; exact (heap_alloc_old _ _ (by simp)).trans (heap_alloc_new _ _), World.ownsRow_nil _ _ _ _⟩, HBC.out.trans (below_le hal HBC.out.size), by omega⟩
    have HZW := Lib.hid hzw
    obtain ⟨b, hb⟩ : ∃ b, b = wc.heap.size := ⟨_, rfl⟩
    have hsz : (wc.alloc (.cells #[.slice none 0 0] 87)).heap.size = b + 1 := by rw [hb]; simp
    rw [hsz, ← hW0, ← hb]
    rw [← hb] at HP HI HZW HZC
    clear hW0 hal hzw hsz hb d0 d1 d2 d3 hlt HD HK2 HK3
    obtain ⟨hDlen, hDcap, hDrow, hDfm, hDrl⟩ := HM.out
    have HFM := Lib.hid hDfm
    have HRL := Lib.hid hDrl
    have hLN : Ls.length = N := by rw [hDlen, HNN.out]
    have HLN := Lib.hid hLN
    have HQL : Hid (q < w.heap.size) := Lib.hid ((hDrow (by intro e; rw [e] at hLN; have := HH1.out; have := HNN.out; simp at hLN; omega)).2.1)
    have HST : Hid (SeqStopsK Fence.wide 5 Tryz.prog 48 #[.pointer (some ⟨b + 1, 0, none⟩)] (encF Ls) (KeepP (b + 1) q) (fun xs => xs.map (·.1) = List.range Ls.length) (fun pre => ∃ k, k ≤ Ls.length ∧ 0 < k ∧ pre.map (·.1) = List.range k) Ls.length W0) := Lib.hid
      (fields_stops (o := o) (cap := c1) (x := x1) (t := T) (v2 := .slice x2 M c2) (rows := rows) (by have := HH1.out; omega) hDcap (by rw [hLN]; exact HP.out) (hDrow.below HI.out.bel) (Nat.lt_of_lt_of_le HQL.out HI.out.bel.size))
    clear hDlen hDcap hDrow hDfm hDrl hLN HM HBC
    go_wp2
    refine (wpIn_wide (n := 6)).1 ?_
    refine wpIn_rangeFunc_ownH rfl (by omega) (gf := 48) (lb := #[.pointer (some ⟨b + 1, 0, none⟩)]) (by simp [go_sem]) trivial (enters_of Tryz.func48 (by kernel_rfl) rfl)
      HST.out KeepP.trans (keepP_b (by have := HZW.out; omega) (Nat.lt_of_lt_of_le HQL.out HI.out.bel.size)) (Below.refl _ _) (fun _ => rfl)
      (fun (pre : List (Fin Ls.length)) W => (∀ k, pre.map (·.1) = List.range k → ∀ j, j < k → badE d.fs j = 0) ∧ CKI w #[.string T, .slice x1 N c1, .slice x2 M c2, .int .i64 rows] b (b + 1) (pre.map (fun y => bndF (fldA d.fs y.1))) 0 0 W)
      (fun ce (pre : List (Fin Ls.length)) W => ce = .ret ∧ ∃ i E : Nat, (∀ k, pre.map (·.1) = List.range k → i + 1 = k ∧ E = badE d.fs i ∧ E ≠ 0 ∧ ∀ j, j < i → badE d.fs j = 0) ∧ CKX w (i : Int) (E : Int) W)
      (fun s A B row h hg hr => ⟨h.1, cki_own (α := Unit) (f := fun _ => s.map (fun y => bndF (fldA d.fs y.1))) HI.out.bel.size () A B row h.2 hg hr⟩)
      (fun ce s A B row ⟨h1, i, E, h2, h3⟩ hg hr => ⟨h1, i, E, h2, ckx_own (α := Unit) HI.out.bel.size () A B row h3 hg hr⟩)
      ⟨fun k hk j hj => (by have := congrArg List.length hk; simp at this; omega), HI.out⟩
      (fun y a' W => ∃ b6, a' = { tmps := #[.agg #[.string T, .slice x1 N c1, .slice x2 M c2, .int .i64 rows], .pointer (some ⟨w.heap.size, 0, none⟩), .pointer (some ⟨w.heap.size + 1, 0, none⟩), .pointer (some ⟨w.heap.size + 1 + 1, 0, none⟩), .pointer (some ⟨b, 0, none⟩), .int .i64 (y.1 : Nat), .pointer (some ⟨b6, 0, none⟩), undef, undef, undef, undef, .bool false, .pointer (some ⟨w.heap.size, 3, none⟩), .int .i64 rows, .bool true, .bool false, .bool false, .pointer (some ⟨w.heap.size, 1, none⟩), .slice x1 N c1, .int .i64 (N : Nat), .bool true, .bool false, .pointer (some ⟨w.heap.size, 2, none⟩), .slice x2 M c2, .int .i64 (M : Nat), .bool false, .bool false, u27, u28, u29, u30, u31, u32, u33, u34, u35, .agg #[.string T, .slice x1 N c1, .slice x2 M c2, .int .i64 rows], .func (.func 48) #[] #[.pointer (some ⟨b + 1, 0, none⟩)], .int .i64 (y.1 : Nat), (Ls[y.1]).v, undef, undef, undef, undef, undef, undef, undef, undef, undef, undef, undef, undef, undef, undef, undef, undef, undef, undef, undef, undef, undef, undef, undef, undef, undef, undef], defers := [] } ∧ Hid (FLB W b6 (Ls[y.1])))
      ?hax ?assign ?body ?done ?stop
    case hax =>
      exact fun x a' s A B row ⟨b6, h1, h2⟩ hg hr => ⟨b6, h1, Lib.hid (((cells_grown hg (fun r e => (hr r e).2)).2 _ _ h2.out rfl).trans h2.out)⟩
    case assign =>
      intro l pre y W K' hI hK
      have HK := Lib.hid hK
      have HII := Lib.hid hI
      unfold encF
      obtain ⟨F, hF⟩ : ∃ F, F = Ls[y.1] := ⟨_, rfl⟩
      have HF := Lib.hid hF
      rw [← hF]
      unfold FL.v FL.a
      clear hK hI hF
      gi_wp2
      have hal : ∀ ob, Below W.heap.size W (W.alloc ob) := fun ob => (Below.refl _ _).alloc (Nat.le_refl _) _
      exact HK.out _ _ (keepsFrom_below (hal _)) (keepP_below (by have := HII.out.2.sz; omega) (Nat.lt_of_lt_of_le HQL.out HII.out.2.bel.size) (hal _)) ⟨HII.out.1, HII.out.2.below (hal _)⟩ ⟨_, by rw [← HF.out]; rfl, Lib.hid (by rw [← HF.out]; exact heap_alloc_new _ _)⟩
    case body =>
      rintro l pre y a' W hl' _ ⟨hno, hI⟩ ⟨b6, rfl, hf6⟩ hlt
      dsimp only
      obtain ⟨xo, co, xl, cl, hFe, hFm⟩ := HFM.out y.1 y.2
      obtain ⟨v, hv, hrow⟩ := hI.bb
      obtain ⟨xb, cb, rfl⟩ := ownsRow_is hrow
      have hyN : y.1 < d.fs.length := by have := y.2; have := HLN.out; have := HNN.out; omega
      have hpl : (pre.map (fun y => bndF (fldA d.fs y.1))).length = pre.length := by simp
      have HPL := Lib.hid (dplaced (fldA d.fs y.1) (HDO.out.fs _ hyN) (pre.map (fun y => bndF (fldA d.fs y.1))) (by rw [hpl]; have := HH1.out; have := HLN.out; have := HNN.out; omega) _ xo co xl cl W (hFm.below hI.bel) (bndv_of_row hrow))
      rw [← hFe] at HPL
      have HBI := Lib.hid (fun W' => dbind (fldA d.fs y.1) xo co xl cl W')
      rw [← hFe] at HBI
      have HNO := Lib.hid hno
      have HII := Lib.hid hI
      have HV := Lib.hid hv
      have HROW := Lib.hid hrow
      obtain ⟨F, hF⟩ : ∃ F, F = Ls[y.1] := ⟨_, rfl⟩
      rw [← hF] at HPL HBI hf6 ⊢
      rw [hpl] at HPL HV HROW
      have HYV : Hid (∀ k, (pre ++ [y]).map (·.1) = List.range k → ∃ j, k = j + 1 ∧ pre.map (·.1) = List.range j ∧ y.1 = j) := Lib.hid (fun k h => snoc_rangeF h)
      obtain ⟨bd, hbd⟩ : ∃ bd, bd = bndF (fldA d.fs y.1) := ⟨_, rfl⟩
      have HBD : Hid ((pre ++ [y]).map (fun y => bndF (fldA d.fs y.1)) = pre.map (fun y => bndF (fldA d.fs y.1)) ++ [bd]) := Lib.hid (by rw [List.map_append, hbd]; rfl)
      rw [← hbd] at HBI
      have HPE : Hid (∀ j, y.1 = j → pre.map (·.1) = List.range j → placedE (pre.map (fun y => bndF (fldA d.fs y.1))) (fldA d.fs y.1) = badE d.fs j) := Lib.hid (fun j h1 h2 => by rw [bnds_pre h2, h1]; rfl)
      obtain ⟨E, hE⟩ : ∃ E, E = placedE (pre.map (fun y => bndF (fldA d.fs y.1))) (fldA d.fs y.1) := ⟨_, rfl⟩
      rw [← hE] at HPL HPE
      obtain ⟨L, hL⟩ : ∃ L, L = pre.map (fun y => bndF (fldA d.fs y.1)) := ⟨_, rfl⟩
      rw [← hL] at HII HROW HBD
      obtain ⟨pl, hpl2⟩ : ∃ pl, pl = pre.length := ⟨_, rfl⟩
      have HLL : Hid (L.length = pl) := Lib.hid (by rw [hL, hpl2]; simp)
      rw [← hpl2] at HPL HV HROW hlt
      obtain ⟨yv, hyv⟩ : ∃ yv, yv = y.1 := ⟨_, rfl⟩
      rw [← hyv] at HYV HPE ⊢
      have HF6 := hf6
      unfold FL.v FL.a at HPL HBI ⊢
      have cb4 := HV.out.cell
      have lb4 := HV.out.lt
      obtain ⟨e0, e1, e2, e3, e4, e5, e6, e7, e8, e9, e10, e11, e12, e13, e14, e15⟩ := HF6.out.cells
      have le6 := HF6.out.lt
      have HPB : Hid (pl ≤ 64) := Lib.hid (by have := HH1.out; have := HLN.out; have := HNN.out; omega)
      clear hno hI hf6 hFe hFm hv hrow hF hbd hE hL hpl hpl2 hyv
      gi_wp2_with (first | (refine ⟨trivial, ?_⟩; gi_at_call 32; fail))
      refine ⟨trivial, ?_⟩
      gi_at_call 32
      refine (CallsIn.inRound l (callsIn_wide.2 HPL.out)).mono ?_
      rintro e w2 ⟨rfl, hb2⟩
      have HI2 := Lib.hid (HII.out.below hb2)
      have HB2 := Lib.hid hb2
      have HF2 := Lib.hid (HF6.out.below hb2)
      have HV2 : Hid (Box w2 b 87 (.slice xb pl cb)) := Lib.hid ((hb2.block _ HV.out.lt).trans HV.out)
      clear hb2 cb4 lb4 e0 e1 e2 e3 e4 e5 e6 e7 e8 e9 e10 e11 e12 e13 e14 e15 le6 HPL
      have HQW : Hid (q < W.heap.size ∧ b + 1 < W.heap.size ∧ w.heap.size + 2 < W0.heap.size) := Lib.hid ⟨Nat.lt_of_lt_of_le HQL.out HII.out.bel.size, by have := HII.out.sz; omega, by have := HZW.out; have := HZC.out; omega⟩
      by_cases hE : E = 0
      case neg =>
        have t1 : ((E : Int) != 0) = true := by simpa using (show ¬ ((E : Int) = 0) by omega)
        have HX : Hid (∀ k, (pre ++ [y]).map (·.1) = List.range k → yv + 1 = k ∧ E = badE d.fs yv ∧ E ≠ 0 ∧ ∀ j, j < yv → badE d.fs j = 0) := Lib.hid (fun k hk => by
          obtain ⟨j, h1, h2, h3⟩ := HYV.out k hk
          exact ⟨by omega, by rw [HPE.out j h3 h2, h3], hE, fun i hi => HNO.out j h2 i (by omega)⟩)
        have k2 := HI2.out.b2.cell
        have k3 := HI2.out.b3.cell
        have f2 := HI2.out.b2.frozen
        have f3 := HI2.out.b3.frozen
        clear hE
        gi_wp2
        exact ⟨((keepsFrom_below HB2.out).trans (keepsFrom_set _ _ _ (by have := HQW.out; show w.heap.size + 1 < _; omega))).trans (keepsFrom_set _ _ _ (by have := HQW.out; show w.heap.size + 2 < _; omega)), rfl, yv, E, HX.out, HI2.out.put _ _⟩
      case pos =>
        subst hE
        obtain ⟨i0, hi0, hz0, hz1, hz2⟩ := info_bindD
        have HNF := Lib.hid (And.intro hi0 (And.intro hz0 (And.intro hz1 hz2)))
        clear hi0 hz0 hz1 hz2
        have HNX : Hid (∀ k, (pre ++ [y]).map (·.1) = List.range k → ∀ j, j < k → badE d.fs j = 0) := Lib.hid (fun k hk j hj => by
          obtain ⟨m, h1, h2, h3⟩ := HYV.out k hk
          by_cases e : j = m
          · rw [e, ← HPE.out m h3 h2]
          · exact HNO.out m h2 j (by omega))
        have cb2 := HV2.out.cell
        have lb2 := HV2.out.lt
        obtain ⟨e0, e1, e2, e3, e4, e5, e6, e7, e8, e9, e10, e11, e12, e13, e14, e15⟩ := HF2.out.cells
        have le6 := HF2.out.lt
        unfold bndV at HBI
        gi_wp2
        refine wpIn_region_any (by kernel_rfl) ?_
        change wpAnyIn _ _ _ _ _ _ _ _ _ (World.drew _)
        refine wpAnyIn_ready (rs := [0, 1]) (by kernel_rfl) (by simp) ?_
        refine AllReadyIn.cons rfl (fun K hK => ?_) (AllReadyIn.cons rfl (fun K hK => ?_) AllReadyIn.nil)
        · skip
          go_simp
          refine hK _ _ ?_
          clear hK K
          refine wpAnyIn_ready (rs := [1]) (by kernel_rfl) (by simp) ?_
          refine AllReadyIn.cons rfl (fun K hK => ?_) AllReadyIn.nil
          · skip
            go_simp
            refine hK _ _ ?_
            clear hK K
            refine wpAnyIn_ready (rs := [2]) (by kernel_rfl) (by simp) ?_
            refine AllReadyIn.cons rfl (fun K hK => ?_) AllReadyIn.nil
            · skip
              go_simp
              refine ⟨trivial, ?_⟩
              gi_at_call 33
              refine (CallsIn.inRound l (callsIn_wide.2 (HBI.out _))).mono ?_
              rintro e w3 ⟨rfl, hb3⟩
              have HB3 : Hid (Below w2.heap.size w2 w3) := Lib.hid ((Below.refl _ _).drew.trans hb3)
              have cb3 := (Box.cell ((HB3.out.block _ HV2.out.lt).trans HV2.out))
              have lb3 : b < w3.heap.size := Nat.lt_of_lt_of_le HV2.out.lt HB3.out.size
              have HR3 : Hid (w3.ownsRow (b + 1 + 1) 96 5 (.slice xb pl cb) pl (bflat L)) := Lib.hid (row_kept HROW.out (fun j hj => by have := HROW.out.lt j hj; exact (HB3.out.block j (Nat.lt_of_lt_of_le this.2 HB2.out.size)).trans (HB2.out.block j this.2)))
              clear hb3
              refine hK _ _ ?_
              clear hK K
              refine wpAnyIn_ready (rs := [3]) (by kernel_rfl) (by simp) ?_
              refine AllReadyIn.cons rfl (fun K hK => ?_) AllReadyIn.nil
              · skip
                go_simp
                refine hK _ _ ?_
                clear hK K
                refine wpAnyIn_ready (rs := [4]) (by kernel_rfl) (by simp) ?_
                refine AllReadyIn.cons rfl (fun K hK => ?_) AllReadyIn.nil
                · skip
                  refine stepIn_append_own rfl _ _ 87 rfl (b + 1 + 1) 96 i0 (.agg #[.string ⟨#[]⟩, .int .i64 0, .float .f64 0, .string ⟨#[]⟩, .bool false]) 5 56 Tryz.underlying87 HNF.out.1 HNF.out.2.1 HNF.out.2.2.1 HNF.out.2.2.2 rfl (by decide) _ _ _ rfl (HR3.out.alloc _) ⟨w3.heap.size, 0, none⟩ 1 1 (bcs bd) rfl rfl (five_new w3 bd _) (by simp [bcs, Value.oneCell']) (by have := HLL.out; have := HPB.out; unfold maxLen; omega) (by have := HPB.out; omega) (by have := HB3.out.size; have := HB2.out.size; have := HII.out.sz; simp; omega) ?_
                  intro v4 w4 ho4 hg4 _
                  have HE := Lib.hid (cki_push (q := q) (B := W0.heap.size) HII.out ⟨HZC.out, by omega⟩ HQL.out (by have := HZW.out; omega) HV.out (by rw [HLL.out]; exact HROW.out) (((HB2.out.trans (below_le HB3.out HB2.out.size))).alloc (by have := HB3.out.size; have := HB2.out.size; omega) _) (by rw [HLL.out]; exact ho4) hg4)
                  obtain ⟨gx, gc, rfl⟩ := ownsRow_is ho4
                  have HE2 := Lib.hid HE.out.2.1
                  have HE3 := Lib.hid HE.out.2.2.1
                  have HE4 := Lib.hid HE.out.2.2.2
                  have c4 := HE.out.1.cell
                  have f4 := HE.out.1.frozen
                  have l4 := HE.out.1.lt
                  clear ho4 hg4 HE
                  refine hK _ _ ?_
                  clear hK K
                  refine wpAnyIn_ready (rs := [5]) (by kernel_rfl) (by simp) ?_
                  refine AllReadyIn.cons rfl (fun K hK => ?_) AllReadyIn.nil
                  · skip
                    go_simp
                    refine hK _ _ ?_
                    clear hK K
                    refine wpAnyIn_done (by kernel_rfl) ?_ _
                    gi_wp2
                    exact ⟨HE4.out, HE3.out, HNX.out, by rw [HBD.out]; exact HE2.out⟩
        · skip
          go_simp
          refine hK _ _ ?_
          clear hK K
          refine wpAnyIn_ready (rs := [0, 2]) (by kernel_rfl) (by simp) ?_
          refine AllReadyIn.cons rfl (fun K hK => ?_) (AllReadyIn.cons rfl (fun K hK => ?_) AllReadyIn.nil)
          · skip
            go_simp
            refine hK _ _ ?_
            clear hK K
            refine wpAnyIn_ready (rs := [2]) (by kernel_rfl) (by simp) ?_
            refine AllReadyIn.cons rfl (fun K hK => ?_) AllReadyIn.nil
            · skip
              go_simp
              refine ⟨trivial, ?_⟩
              gi_at_call 33
              refine (CallsIn.inRound l (callsIn_wide.2 (HBI.out _))).mono ?_
              rintro e w3 ⟨rfl, hb3⟩
              have HB3 : Hid (Below w2.heap.size w2 w3) := Lib.hid ((Below.refl _ _).drew.trans hb3)
              have cb3 := (Box.cell ((HB3.out.block _ HV2.out.lt).trans HV2.out))
              have lb3 : b < w3.heap.size := Nat.lt_of_lt_of_le HV2.out.lt HB3.out.size
              have HR3 : Hid (w3.ownsRow (b + 1 + 1) 96 5 (.slice xb pl cb) pl (bflat L)) := Lib.hid (row_kept HROW.out (fun j hj => by have := HROW.out.lt j hj; exact (HB3.out.block j (Nat.lt_of_lt_of_le this.2 HB2.out.size)).trans (HB2.out.block j this.2)))
              clear hb3
              refine hK _ _ ?_
              clear hK K
              refine wpAnyIn_ready (rs := [3]) (by kernel_rfl) (by simp) ?_
              refine AllReadyIn.cons rfl (fun K hK => ?_) AllReadyIn.nil
              · skip
                go_simp
                refine hK _ _ ?_
                clear hK K
                refine wpAnyIn_ready (rs := [4]) (by kernel_rfl) (by simp) ?_
                refine AllReadyIn.cons rfl (fun K hK => ?_) AllReadyIn.nil
                · skip
                  refine stepIn_append_own rfl _ _ 87 rfl (b + 1 + 1) 96 i0 (.agg #[.string ⟨#[]⟩, .int .i64 0, .float .f64 0, .string ⟨#[]⟩, .bool false]) 5 56 Tryz.underlying87 HNF.out.1 HNF.out.2.1 HNF.out.2.2.1 HNF.out.2.2.2 rfl (by decide) _ _ _ rfl (HR3.out.alloc _) ⟨w3.heap.size, 0, none⟩ 1 1 (bcs bd) rfl rfl (five_new w3 bd _) (by simp [bcs, Value.oneCell']) (by have := HLL.out; have := HPB.out; unfold maxLen; omega) (by have := HPB.out; omega) (by have := HB3.out.size; have := HB2.out.size; have := HII.out.sz; simp; omega) ?_
                  intro v4 w4 ho4 hg4 _
                  have HE := Lib.hid (cki_push (q := q) (B := W0.heap.size) HII.out ⟨HZC.out, by omega⟩ HQL.out (by have := HZW.out; omega) HV.out (by rw [HLL.out]; exact HROW.out) (((HB2.out.trans (below_le HB3.out HB2.out.size))).alloc (by have := HB3.out.size; have := HB2.out.size; omega) _) (by rw [HLL.out]; exact ho4) hg4)
                  obtain ⟨gx, gc, rfl⟩ := ownsRow_is ho4
                  have HE2 := Lib.hid HE.out.2.1
                  have HE3 := Lib.hid HE.out.2.2.1
                  have HE4 := Lib.hid HE.out.2.2.2
                  have c4 := HE.out.1.cell
                  have f4 := HE.out.1.frozen
                  have l4 := HE.out.1.lt
                  clear ho4 hg4 HE
                  refine hK _ _ ?_
                  clear hK K
                  refine wpAnyIn_ready (rs := [5]) (by kernel_rfl) (by simp) ?_
                  refine AllReadyIn.cons rfl (fun K hK => ?_) AllReadyIn.nil
                  · skip
                    go_simp
                    refine hK _ _ ?_
                    clear hK K
                    refine wpAnyIn_done (by kernel_rfl) ?_ _
                    gi_wp2
                    exact ⟨HE4.out, HE3.out, HNX.out, by rw [HBD.out]; exact HE2.out⟩
          · skip
            go_simp
            refine ⟨trivial, ?_⟩
            gi_at_call 33
            refine (CallsIn.inRound l (callsIn_wide.2 (HBI.out _))).mono ?_
            rintro e w3 ⟨rfl, hb3⟩
            have HB3 : Hid (Below w2.heap.size w2 w3) := Lib.hid ((Below.refl _ _).drew.trans hb3)
            have cb3 := (Box.cell ((HB3.out.block _ HV2.out.lt).trans HV2.out))
            have lb3 : b < w3.heap.size := Nat.lt_of_lt_of_le HV2.out.lt HB3.out.size
            have HR3 : Hid (w3.ownsRow (b + 1 + 1) 96 5 (.slice xb pl cb) pl (bflat L)) := Lib.hid (row_kept HROW.out (fun j hj => by have := HROW.out.lt j hj; exact (HB3.out.block j (Nat.lt_of_lt_of_le this.2 HB2.out.size)).trans (HB2.out.block j this.2)))
            clear hb3
            refine hK _ _ ?_
            clear hK K
            refine wpAnyIn_ready (rs := [0, 3]) (by kernel_rfl) (by simp) ?_
            refine AllReadyIn.cons rfl (fun K hK => ?_) (AllReadyIn.cons rfl (fun K hK => ?_) AllReadyIn.nil)
            · skip
              go_simp
              refine hK _ _ ?_
              clear hK K
              refine wpAnyIn_ready (rs := [3]) (by kernel_rfl) (by simp) ?_
              refine AllReadyIn.cons rfl (fun K hK => ?_) AllReadyIn.nil
              · skip
                go_simp
                refine hK _ _ ?_
                clear hK K
                refine wpAnyIn_ready (rs := [4]) (by kernel_rfl) (by simp) ?_
                refine AllReadyIn.cons rfl (fun K hK => ?_) AllReadyIn.nil
                · skip
                  refine stepIn_append_own rfl _ _ 87 rfl (b + 1 + 1) 96 i0 (.agg #[.string ⟨#[]⟩, .int .i64 0, .float .f64 0, .string ⟨#[]⟩, .bool false]) 5 56 Tryz.underlying87 HNF.out.1 HNF.out.2.1 HNF.out.2.2.1 HNF.out.2.2.2 rfl (by decide) _ _ _ rfl (HR3.out.alloc _) ⟨w3.heap.size, 0, none⟩ 1 1 (bcs bd) rfl rfl (five_new w3 bd _) (by simp [bcs, Value.oneCell']) (by have := HLL.out; have := HPB.out; unfold maxLen; omega) (by have := HPB.out; omega) (by have := HB3.out.size; have := HB2.out.size; have := HII.out.sz; simp; omega) ?_
                  intro v4 w4 ho4 hg4 _
                  have HE := Lib.hid (cki_push (q := q) (B := W0.heap.size) HII.out ⟨HZC.out, by omega⟩ HQL.out (by have := HZW.out; omega) HV.out (by rw [HLL.out]; exact HROW.out) (((HB2.out.trans (below_le HB3.out HB2.out.size))).alloc (by have := HB3.out.size; have := HB2.out.size; omega) _) (by rw [HLL.out]; exact ho4) hg4)
                  obtain ⟨gx, gc, rfl⟩ := ownsRow_is ho4
                  have HE2 := Lib.hid HE.out.2.1
                  have HE3 := Lib.hid HE.out.2.2.1
                  have HE4 := Lib.hid HE.out.2.2.2
                  have c4 := HE.out.1.cell
                  have f4 := HE.out.1.frozen
                  have l4 := HE.out.1.lt
                  clear ho4 hg4 HE
                  refine hK _ _ ?_
                  clear hK K
                  refine wpAnyIn_ready (rs := [5]) (by kernel_rfl) (by simp) ?_
                  refine AllReadyIn.cons rfl (fun K hK => ?_) AllReadyIn.nil
                  · skip
                    go_simp
                    refine hK _ _ ?_
                    clear hK K
                    refine wpAnyIn_done (by kernel_rfl) ?_ _
                    gi_wp2
                    exact ⟨HE4.out, HE3.out, HNX.out, by rw [HBD.out]; exact HE2.out⟩
            · skip
              go_simp
              refine hK _ _ ?_
              clear hK K
              refine wpAnyIn_ready (rs := [0]) (by kernel_rfl) (by simp) ?_
              refine AllReadyIn.cons rfl (fun K hK => ?_) AllReadyIn.nil
              · skip
                go_simp
                refine hK _ _ ?_
                clear hK K
                refine wpAnyIn_ready (rs := [4]) (by kernel_rfl) (by simp) ?_
                refine AllReadyIn.cons rfl (fun K hK => ?_) AllReadyIn.nil
                · skip
                  refine stepIn_append_own rfl _ _ 87 rfl (b + 1 + 1) 96 i0 (.agg #[.string ⟨#[]⟩, .int .i64 0, .float .f64 0, .string ⟨#[]⟩, .bool false]) 5 56 Tryz.underlying87 HNF.out.1 HNF.out.2.1 HNF.out.2.2.1 HNF.out.2.2.2 rfl (by decide) _ _ _ rfl (HR3.out.alloc _) ⟨w3.heap.size, 0, none⟩ 1 1 (bcs bd) rfl rfl (five_new w3 bd _) (by simp [bcs, Value.oneCell']) (by have := HLL.out; have := HPB.out; unfold maxLen; omega) (by have := HPB.out; omega) (by have := HB3.out.size; have := HB2.out.size; have := HII.out.sz; simp; omega) ?_
                  intro v4 w4 ho4 hg4 _
                  have HE := Lib.hid (cki_push (q := q) (B := W0.heap.size) HII.out ⟨HZC.out, by omega⟩ HQL.out (by have := HZW.out; omega) HV.out (by rw [HLL.out]; exact HROW.out) (((HB2.out.trans (below_le HB3.out HB2.out.size))).alloc (by have := HB3.out.size; have := HB2.out.size; omega) _) (by rw [HLL.out]; exact ho4) hg4)
                  obtain ⟨gx, gc, rfl⟩ := ownsRow_is ho4
                  have HE2 := Lib.hid HE.out.2.1
                  have HE3 := Lib.hid HE.out.2.2.1
                  have HE4 := Lib.hid HE.out.2.2.2
                  have c4 := HE.out.1.cell
                  have f4 := HE.out.1.frozen
                  have l4 := HE.out.1.lt
                  clear ho4 hg4 HE
                  refine hK _ _ ?_
                  clear hK K
                  refine wpAnyIn_ready (rs := [5]) (by kernel_rfl) (by simp) ?_
                  refine AllReadyIn.cons rfl (fun K hK => ?_) AllReadyIn.nil
                  · skip
                    go_simp
                    refine hK _ _ ?_
                    clear hK K
                    refine wpAnyIn_done (by kernel_rfl) ?_ _
                    gi_wp2
                    exact ⟨HE4.out, HE3.out, HNX.out, by rw [HBD.out]; exact HE2.out⟩
    case done =>
      rintro D xs W hD hS ⟨hno, hI⟩ hK
      have HN2 : Hid (badI d.fs = d.fs.length) := Lib.hid (firstNot_eq _ _ _ (Nat.le_refl _) (fun j hj => by rw [hno _ hS j (by have := HLN.out; have := HNN.out; omega)]; rfl) (.inl rfl))
      have hL : xs.map (fun y => bndF (fldA d.fs y.1)) = bndsN d.fs d.fs.length := by rw [bnds_pre hS, HLN.out, HNN.out]
      rw [hL] at hI
      have HRE : Hid (R = if badR d < d.rl.length then (-1, truthE (bndsN d.fs d.fs.length) (d.rl.getD (badR d) [])) else (-1, 0)) := Lib.hid (by rw [HRR.out, if_neg (by rw [HN2.out]; omega)])
      have HBR : Hid (∀ j, j ≤ d.rl.length → (∀ i, i < j → truthE (bndsN d.fs d.fs.length) (d.rl.getD i []) = 0) → (j = d.rl.length ∨ truthE (bndsN d.fs d.fs.length) (d.rl.getD j []) ≠ 0) → badR d = j) := Lib.hid (fun j h1 h2 h3 => firstNot_eq _ _ _ h1 (fun i hi => by rw [h2 i hi]; rfl) (by
        rcases h3 with h3 | h3
        · exact .inl h3
        · exact .inr (by simpa using h3)))
      have HTR : Hid (∀ j, j < d.rl.length → ∀ W v, BndV W v (bndsN d.fs d.fs.length) → Calls Tryz.prog 34 #[.string (tx (d.rl.getD j [])), v] W fun e w' => e = .returned (.int .i64 (truthE (bndsN d.fs d.fs.length) (d.rl.getD j []) : Nat)) ∧ Below W.heap.size W w') := Lib.hid (fun j hj W v h => dtruth _ (by rw [bndsN_len]; have := HH1.out; omega) v _ (HDO.out.rl j hj) W h)
      obtain ⟨v, hv, hrow⟩ := hI.bb
      have hbv := bndv_of_row hrow
      obtain ⟨xb, cb, rfl⟩ := ownsRow_is hrow
      rw [bndsN_len] at hv hrow
      have HII := Lib.hid hI
      have HV := Lib.hid hv
      have HBV := Lib.hid hbv
      rw [bndsN_len] at HBV
      have HDD := Lib.hid (show D < W.heap.size ∧ w.heap.size + 3 ≤ D from ⟨(Array.getElem?_eq_some_iff.1 hK).1, by have := HZW.out; have := HZC.out; omega⟩)
      have HKD := Lib.hid hK
      obtain ⟨L, hLL⟩ : ∃ L, L = bndsN d.fs d.fs.length := ⟨_, rfl⟩
      rw [← hLL] at HRE HBR HTR HII HBV
      obtain ⟨fn, hfn⟩ : ∃ fn, fn = d.fs.length := ⟨_, rfl⟩
      rw [← hfn] at HV HBV
      rw [← HMM.out] at HRE HBR HTR
      have HRL2 : Hid (TxV w (.slice x2 M c2) d.rl) := Lib.hid (by rw [HMM.out]; exact HRL.out)
      obtain ⟨rl, hrl⟩ : ∃ rl, rl = d.rl := ⟨_, rfl⟩
      rw [← hrl] at HRE HBR HTR HRL2
      obtain ⟨bR, hbR⟩ : ∃ bR, bR = badR d := ⟨_, rfl⟩
      rw [← hbR] at HRE HBR
      have HML : Hid (M = rl.length) := Lib.hid (by rw [hrl, HMM.out])
      have HMI : Hid (∀ (W' : World) (i' e' : Int), Below W.heap.size W W' → CKX w i' e' ((W'.setCell ⟨w.heap.size + 1, 0, none⟩ (.int .i64 i')).setCell ⟨w.heap.size + 2, 0, none⟩ (.int .i64 e')) ∧ ((W'.setCell ⟨w.heap.size + 1, 0, none⟩ (.int .i64 i')).setCell ⟨w.heap.size + 2, 0, none⟩ (.int .i64 e')).heap[D]? = some (.deferred (some []))) := Lib.hid (fun W' i' e' hb => ⟨(HII.out.below hb).put i' e', (set_other (by have := HDD.out; omega)).trans ((set_other (by have := HDD.out; omega)).trans ((hb.block D HDD.out.1).trans HKD.out))⟩)
      have cc := HII.out.d
      have cd2 : W.cell? ⟨w.heap.size, 2, none⟩ = some (.slice x2 M c2) := by simp [World.cell?, cc]
      have ld2 : w.heap.size < W.heap.size := (Array.getElem?_eq_some_iff.1 cc).1
      clear hD hS hno hI hK hL hv hrow hbv hfn hLL hrl hbR cc HN2 HRL HKD HRR
      gi_wp2
      go_wp2
      go_loopw [55] (fun i wr => ∃ j : Nat, i = .int .i64 j ∧ j ≤ M ∧ Hid ((∀ i, i < j → truthE L (rl.getD i []) = 0) ∧ Below W.heap.size W wr)) (fun i _ => M - (intOf i).toNat)
      case atStart => exact ⟨0, rfl, Nat.zero_le _, Lib.hid ⟨fun i hi => absurd hi (by omega), Below.refl _ _⟩⟩
      case round =>
        obtain ⟨j, rfl, hj, HJ⟩ := hrel
        have HBX := Lib.hid (HII.out.below HJ.out.2)
        have k2 := HBX.out.b2.cell
        have k3 := HBX.out.b3.cell
        have f2 := HBX.out.b2.frozen
        have f3 := HBX.out.b3.frozen
        have m2 := HBX.out.b2.lt
        have m3 := HBX.out.b3.lt
        by_cases hlt : j < M
        · obtain ⟨g, og, rfl, HG⟩ : ∃ g og, x2 = some ⟨g, og, none⟩ ∧ Hid (wr.cell? ⟨g, og + j, none⟩ = some (.string (tx (rl.getD j [])))) := by
            obtain ⟨x', c', he, _, _, hg⟩ := (HRL2.out.below HBX.out.bel).old
            obtain ⟨g, og, h1, _, h2⟩ := hg (by intro e; have := HML.out; rw [e] at this; simp at this; omega)
            have e1 : x2 = x' := by simp at he; exact he.1
            exact ⟨g, og, e1.trans h1, Lib.hid (h2 j (by have := HML.out; omega))⟩
          have ck := HG.out
          have cb5 := Box.cell ((HJ.out.2.block _ HV.out.lt).trans HV.out)
          have lb5 : b < wr.heap.size := Nat.lt_of_lt_of_le HV.out.lt HJ.out.2.size
          have i1 : (0 : Int) ≤ (j : Int) := by omega
          have i2 : (j : Int) < (M : Int) := by omega
          have HT1 := Lib.hid (HTR.out j hlt wr _ (HBV.out.below HJ.out.2))
          have HR1 := Lib.hid (HBR.out j (by omega) HJ.out.1)
          have HJ2 := Lib.hid HJ.out.2
          have HNX : Hid (truthE L (rl.getD j []) = 0 → ∀ i, i < j + 1 → truthE L (rl.getD i []) = 0) := Lib.hid (fun h i hi => by
            rcases Nat.lt_or_ge i j with z | z
            · exact HJ.out.1 i z
            · obtain rfl : i = j := by omega
              exact h)
          obtain ⟨E, hE⟩ : ∃ E, E = truthE L (rl.getD j []) := ⟨_, rfl⟩
          have HEE := Lib.hid hE
          rw [← hE] at HT1 HR1 HNX
          generalize tx (rl.getD j []) = S at ck HT1
          clear hE HG HJ HBX
          go_wp2_with (first | (go_at_call 34; fail))
          go_at_call 34
          refine HT1.out.mono ?_
          rintro e w5 ⟨rfl, hb5⟩
          have HB5 := Lib.hid (HJ2.out.trans (below_le hb5 HJ2.out.size))
          clear hb5 ck cb5 lb5 k2 k3 f2 f3 m2 m3 HT1
          by_cases hz : E = 0
          · have HN3 := Lib.hid (HNX.out hz)
            subst hz
            go_wp2
            go_roundw
            case rel => exact ⟨j + 1, by go_num, by omega, Lib.hid ⟨HN3.out, HB5.out⟩⟩
            case measure => simp [intOf]; omega
          · have t1 : ((E : Int) != 0) = true := by simpa using (show ¬ ((E : Int) = 0) by omega)
            have HR5 : Hid (R = (-1, E)) := Lib.hid (by rw [HRE.out, HR1.out (.inr hz), if_pos hlt, HEE.out])
            have HBX := Lib.hid (HII.out.below HB5.out)
            have k2 := HBX.out.b2.cell
            have k3 := HBX.out.b3.cell
            have f2 := HBX.out.b2.frozen
            have f3 := HBX.out.b3.frozen
            have m2 := HBX.out.b2.lt
            have m3 := HBX.out.b3.lt
            have HF := Lib.hid (HMI.out w5 (-1) (E : Int) HB5.out)
            clear hz HBX
            go_wp2
            refine ⟨by simp, .inl ⟨_, _, rfl, run_takeDeferred HF.out.2, ?_⟩⟩
            obtain ⟨z1, z2, z3⟩ := ckx_end HF.out.1 HDD.out.2 HF.out.2
            exact ⟨_, results_11 rfl _ _ (w.heap.size + 1) (w.heap.size + 2) _ _ Tryz.isAgg3 Tryz.isAgg39 rfl rfl z1 z2, by rw [HR5.out], z3⟩
        · obtain rfl : j = M := by omega
          have HR5 : Hid (R = (-1, 0)) := Lib.hid (by rw [HRE.out, HBR.out j (Nat.le_refl _) HJ.out.1 (.inl rfl), if_neg (by omega)])
          have HF := Lib.hid (HMI.out wr (-1) 0 HJ.out.2)
          clear HJ HBX
          go_wp2
          refine ⟨by simp, .inl ⟨_, _, rfl, run_takeDeferred HF.out.2, ?_⟩⟩
          obtain ⟨z1, z2, z3⟩ := ckx_end HF.out.1 HDD.out.2 HF.out.2
          exact ⟨_, results_11 rfl _ _ (w.heap.size + 1) (w.heap.size + 2) _ _ Tryz.isAgg3 Tryz.isAgg39 rfl rfl z1 z2, by rw [HR5.out]; rfl, z3⟩
    case stop =>
      rintro D ce pre W hD ⟨k, hk1, hk2, hk3⟩ ⟨rfl, i, E, hx, hX⟩ hK
      have HR5 : Hid (R = ((i : Int), E)) := Lib.hid (by
        obtain ⟨e1, e2, e3, e4⟩ := hx k hk3
        have hi : i < d.fs.length := by have := HLN.out; have := HNN.out; omega
        have e5 : badI d.fs = i := firstNot_eq _ _ _ (by omega) (fun j hj => by rw [e4 j hj]; rfl) (.inr (by rw [← e2]; simpa using e3))
        rw [HRR.out, e5, if_pos hi, e2])
      have HX := Lib.hid hX
      have HK := Lib.hid hK
      have HD := Lib.hid (show w.heap.size + 3 ≤ D by have := HZW.out; have := HZC.out; omega)
      clear hx hX hK hk1 hk2 hk3 hD
      gi_wp2
      refine ⟨by simp, .inl ⟨_, _, rfl, run_takeDeferred HK.out, ?_⟩⟩
      obtain ⟨z1, z2, z3⟩ := ckx_end HX.out HD.out HK.out
      exact ⟨_, results_11 rfl _ _ (w.heap.size + 1) (w.heap.size + 2) _ _ Tryz.isAgg3 Tryz.isAgg39 rfl rfl z1 z2, by rw [HR5.out], z3⟩
theorem dCheck (d : Des) (hd : DOk d) (Ls : List FL) (x1 : Option Addr) (q o c1 : Nat) (x2 : Option Addr) (c2 : Nat) (w : World) (hm : DM w d Ls x1 q o c1 x2 c2) :
    Calls Tryz.prog 19 #[.agg (desA (tx d.t) x1 d.fs.length c1 x2 d.rl.length c2 d.rows)] w fun e w' => e = .returned (.tuple #[.int .i64 (checkP d).1, .int .i64 ((checkP d).2 : Nat)]) ∧ Below w.heap.size w w' := by
  by_cases h0 : 1 ≤ d.rows ∧ d.rows ≤ 60
  · by_cases h1 : ¬ (1 ≤ d.fs.length ∧ d.fs.length ≤ 64) ∨ 16 < d.rl.length
    · have e : checkP d = (-1, 3) := by unfold checkP; rw [if_neg (by omega), if_pos h1]
      rw [e]
      exact check_many _ _ _ _ _ _ _ _ h0 h1 w
    · by_cases h3 : d.t ≠ [] ∧ labelP d.t = false
      · have e : checkP d = (-1, 210) := by unfold checkP; rw [if_neg (by omega), if_neg h1, if_pos h3]
        rw [e]
        exact check_title _ _ _ _ _ _ _ _ h0 (by omega) (by omega) hd.t h3 w
      · refine check_go d hd Ls x1 q o c1 x2 c2 w hm h0 (by omega) (by omega) ?_
        by_cases ht : d.t = []
        · exact .inl ht
        · right
          cases hl : labelP d.t
          · exact absurd ⟨ht, hl⟩ h3
          · rfl
  · have e : checkP d = (-1, 5) := by unfold checkP; rw [if_pos h0]
    rw [e]
    exact check_rows _ _ _ _ _ _ _ _ h0 w
end Go.Proofs.YtdomglkcfecnnaaGreat
