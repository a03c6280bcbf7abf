/- Walks: the builder of clusters. -/
import Derived.Test.YtdomglkcfecnnaaGreatH8
import Derived.Deep.RegionLawGrows
import Derived.Maps.AppendAt
namespace Go.Proofs.YtdomglkcfecnnaaGreat
open Go.RowKit Go.Shelf
theorem step_append_own {P : Program} {ops : Array Oper} {o : Oper} {a : Act} {w : World} {K : Act → World → Prop} {Q : Exit → Act → World → Prop} {E : Prop}
    (hg : o.guard = none) (s x : Operand) (t : TypeId) (hop : o.op = Op.call { callee := Callee.builtin Builtin.append, args := #[s, x], argTypes := #[t, t] })
    (base : Nat) (e : TypeId) (i : TypeInfo) (z : Value) (size bytes : Nat) (h1 : P.underlying t = some (.slice e)) (h2 : P.info? e = some i) (h3 : i.zero = some z) (h4 : i.size = size) (h5 : i.bytes = bytes) (h6 : z.cells.size = size) (h7 : 0 < size)
    (v : Value) (n : Nat) (xs : List Value) (hs : a.eval s = v) (hown : w.ownsRow base e size v n xs)
    (ad : Addr) (m c : Nat) (news : List Value) (hx : a.eval x = .slice (some ad) m c) (hn : news.length = m * size) (hc : ∀ j u, news[j]? = some u → w.cell? (ad.add j) = some u) (h1c : ∀ u ∈ news, u.oneCell' = true)
    (b1 : n + m ≤ maxLen) (b2 : (n + m) * bytes ≤ 140737488355328) (hbase : base ≤ w.heap.size)
    (hK : ∀ v' w', w'.ownsRow base e size v' (n + m) (xs ++ news) → w.grownBy w' v.ownBlock → (v'.ownBlock = v.ownBlock ∨ v'.ownBlock = some w.heap.size) → K (a.put o.dst v') w') :
    if Region.wanted o (yielded ops a.tmps) = true then Oper.wp P o a w K Q else E := by
  have hw : Region.wanted o (yielded ops a.tmps) = true := by simp [Region.wanted, hg]
  rw [if_pos hw]
  obtain ⟨v', w', hrun, r1, r2, _, r4⟩ := run_append_own_at (P := P) w base t o.type e i z size bytes h1 h2 h3 h4 h5 h6 h7 v n xs hown ad m c news hn hc h1c b1 b2 hbase
  unfold Oper.wp
  simp [execOp, hop, resolve, invoke, builtin, hs, hx, hrun, Result.andThen]
  exact hK v' w' r1 r2 r4
/-- Nothing below B has turned but one block, and nothing that is no cells. -/
structure Stay (b B : Nat) (w w' : World) : Prop where
  os : w'.os = w.os
  tape : w'.tape = w.tape
  output : w'.output = w.output
  size : w.heap.size ≤ w'.heap.size
  block : ∀ j, j < B → j ≠ b → w'.heap[j]? = w.heap[j]?
  same : ∀ (j : Nat) (o : Obj), w.heap[j]? = some o → o.isCells = false → w'.heap[j]? = some o
theorem Stay.refl (b B : Nat) (w : World) : Stay b B w w := ⟨rfl, rfl, rfl, Nat.le_refl _, fun _ _ _ => rfl, fun _ _ h _ => h⟩
theorem Stay.trans {b B : Nat} {w w1 w2 : World} (h : Stay b B w w1) (k : Stay b B w1 w2) : Stay b B w w2 := ⟨k.os.trans h.os, k.tape.trans h.tape, k.output.trans h.output, Nat.le_trans h.size k.size, fun j hj hne => (k.block j hj hne).trans (h.block j hj hne), fun j o ho hc => k.same j o (h.same j o ho hc) hc⟩
theorem Stay.of {b B : Nat} {w w1 : World} (h : Below w.heap.size w w1) (hB : B ≤ w.heap.size) : Stay b B w w1 := ⟨h.os, h.tape, h.output, h.size, fun j hj _ => h.block j (by omega), fun j o ho _ => (h.block j (Array.getElem?_eq_some_iff.1 ho).1).trans ho⟩
theorem Stay.below {b B : Nat} {w w1 : World} (h : Stay b B w w1) (hb : b ≤ B) : Below b w w1 := ⟨h.os, h.tape, h.output, h.size, fun j hj => h.block j (by omega) (by omega)⟩
theorem Stay.set {b B : Nat} {w : World} {o : Nat} {v : Value} {cs : Array Value} {t : TypeId} {f : Nat × Nat} (h : w.heap[b]? = some (.cells cs t f)) : Stay b B w (w.setCell ⟨b, o, none⟩ v) :=
  ⟨rfl, rfl, rfl, by simp, fun j _ hne => set_other hne, fun j ob ho hc => by
    by_cases e : j = b
    · subst e; rw [h] at ho; cases ho; cases hc
    · rw [set_other e]; exact ho⟩
def strs (D : List Bs) : List Value := D.map fun l => Value.string (tx l)
/-- The builder: the clusters that are done, the one under way, is it open. -/
structure BSt (B b : Nat) (D : List Bs) (N : Bs) (o : Bool) (W : World) : Prop where
  ex : ∃ vd vn, W.heap[b]? = some (.cells #[vd, vn, .bool o] 173 (0, 0)) ∧ W.ownsRow B 9 1 vd D.length (strs D) ∧ W.ownsRow B 5 1 vn N.length (Lib.byteCells N)
  lt : b < B ∧ B ≤ W.heap.size
  op : o = true → N ≠ []
theorem ownsRow_is {w : World} {base : Nat} {e : TypeId} {size n : Nat} {v : Value} {xs : List Value} (h : w.ownsRow base e size v n xs) : ∃ x cap, v = .slice x n cap := by
  rcases h.2 with ⟨rfl, rfl⟩ | ⟨g, cap, cur, rfl, _⟩
  · exact ⟨none, 0, rfl⟩
  · exact ⟨_, cap, rfl⟩
theorem row_kept {w w' : World} {n0 : Nat} {e : TypeId} {z n : Nat} {v : Value} {xs : List Value} (h : w.ownsRow n0 e z v n xs) (hk : ∀ j, v.ownBlock = some j → w'.heap[j]? = w.heap[j]?) : w'.ownsRow n0 e z v n xs := by
  refine ⟨h.1, ?_⟩
  rcases h.2 with h2 | ⟨g, cap, cur, hv, hb, hg, hr⟩
  · exact .inl h2
  · exact .inr ⟨g, cap, cur, hv, hb, (hk g (by rw [hv]; rfl)).trans hg, hr⟩
theorem row_zero {w : World} {base : Nat} {e : TypeId} {size n cap : Nat} {x : Option Addr} {xs : List Value} (h : w.ownsRow base e size (.slice x n cap) n xs) : w.ownsRow base e size (.slice x 0 cap) 0 [] := by
  refine ⟨by simp, ?_⟩
  rcases h.2 with ⟨hv, rfl⟩ | ⟨g, cap', cur, hv, hb, hg, h1, h2, h3, h4⟩
  · cases hv; exact .inl ⟨rfl, rfl⟩
  · cases hv
    exact .inr ⟨g, cap, cur, rfl, hb, hg, Nat.zero_le _, h2, h3, by simp⟩
/-- A field of the builder set. -/
theorem BSt.now0 {B b : Nat} {D : List Bs} {N : Bs} {o : Bool} {W : World} (h : BSt B b D N o W) : ∃ x n c y m d, W.cell? ⟨b, 0, none⟩ = some (.slice x n c) ∧ W.cell? ⟨b, 1, none⟩ = some (.slice y m d) ∧ W.cell? ⟨b, 2, none⟩ = some (.bool o) ∧ (∀ j, W.frozen? ⟨b, j, none⟩ = false) ∧ n = D.length ∧ m = N.length ∧
    BSt B b D [] false ((W.setCell ⟨b, 1, none⟩ (.slice y 0 d)).setCell ⟨b, 2, none⟩ (.bool false)) ∧ Stay b B W ((W.setCell ⟨b, 1, none⟩ (.slice y 0 d)).setCell ⟨b, 2, none⟩ (.bool false)) := by
  obtain ⟨vd, vn, hb, hd, hn⟩ := h.ex
  obtain ⟨x, c, rfl⟩ := ownsRow_is hd
  obtain ⟨y, d, rfl⟩ := ownsRow_is hn
  have hs1 := set_block (o := 1) hb (.slice y 0 d)
  have hs := set_block (o := 2) hs1 (.bool false)
  have hk : ∀ (v : Value) (j : Nat) (e : TypeId) (z n : Nat) (xs : List Value), W.ownsRow B e z v n xs → v.ownBlock = some j → ((W.setCell ⟨b, 1, none⟩ (.slice y 0 d)).setCell ⟨b, 2, none⟩ (.bool false)).heap[j]? = W.heap[j]? := fun v j e z n xs ho hj => by
    have := (ho.lt j hj).1
    have := h.lt.1
    rw [set_other (by omega), set_other (by omega)]
  refine ⟨x, _, c, y, _, d, by simp [World.cell?, hb], by simp [World.cell?, hb], by simp [World.cell?, hb], fun j => by simp [World.frozen?, hb], rfl, rfl, ⟨⟨_, _, ?_, row_kept hd (fun j hj => hk _ j _ _ _ _ hd hj), row_kept (row_zero hn) (fun j hj => hk _ j _ _ _ _ (row_zero hn) hj)⟩, ⟨h.lt.1, by simpa using h.lt.2⟩, fun h => by cases h⟩, (Stay.set hb).trans (Stay.set hs1)⟩
  rw [hs]
  rfl
set_option maxRecDepth 100000 in
set_option maxHeartbeats 4000000 in
theorem wend0 (B b : Nat) (D : List Bs) (N : Bs) (w : World) (h : BSt B b D N false w) : Calls Tryz.prog 98 #[.pointer (some ⟨b, 0, none⟩)] w fun e w' => e = .returned (.tuple #[]) ∧ BSt B b D [] false w' ∧ Stay b B w w' := by
  obtain ⟨x, n, c, y, m, d, c0, c1, c2, fr, hn, hm, hB, hS⟩ := h.now0
  have HB := Lib.hid hB
  have HS := Lib.hid hS
  have f1 := fr 1
  have f2 := fr 2
  clear hB hS fr h hn hm c0
  go_enter Tryz.func98, Tryz.ntmps98
  go_wp2
  go_end0
  exact ⟨rfl, HB.out, HS.out⟩
theorem info_parts {P : Program} {t : TypeId} {z : Option Value} {s b : Nat} (h : (P.info? t).map (fun i => (i.zero, i.size, i.bytes)) = some (z, s, b)) : ∃ i0, P.info? t = some i0 ∧ i0.zero = z ∧ i0.size = s ∧ i0.bytes = b := by
  cases hi : P.info? t with
  | none => rw [hi] at h; cases h
  | some i => rw [hi] at h; simp at h; exact ⟨i, rfl, h.1, h.2.1, h.2.2⟩
theorem info_parts9 : ∃ i0, Tryz.prog.info? 9 = some i0 ∧ i0.zero = some (.string ⟨#[]⟩) ∧ i0.size = 1 ∧ i0.bytes = 16 :=
  info_parts (show (Tryz.prog.info? 9).map (fun i => (i.zero, i.size, i.bytes)) = some (some (.string ⟨#[]⟩), 1, 16) by kernel_rfl)
theorem info_parts5 : ∃ i0, Tryz.prog.info? 5 = some i0 ∧ i0.zero = some (.int .u8 0) ∧ i0.size = 1 ∧ i0.bytes = 1 :=
  info_parts (show (Tryz.prog.info? 5).map (fun i => (i.zero, i.size, i.bytes)) = some (some (.int .u8 0), 1, 1) by kernel_rfl)
set_option maxRecDepth 100000 in
set_option maxHeartbeats 4000000 in
theorem wend1 (B b : Nat) (D : List Bs) (N : Bs) (hDl : D.length ≤ 1000000) (w : World) (h : BSt B b D N true w) : Calls Tryz.prog 98 #[.pointer (some ⟨b, 0, none⟩)] w fun e w' => e = .returned (.tuple #[]) ∧ BSt B b (D ++ [N]) [] false w' ∧ Stay b B w w' := by
  obtain ⟨i0, hi, hz0, hz1, hz2⟩ := info_parts9
  obtain ⟨vd, vn, hb, hd, hn⟩ := h.ex
  have hop := h.op rfl
  have hlt := h.lt
  obtain ⟨x, c, rfl⟩ := ownsRow_is hd
  obtain ⟨y, d, rfl⟩ := ownsRow_is hn
  obtain ⟨g, rfl⟩ : ∃ g, y = some ⟨g, 0, none⟩ := by
    rcases hn.2 with ⟨hv, hz⟩ | ⟨g, _, _, hv, _⟩
    · exact absurd (List.length_eq_zero_iff.1 hz) hop
    · cases hv; exact ⟨g, rfl⟩
  have hcv : (convert 37 9 (.slice (some ⟨g, 0, none⟩) N.length d)).run Tryz.prog w.drew = .ok (.string (tx N)) w.drew := by
    refine run_convert_bytes_back w.drew 37 9 5 ⟨g, 0, none⟩ d N Tryz.underlying37 Tryz.underlying5 Tryz.underlying9 (fun j hj => ?_)
    have h1 := hn.cellAt j (by omega)
    have h2 : (Lib.byteCells N)[j]? = some (.int .u8 (N[j].toNat : Int)) := by
      unfold Lib.byteCells
      rw [List.getElem?_map, List.getElem?_eq_getElem hj]
      rfl
    have h3 : w.cell? ⟨g, j, none⟩ = some (.int .u8 (N[j].toNat : Int)) := h1.trans h2
    have h4 : (⟨g, 0, none⟩ : Addr).add j = ⟨g, j, none⟩ := by by_cases e : j = 0 <;> simp [Addr.add, e]
    rw [h4]
    exact h3
  have c0 : w.cell? ⟨b, 0, none⟩ = some (.slice x D.length c) := by simp [World.cell?, hb]
  have c1 : w.cell? ⟨b, 1, none⟩ = some (.slice (some ⟨g, 0, none⟩) N.length d) := by simp [World.cell?, hb]
  have c2 : w.cell? ⟨b, 2, none⟩ = some (.bool true) := by simp [World.cell?, hb]
  have f0 : w.frozen? ⟨b, 0, none⟩ = false := by simp [World.frozen?, hb]
  have hbl : b < w.heap.size := (Array.getElem?_eq_some_iff.1 hb).1
  -- what stands behind the append and its store
  have HA : Hid (∀ v' w', w'.ownsRow B 9 1 v' (D.length + 1) (strs D ++ [.string (tx N)]) → (w.drew.alloc (.cells #[.string (tx N)] 9)).grownBy w' (Value.slice x D.length c).ownBlock → (v'.ownBlock = (Value.slice x D.length c).ownBlock ∨ v'.ownBlock = some (w.drew.alloc (.cells #[.string (tx N)] 9)).heap.size) →
      w'.heap[b]? = some (.cells #[.slice x D.length c, .slice (some ⟨g, 0, none⟩) N.length d, .bool true] 173 (0, 0)) ∧ BSt B b (D ++ [N]) N true (w'.setCell ⟨b, 0, none⟩ v') ∧ Stay b B w (w'.setCell ⟨b, 0, none⟩ v')) := Lib.hid (fun v' w' ho hg _ => by
    have hvl : ∀ k, (Value.slice x D.length c).ownBlock = some k → B ≤ k ∧ ∃ cur, w.heap[k]? = some (.cells cur 9 (0, 0)) := fun k hk => by
      refine ⟨(hd.lt k hk).1, ?_⟩
      rcases hd.2 with ⟨hv, _⟩ | ⟨g', cap, cur, hv, _, hg', _⟩
      · rw [hv] at hk; cases hk
      · rw [hv] at hk; cases hk; exact ⟨cur, hg'⟩
    have hold : ∀ k, k < w.heap.size → (Value.slice x D.length c).ownBlock ≠ some k → w'.heap[k]? = w.heap[k]? := fun k hk hne => by
      rw [hg.block k (by simp; omega) (fun e => hne e.symm)]
      exact heap_alloc_old _ _ (by simpa using hk)
    have hbb : w'.heap[b]? = some (.cells #[.slice x D.length c, .slice (some ⟨g, 0, none⟩) N.length d, .bool true] 173 (0, 0)) := (hold b hbl (fun e => by have := (hvl b e).1; omega)).trans hb
    have hng : (Value.slice (some ⟨g, 0, none⟩) N.length d).ownBlock = some g := rfl
    obtain ⟨hgB, hgl⟩ := hn.lt g hng
    have hgg : w'.heap[g]? = w.heap[g]? := hold g hgl (fun e => by
      obtain ⟨_, cur, h1⟩ := hvl g e
      rcases hn.2 with ⟨hv, _⟩ | ⟨g', cap, cur', hv, _, hg', _⟩
      · cases hv
      · cases hv; rw [h1] at hg'; cases hg')
    have hs := set_block (o := 0) hbb v'
    have hsz : w.heap.size ≤ w'.heap.size := by have := hg.size; simp at this; omega
    refine ⟨hbb, ⟨⟨v', .slice (some ⟨g, 0, none⟩) N.length d, ?_, ?_, ?_⟩, ⟨hlt.1, by simp; omega⟩, fun _ => hop⟩, ?_⟩
    · rw [hs]; rfl
    · have h1 : (D ++ [N]).length = D.length + 1 := by simp
      have h2 : strs (D ++ [N]) = strs D ++ [.string (tx N)] := by simp [strs]
      rw [h1, h2]
      exact row_kept ho (fun j hj => set_other (by have := (ho.lt j hj).1; omega))
    · refine row_kept hn (fun j hj => ?_)
      rw [hng] at hj
      cases hj
      rw [set_other (by omega)]
      exact hgg
    · refine Stay.trans ⟨hg.os, hg.tape, hg.output, hsz, fun j hj _ => hold j (by omega) (fun e => by have := (hvl j e).1; omega), fun j o ho2 hc2 => ?_⟩ (Stay.set hbb)
      rw [hold j (Array.getElem?_eq_some_iff.1 ho2).1 (fun e => by obtain ⟨_, cur, h1⟩ := hvl j e; rw [h1] at ho2; cases ho2; cases hc2)]
      exact ho2)
  have HH := Lib.hid h
  have HCV := Lib.hid hcv
  have HD := Lib.hid hd
  have HBS := Lib.hid hlt
  clear hb hd hn hop hlt h
  obtain ⟨T, hT⟩ : ∃ T, T = tx N := ⟨_, rfl⟩
  rw [← hT] at hcv HA
  clear hT HCV
  go_enter Tryz.func98, Tryz.ntmps98
  go_upto_region 1 with (fail)
  go_region_law (refine step_append_own rfl (.tmp 10) (.tmp 16) 25 rfl B 9 i0 (.string ⟨#[]⟩) 1 16 Tryz.underlying25 hi hz0 hz1 hz2 rfl (by decide) _ _ _ rfl (HD.out.drew.alloc _) ⟨w.heap.size, 0, none⟩ 1 1 [.string T] rfl rfl (cell_one_new _ _ _) (by simp [Value.oneCell']) (by unfold maxLen; omega) (by omega) (by have := HBS.out; simp; omega) ?_; intro v' w' hown' hgrow' hat'; obtain ⟨hb', hS'⟩ := HA.out v' w' hown' hgrow' hat'; have HS' := Lib.hid hS'; have c0' : w'.cell? ⟨b, 0, none⟩ = some (.slice x D.length c) := (by simp [World.cell?, hb']); have f0' : w'.frozen? ⟨b, 0, none⟩ = false := (by simp [World.frozen?, hb']); obtain ⟨x', c', rfl⟩ := ownsRow_is hown'; clear hb' hS' hown' hgrow' hat')
  all_goals
    clear c0 c1 c2 f0 hcv c0' f0'
    generalize w'.setCell ⟨b, 0, none⟩ (Value.slice x' (D.length + 1) c') = W3 at HS' ⊢
    obtain ⟨x3, n3, c3, y3, m3, d3, e0, e1, e2, fr, _, _, hB3, hS3⟩ := HS'.out.1.now0
    have HB3 := Lib.hid hB3
    have HS3 := Lib.hid (HS'.out.2.trans hS3)
    have f1 := fr 1
    have f2 := fr 2
    clear hB3 hS3 fr
    go_wp2
    go_end0
    exact ⟨rfl, HB3.out, HS3.out⟩
end Go.Proofs.YtdomglkcfecnnaaGreat
