/- Walks: not, signed, inside. -/
import Derived.Test.YtfalcmbjjlgoaaaGreatDoorQA
namespace Go.Proofs.YtfalcmbjjlgoaaaGreatDoor
open Go.RowKit Go.Shelf
attribute [local go_sem] run_store_float
/-- What a reader of one part keeps: the result's variable g0. -/
structure RI (w : World) (r : Nat) (s : Bs) (ok : Bool) (g0 : Nat) (ts : List Tok) (W : World) : Prop where
  st : St r s ok ts W
  res : ∃ z0 z1 z2 z3, NB W g0 (.agg #[z0, z1, z2, z3])
  bt : But [r] w W
  lt : r < w.heap.size ∧ w.heap.size ≤ g0
theorem RI.start {w : World} {r : Nat} {s : Bs} {ok : Bool} {ts : List Tok} {v0 v1 v2 v3 : Value} (hst : St r s ok ts w) : RI w r s ok w.heap.size ts (w.alloc (.cells #[v0, v1, v2, v3] 25)) :=
  ⟨hst.below ((Below.refl _ _).alloc (Nat.le_refl _) _), ⟨v0, v1, v2, v3, _, _, _, _, rfl, heap_alloc_new _ _⟩, But.of ((Below.refl _ _).alloc (Nat.le_refl _) _), hst.lt, Nat.le_refl _⟩
theorem RI.but {w W W' : World} {r : Nat} {s : Bs} {ok : Bool} {g0 : Nat} {ts ts' : List Tok} (h : RI w r s ok g0 ts W) (hb : But [r] W W') (hst : St r s ok ts' W') : RI w r s ok g0 ts' W' := by
  obtain ⟨z0, z1, z2, z3, hz⟩ := h.res
  exact ⟨hst, ⟨z0, z1, z2, z3, hz.but hb (by have := h.lt; omega)⟩, h.bt.trans hb, h.lt⟩
theorem RI.below {w W W' : World} {r : Nat} {s : Bs} {ok : Bool} {g0 : Nat} {ts : List Tok} (h : RI w r s ok g0 ts W) (hb : Below W.heap.size W W') : RI w r s ok g0 ts W' := by
  obtain ⟨z0, z1, z2, z3, hz⟩ := h.res
  exact ⟨h.st.below hb, ⟨z0, z1, z2, z3, hz.below hb⟩, h.bt.below hb, h.lt⟩
theorem RI.done {w W : World} {r : Nat} {s : Bs} {ok : Bool} {g0 : Nat} {ts : List Tok} {a : Tree} {v0 v1 v2 v3 : Value} (h : RI w r s ok g0 ts W) (hv : NodeV (fun b => w.heap.size ≤ b ∧ b ≠ g0) W (.agg #[v0, v1, v2, v3]) a) :
    PEnd r s ok (some (a, ts)) w (.returned (.agg #[v0, v1, v2, v3])) (putN W g0 v0 v1 v2 v3) := by
  have hl := h.lt
  refine ⟨⟨h.bt.os, h.bt.tape, h.bt.output, by rw [putN_size]; exact h.bt.size, fun j h1 h2 => ?_⟩, .inr ⟨a, ts, _, rfl, rfl, ?_, ?_⟩⟩
  · rw [putN_other (by omega)]; exact h.bt.block j h1 h2
  · exact NodeV.kept (by rw [putN_size]; exact Nat.le_refl _) (fun b h1 _ => ⟨h1.1, putN_other h1.2⟩) a _ hv
  · exact h.st.kept (putN_other (by omega))
theorem RI.lt0 {w W : World} {r : Nat} {s : Bs} {ok : Bool} {g0 : Nat} {ts : List Tok} (h : RI w r s ok g0 ts W) : g0 < W.heap.size := by
  obtain ⟨z0, z1, z2, z3, hz⟩ := h.res
  exact hz.lt
set_option maxRecDepth 100000 in
set_option maxHeartbeats 4000000 in
theorem wsigned_step (V : Bs → Nat) (s : Bs) (ok : Bool) (hs : s.length ≤ 1000000) (n : Nat) (H : ∀ k, k ≤ n → PC V s ok 115 .signed 2 k) (HA : ∀ k, k ≤ n → PC V s ok 123 .atom 1 k) : PC V s ok 115 .signed 2 (n + 1) := by
  intro r ts w hn hst
  have HI := Lib.hid (RI.start (v0 := .string ⟨#[]⟩) (v1 := .float .f64 0) (v2 := .string ⟨#[]⟩) (v3 := .slice none 0 0) hst)
  have HN := Lib.hid hn
  have HSL := Lib.hid hs
  have HH := Lib.hid H
  have HHA := Lib.hid HA
  obtain ⟨res, hres⟩ : ∃ x, x = P V ok (n + 1) .signed ts := ⟨_, rfl⟩
  rw [← hres]
  have HR := Lib.hid hres
  have HIS := Lib.hid (wisT r s ok ts 4 (by omega) [45] _ HI.out.st)
  clear hst hn hs H HA hres
  go_enter Tryz.func115, Tryz.ntmps115
  cases hq : isTok ts 4 [45]
  · rw [hq] at HIS
    have HV : Hid (res = P V ok n .atom ts) := Lib.hid (by rw [HR.out]; simp only [P]; rw [hq]; rfl)
    clear hq HR
    go_wp2_with (first | (go_at_call 57; refine (HIS.out).mono ?_; rintro e w5 ⟨rfl, rfl⟩))
    clear HIS
    generalize w.alloc (.cells #[.string ⟨#[]⟩, .float .f64 0, .string ⟨#[]⟩, .slice none 0 0] 25) = W0 at HI ⊢
    go_at_call 123
    refine (HHA.out n (Nat.le_refl _) r ts _ (by have := HN.out; omega) HI.out.st).mono ?_
    rintro e w2 ⟨hb2, ⟨h1, rfl⟩ | ⟨a, ts1, v, h1, rfl, hv, hst1⟩⟩
    · have HB := Lib.hid (And.intro hb2 h1)
      clear hb2 h1
      go_wp2
      exact ⟨rfl, HI.out.bt.trans HB.out.1, .inl ⟨HV.out.trans HB.out.2, rfl⟩⟩
    · have HI2 := Lib.hid (HI.out.but hb2 hst1)
      have HB := Lib.hid (And.intro hv h1)
      have HL0 := Lib.hid HI.out.lt0
      obtain ⟨o1, n1, s1, x1, l1, c1, rfl⟩ := hv.agg
      obtain ⟨z0, z1, z2, z3, hz⟩ := HI2.out.res
      have HZ := Lib.hid hz
      obtain ⟨b0, b1, b2, b3, bf⟩ := hz.cells
      have f0 := bf 0
      have f1 := bf 1
      have f2 := bf 2
      have f3 := bf 3
      clear hb2 h1 hv hst1 hz bf
      go_wp2
      rw [HV.out, HB.out.2]
      exact bodyPost_ret (node_res rfl _ _ w.heap.size _ _ _ _ rfl HZ.out.put.heap) rfl (RI.done HI2.out (HB.out.1.sub (fun b h _ => by have h1 := HI.out.bt.size; have h2 := HL0.out; have h3 : W0.heap.size ≤ b := h; show _ ∧ _; omega)))
  · have HNE : Hid (ts ≠ []) := Lib.hid (fun e => by rw [e] at hq; cases hq)
    rw [hq] at HIS
    have HV : Hid (res = match adv ok ts with
      | none => none
      | some t1 => match P V ok n .signed t1 with
        | none => none
        | some (b, r) => some (one wneg b, r)) := Lib.hid (by rw [HR.out]; simp only [P]; rw [if_pos hq]; rfl)
    clear hq HR
    go_wp2_with (first | (go_at_call 57; refine (HIS.out).mono ?_; rintro e w5 ⟨rfl, rfl⟩))
    clear HIS
    generalize w.alloc (.cells #[.string ⟨#[]⟩, .float .f64 0, .string ⟨#[]⟩, .slice none 0 0] 25) = W0 at HI ⊢
    go_at_call 37
    refine (wadv r s ok ts HSL.out HNE.out _ HI.out.st).mono ?_
    rintro e w3 ⟨hb3, ⟨h1, rfl⟩ | ⟨t1, h1, rfl, hst3⟩⟩
    · have HB := Lib.hid (And.intro hb3 h1)
      clear hb3 h1
      go_wp2
      exact ⟨rfl, HI.out.bt.trans HB.out.1, .inl ⟨by rw [HV.out, HB.out.2], rfl⟩⟩
    · have HI3 := Lib.hid (HI.out.but hb3 hst3)
      have HT := Lib.hid h1
      have HLT := Lib.hid (adv_len h1).1
      clear hb3 h1 hst3
      go_wp2_with (first | (go_at_call 115; fail))
      go_at_call 115
      refine (HH.out n (Nat.le_refl _) r t1 _ (by have := HN.out; have := HLT.out; omega) HI3.out.st).mono ?_
      rintro e w2 ⟨hb2, ⟨h1, rfl⟩ | ⟨a, ts1, v, h1, rfl, hv, hst1⟩⟩
      · have HB := Lib.hid (And.intro hb2 h1)
        clear hb2 h1
        go_wp2
        exact ⟨rfl, HI3.out.bt.trans HB.out.1, .inl ⟨by rw [HV.out, HT.out]; simp only; rw [HB.out.2], rfl⟩⟩
      · have HI2 := Lib.hid (HI3.out.but hb2 hst1)
        have HB := Lib.hid (And.intro hv h1)
        have HL0 := Lib.hid HI3.out.lt0
        clear hb2 h1 hv hst1
        go_wp2_with (first | (go_at_call 95; fail))
        refine (wsingle (fun b => w.heap.size ≤ b ∧ b ≠ w.heap.size) wneg v a _ ?_ ?_).mono ?_
        · intro b hb; have h1 := HI2.out.lt0; have h2 := HI2.out.bt.size; show _ ∧ _; omega
        · exact HB.out.1.sub (fun b h _ => by have h1 := HI3.out.bt.size; have h2 := HL0.out; have h3 : w3.heap.size ≤ b := h; show _ ∧ _; omega)
        rintro e w6 ⟨v6, rfl, hv6, hb6⟩
        have HI6 := Lib.hid (HI2.out.below hb6)
        have HV6 := Lib.hid hv6
        obtain ⟨o1, n1, s1, x1, l1, c1, rfl⟩ := hv6.agg
        obtain ⟨z0, z1, z2, z3, hz⟩ := HI6.out.res
        have HZ := Lib.hid hz
        obtain ⟨b0, b1, b2, b3, bf⟩ := hz.cells
        have f0 := bf 0
        have f1 := bf 1
        have f2 := bf 2
        have f3 := bf 3
        clear hz bf hv6 hb6
        go_wp2
        rw [HV.out, HT.out]
        simp only
        rw [HB.out.2]
        exact bodyPost_ret (node_res rfl _ _ w.heap.size _ _ _ _ rfl HZ.out.put.heap) rfl (RI.done HI6.out HV6.out)
end Go.Proofs.YtfalcmbjjlgoaaaGreatDoor
