/- Walks: inside, atom's parts. -/
import Derived.Test.YtfalcmbjjlgoaaaGreatDoorQB
namespace Go.Proofs.YtfalcmbjjlgoaaaGreatDoor
open Go.RowKit Go.Shelf
attribute [local go_sem] run_store_float
/-- must, by its text. -/
def MustC (r : Nat) (s : Bs) (ok : Bool) (str : ByteArray) (l : Bs) : Prop := ∀ ts W, St r s ok ts W → Calls Tryz.prog 141 #[.pointer (some ⟨r, 0, none⟩), .string str] W (AdvEnd r s ok (must ok l ts) W)
set_option maxRecDepth 100000 in
set_option maxHeartbeats 4000000 in
theorem winside_step (V : Bs → Nat) (s : Bs) (ok : Bool) (hs : s.length ≤ 1000000) (n : Nat) (H : ∀ k, k ≤ n → PC V s ok 38 .or 11 k) (r : Nat) (ts : List Tok) (w : World) (hn : 12 * ts.length ≤ n + 1) (hst : St r s ok ts w) :
    Calls Tryz.prog 134 #[.pointer (some ⟨r, 0, none⟩)] w (PEnd r s ok (inside ok (P V ok n .or) ts) w) := by
  have HI := Lib.hid (RI.start (v0 := .string ⟨#[]⟩) (v1 := .float .f64 0) (v2 := .string ⟨#[]⟩) (v3 := .slice none 0 0) hst)
  have HN := Lib.hid hn
  have HH := Lib.hid H
  have HM1 : Hid (MustC r s ok ⟨#[40]⟩ [40]) := Lib.hid (fun ts W h => wmust r s ok ts [40] hs W h)
  have HM2 : Hid (MustC r s ok ⟨#[41]⟩ [41]) := Lib.hid (fun ts W h => wmust r s ok ts [41] hs W h)
  obtain ⟨res, hres⟩ : ∃ x, x = inside ok (P V ok n .or) ts := ⟨_, rfl⟩
  rw [← hres]
  have HR := Lib.hid hres
  unfold inside at HR
  clear hst hn hs H hres
  go_enter Tryz.func134, Tryz.ntmps134
  go_wp2_with (first | (go_at_call 141; fail))
  generalize w.alloc (.cells #[.string ⟨#[]⟩, .float .f64 0, .string ⟨#[]⟩, .slice none 0 0] 25) = W0 at HI ⊢
  refine (HM1.out ts W0 HI.out.st).mono ?_
  rintro e w3 ⟨hb3, ⟨h1, rfl⟩ | ⟨t1, h1, rfl, hst3⟩⟩
  · have HB := Lib.hid (And.intro hb3 h1)
    clear hb3 h1
    go_wp2
    exact ⟨rfl, HI.out.bt.trans HB.out.1, .inl ⟨by rw [HR.out, HB.out.2], rfl⟩⟩
  have HI3 := Lib.hid (HI.out.but hb3 hst3)
  have HT := Lib.hid h1
  have HLT := Lib.hid (must_len h1).1
  clear hb3 h1 hst3
  go_wp2_with (first | (go_at_call 38; fail))
  refine (HH.out n (Nat.le_refl _) r t1 _ (by have := HN.out; have := HLT.out; omega) HI3.out.st).mono ?_
  rintro e w2 ⟨hb2, ⟨h1, rfl⟩ | ⟨a, ts1, v, h1, rfl, hv, hst1⟩⟩
  · have HB := Lib.hid (And.intro hb2 h1)
    clear hb2 h1
    go_wp2
    exact ⟨rfl, HI3.out.bt.trans HB.out.1, .inl ⟨by rw [HR.out, HT.out]; simp only; rw [HB.out.2], rfl⟩⟩
  have HI2 := Lib.hid (HI3.out.but hb2 hst1)
  have HL0 := Lib.hid HI3.out.lt0
  have HV := Lib.hid h1
  have HND := Lib.hid (hv.sub (B := fun b => w.heap.size ≤ b ∧ b ≠ w.heap.size) (fun b h _ => by have h1 := HI3.out.bt.size; have h2 := HL0.out; have h3 : w3.heap.size ≤ b := h; show _ ∧ _; omega))
  obtain ⟨o1, n1, s1, x1, l1, c1, rfl⟩ := hv.agg
  clear hb2 h1 hv hst1
  go_wp2_with (first | (go_at_call 141; fail))
  have HI4 : Hid (RI w r s ok w.heap.size ts1 (w2.alloc (.cells #[.string o1, .float .f64 n1, .string s1, .slice x1 l1 c1] 25))) := Lib.hid (HI2.out.below ((Below.refl _ _).alloc (Nat.le_refl _) _))
  have HND4 := Lib.hid (HND.out.below ((Below.refl _ _).alloc (Nat.le_refl _) (.cells #[.string o1, .float .f64 n1, .string s1, .slice x1 l1 c1] 25)))
  have HG : Hid (NB (w2.alloc (.cells #[.string o1, .float .f64 n1, .string s1, .slice x1 l1 c1] 25)) w2.heap.size (.agg #[.string o1, .float .f64 n1, .string s1, .slice x1 l1 c1])) := Lib.hid ⟨_, _, _, _, rfl, heap_alloc_new _ _⟩
  have HLG := Lib.hid (show r < w2.heap.size from HI2.out.st.lt)
  generalize w2.alloc (.cells #[.string o1, .float .f64 n1, .string s1, .slice x1 l1 c1] 25) = W4 at HI4 HND4 HG ⊢
  refine (HM2.out ts1 W4 HI4.out.st).mono ?_
  rintro e w5 ⟨hb5, ⟨h1, rfl⟩ | ⟨t5, h1, rfl, hst5⟩⟩
  · have HB := Lib.hid (And.intro hb5 h1)
    clear hb5 h1
    go_wp2
    exact ⟨rfl, HI4.out.bt.trans HB.out.1, .inl ⟨by rw [HR.out, HT.out]; simp only; rw [HV.out]; simp only; rw [HB.out.2], rfl⟩⟩
  have HI5 := Lib.hid (HI4.out.but hb5 hst5)
  have HND5 := Lib.hid (HND4.out.but (by have := HI4.out.lt; intro h; omega) hb5)
  have HG5 := HG.out.but hb5 (by have := HLG.out; omega)
  have HT5 := Lib.hid h1
  obtain ⟨a0, a1, a2, a3, _⟩ := HG5.cells
  obtain ⟨z0, z1, z2, z3, hz⟩ := HI5.out.res
  have HZ := Lib.hid hz
  obtain ⟨b0, b1, b2, b3, bf⟩ := hz.cells
  have f0 := bf 0
  have f1 := bf 1
  have f2 := bf 2
  have f3 := bf 3
  clear hz bf hb5 h1 hst5 HG5
  go_wp2
  rw [HR.out, HT.out]
  simp only
  rw [HV.out]
  simp only
  rw [HT5.out]
  exact bodyPost_ret (node_res rfl _ _ w.heap.size _ _ _ _ rfl HZ.out.put.heap) rfl (RI.done HI5.out HND5.out)
end Go.Proofs.YtfalcmbjjlgoaaaGreatDoor
