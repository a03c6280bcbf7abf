/- Own texts, merged: QC, QD, S2. -/
import Derived.Test.YtmhfnpabgkkjaaaGreatS1
import Derived.Test.YtmhfnpabgkkjaaaGreatMP21
/- Walks: inside, atom's parts. -/
namespace Go.Proofs.YtmhfnpabgkkjaaaGreat
open Go.RowKit Go.Shelf
attribute [local go_sem] run_store_float
/-- must, by its text. -/
def MustC (r : Nat) (s : Bs) (ok : Bool) (str : ByteArray) (l : Bs) : Prop := ∀ ts W, St r s ok ts W → Calls Tryz.prog 143 #[.pointer (some ⟨r, 0, none⟩), .string str] W (AdvEnd r s ok (must ok l ts) W)
set_option maxRecDepth 100000 in
set_option maxHeartbeats 4000000 in
theorem winside_step (V : Bs → Nat) (s : Bs) (ok : Bool) (hs : s.length ≤ 1000000) (n : Nat) (H : ∀ k, k ≤ n → PC V s ok 31 .or 11 k) (r : Nat) (ts : List Tok) (w : World) (hn : 12 * ts.length ≤ n + 1) (hst : St r s ok ts w) :
    Calls Tryz.prog 140 #[.pointer (some ⟨r, 0, none⟩)] w (PEnd r s ok (inside ok (P V ok n .or) ts) w) := by
  have HI := Lib.hid (RI.start (v0 := .string ⟨#[]⟩) (v1 := .float .f64 0) (v2 := .string ⟨#[]⟩) (v3 := .slice none 0 0) hst)
  have HN := Lib.hid hn
  have HH := Lib.hid H
  have HM1 : Hid (MustC r s ok ⟨#[40]⟩ [40]) := Lib.hid (fun ts W h => wmust r s ok ts [40] hs W h)
  have HM2 : Hid (MustC r s ok ⟨#[41]⟩ [41]) := Lib.hid (fun ts W h => wmust r s ok ts [41] hs W h)
  obtain ⟨res, hres⟩ : ∃ x, x = inside ok (P V ok n .or) ts := ⟨_, rfl⟩
  rw [← hres]
  have HR := Lib.hid hres
  unfold inside at HR
  clear hst hn hs H hres
  go_enter Tryz.func140, Tryz.ntmps140
  go_wp2_with (first | (go_at_call 143; fail))
  generalize w.alloc (.cells #[.string ⟨#[]⟩, .float .f64 0, .string ⟨#[]⟩, .slice none 0 0] 26) = W0 at HI ⊢
  refine (HM1.out ts W0 HI.out.st).mono ?_
  rintro e w3 ⟨hb3, ⟨h1, rfl⟩ | ⟨t1, h1, rfl, hst3⟩⟩
  · have HB := Lib.hid (And.intro hb3 h1)
    clear hb3 h1
    go_wp2
    exact ⟨rfl, HI.out.bt.trans HB.out.1, .inl ⟨by rw [HR.out, HB.out.2], rfl⟩⟩
  have HI3 := Lib.hid (HI.out.but hb3 hst3)
  have HT := Lib.hid h1
  have HLT := Lib.hid (must_len h1).1
  clear hb3 h1 hst3
  go_wp2_with (first | (go_at_call 31; fail))
  refine (HH.out n (Nat.le_refl _) r t1 _ (by have := HN.out; have := HLT.out; omega) HI3.out.st).mono ?_
  rintro e w2 ⟨hb2, ⟨h1, rfl⟩ | ⟨a, ts1, v, h1, rfl, hv, hst1⟩⟩
  · have HB := Lib.hid (And.intro hb2 h1)
    clear hb2 h1
    go_wp2
    exact ⟨rfl, HI3.out.bt.trans HB.out.1, .inl ⟨by rw [HR.out, HT.out]; simp only; rw [HB.out.2], rfl⟩⟩
  have HI2 := Lib.hid (HI3.out.but hb2 hst1)
  have HL0 := Lib.hid HI3.out.lt0
  have HV := Lib.hid h1
  have HND := Lib.hid (hv.sub (B := fun b => w.heap.size ≤ b ∧ b ≠ w.heap.size) (fun b h _ => by have h1 := HI3.out.bt.size; have h2 := HL0.out; have h3 : w3.heap.size ≤ b := h; show _ ∧ _; omega))
  obtain ⟨o1, n1, s1, x1, l1, c1, rfl⟩ := hv.agg
  clear hb2 h1 hv hst1
  go_wp2_with (first | (go_at_call 143; fail))
  have HI4 : Hid (RI w r s ok w.heap.size ts1 (w2.alloc (.cells #[.string o1, .float .f64 n1, .string s1, .slice x1 l1 c1] 26))) := Lib.hid (HI2.out.below ((Below.refl _ _).alloc (Nat.le_refl _) _))
  have HND4 := Lib.hid (HND.out.below ((Below.refl _ _).alloc (Nat.le_refl _) (.cells #[.string o1, .float .f64 n1, .string s1, .slice x1 l1 c1] 26)))
  have HG : Hid (NB (w2.alloc (.cells #[.string o1, .float .f64 n1, .string s1, .slice x1 l1 c1] 26)) w2.heap.size (.agg #[.string o1, .float .f64 n1, .string s1, .slice x1 l1 c1])) := Lib.hid ⟨_, _, _, _, rfl, heap_alloc_new _ _⟩
  have HLG := Lib.hid (show r < w2.heap.size from HI2.out.st.lt)
  generalize w2.alloc (.cells #[.string o1, .float .f64 n1, .string s1, .slice x1 l1 c1] 26) = W4 at HI4 HND4 HG ⊢
  refine (HM2.out ts1 W4 HI4.out.st).mono ?_
  rintro e w5 ⟨hb5, ⟨h1, rfl⟩ | ⟨t5, h1, rfl, hst5⟩⟩
  · have HB := Lib.hid (And.intro hb5 h1)
    clear hb5 h1
    go_wp2
    exact ⟨rfl, HI4.out.bt.trans HB.out.1, .inl ⟨by rw [HR.out, HT.out]; simp only; rw [HV.out]; simp only; rw [HB.out.2], rfl⟩⟩
  have HI5 := Lib.hid (HI4.out.but hb5 hst5)
  have HND5 := Lib.hid (HND4.out.but (by have := HI4.out.lt; intro h; omega) hb5)
  have HG5 := HG.out.but hb5 (by have := HLG.out; omega)
  have HT5 := Lib.hid h1
  obtain ⟨a0, a1, a2, a3, _⟩ := HG5.cells
  obtain ⟨z0, z1, z2, z3, hz⟩ := HI5.out.res
  have HZ := Lib.hid hz
  obtain ⟨b0, b1, b2, b3, bf⟩ := hz.cells
  have f0 := bf 0
  have f1 := bf 1
  have f2 := bf 2
  have f3 := bf 3
  clear hz bf hb5 h1 hst5 HG5
  go_wp2
  rw [HR.out, HT.out]
  simp only
  rw [HV.out]
  simp only
  rw [HT5.out]
  exact bodyPost_ret (node_res rfl _ _ w.heap.size _ _ _ _ rfl HZ.out.put.heap) rfl (RI.done HI5.out HND5.out)
end Go.Proofs.YtmhfnpabgkkjaaaGreat
/- Walk: named. -/
namespace Go.Proofs.YtmhfnpabgkkjaaaGreat
open Go.RowKit Go.Shelf
attribute [local go_sem] run_store_float
/-- A name, or what a word does to rules. -/
def namedP (ok : Bool) (R : List Tok → Option (Tree × List Tok)) (ts : List Tok) (x : Bs) : Option (Tree × List Tok) :=
  if x = wor ∨ x = wand ∨ x = wnot then none
  else match adv ok ts with
  | none => none
  | some r =>
    if x = wlen ∨ x = wabs then (match inside ok R r with
      | none => none
      | some (a, r') => some (one x a, r'))
    else if x = whas then hasP ok R r
    else some (.mk wname 0 x [], r)
theorem tx_ne {a b : Bs} (h : a ≠ b) : ((tx a).toList == b) = false := by rw [tx_toList]; simpa using h
theorem tx_same (a : Bs) : ((tx a).toList == a) = true := by rw [tx_toList]; simp
/-- A name's node. -/
theorem node_leaf (A : Nat → Prop) (w : World) (op x : Bs) (n : Nat) : NodeV A w (.agg #[.string (tx op), .float .f64 n, .string (tx x), .slice none 0 0]) (.mk op n x []) :=
  ⟨none, 0, rfl, Nat.le_refl _, fun _ => rfl, fun a ha => by cases ha⟩
/-- next, from where a piece stands. -/
def NextC (r : Nat) (s : Bs) (ok : Bool) : Prop := ∀ ts W, ts ≠ [] → St r s ok ts W → Calls Tryz.prog 30 #[.pointer (some ⟨r, 0, none⟩)] W (AdvEnd r s ok (adv ok ts) W)
set_option maxRecDepth 100000 in
set_option maxHeartbeats 4000000 in
theorem wnamed_bad (V : Bs → Nat) (s : Bs) (ok : Bool) (n : Nat) (x : Bs) (hx : x = wor ∨ x = wand ∨ x = wnot) (r : Nat) (ts : List Tok) (w : World) (hst : St r s ok ts w) :
    Calls Tryz.prog 139 #[.pointer (some ⟨r, 0, none⟩), .string (tx x)] w (PEnd r s ok (namedP ok (P V ok n .or) ts x) w) := by
  have HI := Lib.hid (RI.start (v0 := .string ⟨#[]⟩) (v1 := .float .f64 0) (v2 := .string ⟨#[]⟩) (v3 := .slice none 0 0) hst)
  have HV : Hid (namedP ok (P V ok n .or) ts x = none) := Lib.hid (by unfold namedP; rw [if_pos hx])
  rw [HV.out]
  clear hst HV
  rcases hx with rfl | rfl | rfl
  · have b1 := tx_same wor
    unfold wor at b1 ⊢
    generalize tx [111, 114] = T at b1 ⊢
    go_enter Tryz.func139, Tryz.ntmps139
    go_wp2
    exact ⟨rfl, HI.out.bt, .inl ⟨rfl, rfl⟩⟩
  · have b1 := tx_same wand
    have b2 : ((tx wand).toList == [111, 114]) = false := tx_ne (by decide)
    unfold wand at b1 b2 ⊢
    generalize tx [97, 110, 100] = T at b1 b2 ⊢
    go_enter Tryz.func139, Tryz.ntmps139
    go_wp2
    exact ⟨rfl, HI.out.bt, .inl ⟨rfl, rfl⟩⟩
  · have b1 := tx_same wnot
    have b2 : ((tx wnot).toList == [111, 114]) = false := tx_ne (by decide)
    have b3 : ((tx wnot).toList == [97, 110, 100]) = false := tx_ne (by decide)
    unfold wnot at b1 b2 b3 ⊢
    generalize tx [110, 111, 116] = T at b1 b2 b3 ⊢
    go_enter Tryz.func139, Tryz.ntmps139
    go_wp2
    exact ⟨rfl, HI.out.bt, .inl ⟨rfl, rfl⟩⟩
set_option maxRecDepth 100000 in
set_option maxHeartbeats 4000000 in
theorem wnamed_name (V : Bs → Nat) (s : Bs) (ok : Bool) (hs : s.length ≤ 1000000) (n : Nat) (x : Bs) (hx : x ≠ wor ∧ x ≠ wand ∧ x ≠ wnot ∧ x ≠ wlen ∧ x ≠ wabs ∧ x ≠ whas) (r : Nat) (ts : List Tok) (w : World) (hne : ts ≠ []) (hst : St r s ok ts w) :
    Calls Tryz.prog 139 #[.pointer (some ⟨r, 0, none⟩), .string (tx x)] w (PEnd r s ok (namedP ok (P V ok n .or) ts x) w) := by
  have HI := Lib.hid (RI.start (v0 := .string ⟨#[]⟩) (v1 := .float .f64 0) (v2 := .string ⟨#[]⟩) (v3 := .slice none 0 0) hst)
  have HV : Hid (namedP ok (P V ok n .or) ts x = match adv ok ts with | none => none | some r => some (.mk wname 0 x [], r)) := Lib.hid (by
    unfold namedP
    rw [if_neg (fun h => h.elim hx.1 (fun h => h.elim hx.2.1 hx.2.2.1))]
    cases adv ok ts with
    | none => rfl
    | some r => simp only; rw [if_neg (fun h => h.elim hx.2.2.2.1 hx.2.2.2.2.1), if_neg hx.2.2.2.2.2])
  obtain ⟨res, hres⟩ : ∃ y, y = namedP ok (P V ok n .or) ts x := ⟨_, rfl⟩
  rw [← hres] at HV ⊢
  have HA := Lib.hid (fun W h => wadv r s ok ts hs hne W h)
  have b1 : ((tx x).toList == [111, 114]) = false := tx_ne hx.1
  have b2 : ((tx x).toList == [97, 110, 100]) = false := tx_ne hx.2.1
  have b3 : ((tx x).toList == [110, 111, 116]) = false := tx_ne hx.2.2.1
  have b4 : ((tx x).toList == [108, 101, 110]) = false := tx_ne hx.2.2.2.1
  have b5 : ((tx x).toList == [97, 98, 115]) = false := tx_ne hx.2.2.2.2.1
  have b6 : ((tx x).toList == [104, 97, 115]) = false := tx_ne hx.2.2.2.2.2
  clear hst hres hx hne hs
  go_enter Tryz.func139, Tryz.ntmps139
  go_wp2_with (first | (go_at_call 30; fail))
  clear b1 b2 b3 b4 b5 b6
  generalize w.alloc (.cells #[.string ⟨#[]⟩, .float .f64 0, .string ⟨#[]⟩, .slice none 0 0] 26) = W0 at HI ⊢
  refine (HA.out W0 HI.out.st).mono ?_
  rintro e w3 ⟨hb3, ⟨h1, rfl⟩ | ⟨t1, h1, rfl, hst3⟩⟩
  · have HB := Lib.hid (And.intro hb3 h1)
    clear hb3 h1
    go_wp2
    exact ⟨rfl, HI.out.bt.trans HB.out.1, .inl ⟨by rw [HV.out, HB.out.2], rfl⟩⟩
  have HI3 := Lib.hid (HI.out.but hb3 hst3)
  have HT := Lib.hid h1
  obtain ⟨z0, z1, z2, z3, hz⟩ := HI3.out.res
  have HZ := Lib.hid hz
  obtain ⟨b0, b1, b2, b3, bf⟩ := hz.cells
  have f0 := bf 0
  have f1 := bf 1
  have f2 := bf 2
  have f3 := bf 3
  clear hz bf hb3 h1 hst3
  go_wp2
  rw [HV.out, HT.out]
  exact bodyPost_ret (node_res rfl _ _ w.heap.size _ _ _ _ rfl HZ.out.put.heap) rfl (RI.done HI3.out (node_leaf _ _ wname x 0))
end Go.Proofs.YtmhfnpabgkkjaaaGreat
/- The Ops of rules, told apart: one of twenty, or none of them (printed by gen_s2.py). -/
namespace Go.Proofs.YtmhfnpabgkkjaaaGreat
open Go.RowKit Go.Shelf
theorem opcases (op : Bs) : (op = [110, 117, 109] ∧ ((tx op).toList == [110, 117, 109]) = true ∧ ((tx op).toList == [116, 101, 120, 116]) = false ∧ ((tx op).toList == [110, 97, 109, 101]) = false ∧ ((tx op).toList == [110, 111, 116]) = false ∧ ((tx op).toList == [110, 101, 103]) = false ∧ ((tx op).toList == [108, 101, 110]) = false ∧ ((tx op).toList == [97, 98, 115]) = false ∧ ((tx op).toList == [111, 114]) = false ∧ ((tx op).toList == [97, 110, 100]) = false ∧ ((tx op).toList == [104, 97, 115]) = false ∧ ((tx op).toList == [61]) = false ∧ ((tx op).toList == [33, 61]) = false ∧ ((tx op).toList == [60]) = false ∧ ((tx op).toList == [60, 61]) = false ∧ ((tx op).toList == [62]) = false ∧ ((tx op).toList == [62, 61]) = false ∧ ((tx op).toList == [43]) = false ∧ ((tx op).toList == [45]) = false ∧ ((tx op).toList == [42]) = false ∧ ((tx op).toList == [47]) = false) ∨
    (op = [116, 101, 120, 116] ∧ ((tx op).toList == [110, 117, 109]) = false ∧ ((tx op).toList == [116, 101, 120, 116]) = true ∧ ((tx op).toList == [110, 97, 109, 101]) = false ∧ ((tx op).toList == [110, 111, 116]) = false ∧ ((tx op).toList == [110, 101, 103]) = false ∧ ((tx op).toList == [108, 101, 110]) = false ∧ ((tx op).toList == [97, 98, 115]) = false ∧ ((tx op).toList == [111, 114]) = false ∧ ((tx op).toList == [97, 110, 100]) = false ∧ ((tx op).toList == [104, 97, 115]) = false ∧ ((tx op).toList == [61]) = false ∧ ((tx op).toList == [33, 61]) = false ∧ ((tx op).toList == [60]) = false ∧ ((tx op).toList == [60, 61]) = false ∧ ((tx op).toList == [62]) = false ∧ ((tx op).toList == [62, 61]) = false ∧ ((tx op).toList == [43]) = false ∧ ((tx op).toList == [45]) = false ∧ ((tx op).toList == [42]) = false ∧ ((tx op).toList == [47]) = false) ∨
    (op = [110, 97, 109, 101] ∧ ((tx op).toList == [110, 117, 109]) = false ∧ ((tx op).toList == [116, 101, 120, 116]) = false ∧ ((tx op).toList == [110, 97, 109, 101]) = true ∧ ((tx op).toList == [110, 111, 116]) = false ∧ ((tx op).toList == [110, 101, 103]) = false ∧ ((tx op).toList == [108, 101, 110]) = false ∧ ((tx op).toList == [97, 98, 115]) = false ∧ ((tx op).toList == [111, 114]) = false ∧ ((tx op).toList == [97, 110, 100]) = false ∧ ((tx op).toList == [104, 97, 115]) = false ∧ ((tx op).toList == [61]) = false ∧ ((tx op).toList == [33, 61]) = false ∧ ((tx op).toList == [60]) = false ∧ ((tx op).toList == [60, 61]) = false ∧ ((tx op).toList == [62]) = false ∧ ((tx op).toList == [62, 61]) = false ∧ ((tx op).toList == [43]) = false ∧ ((tx op).toList == [45]) = false ∧ ((tx op).toList == [42]) = false ∧ ((tx op).toList == [47]) = false) ∨
    (op = [110, 111, 116] ∧ ((tx op).toList == [110, 117, 109]) = false ∧ ((tx op).toList == [116, 101, 120, 116]) = false ∧ ((tx op).toList == [110, 97, 109, 101]) = false ∧ ((tx op).toList == [110, 111, 116]) = true ∧ ((tx op).toList == [110, 101, 103]) = false ∧ ((tx op).toList == [108, 101, 110]) = false ∧ ((tx op).toList == [97, 98, 115]) = false ∧ ((tx op).toList == [111, 114]) = false ∧ ((tx op).toList == [97, 110, 100]) = false ∧ ((tx op).toList == [104, 97, 115]) = false ∧ ((tx op).toList == [61]) = false ∧ ((tx op).toList == [33, 61]) = false ∧ ((tx op).toList == [60]) = false ∧ ((tx op).toList == [60, 61]) = false ∧ ((tx op).toList == [62]) = false ∧ ((tx op).toList == [62, 61]) = false ∧ ((tx op).toList == [43]) = false ∧ ((tx op).toList == [45]) = false ∧ ((tx op).toList == [42]) = false ∧ ((tx op).toList == [47]) = false) ∨
    (op = [110, 101, 103] ∧ ((tx op).toList == [110, 117, 109]) = false ∧ ((tx op).toList == [116, 101, 120, 116]) = false ∧ ((tx op).toList == [110, 97, 109, 101]) = false ∧ ((tx op).toList == [110, 111, 116]) = false ∧ ((tx op).toList == [110, 101, 103]) = true ∧ ((tx op).toList == [108, 101, 110]) = false ∧ ((tx op).toList == [97, 98, 115]) = false ∧ ((tx op).toList == [111, 114]) = false ∧ ((tx op).toList == [97, 110, 100]) = false ∧ ((tx op).toList == [104, 97, 115]) = false ∧ ((tx op).toList == [61]) = false ∧ ((tx op).toList == [33, 61]) = false ∧ ((tx op).toList == [60]) = false ∧ ((tx op).toList == [60, 61]) = false ∧ ((tx op).toList == [62]) = false ∧ ((tx op).toList == [62, 61]) = false ∧ ((tx op).toList == [43]) = false ∧ ((tx op).toList == [45]) = false ∧ ((tx op).toList == [42]) = false ∧ ((tx op).toList == [47]) = false) ∨
    (op = [108, 101, 110] ∧ ((tx op).toList == [110, 117, 109]) = false ∧ ((tx op).toList == [116, 101, 120, 116]) = false ∧ ((tx op).toList == [110, 97, 109, 101]) = false ∧ ((tx op).toList == [110, 111, 116]) = false ∧ ((tx op).toList == [110, 101, 103]) = false ∧ ((tx op).toList == [108, 101, 110]) = true ∧ ((tx op).toList == [97, 98, 115]) = false ∧ ((tx op).toList == [111, 114]) = false ∧ ((tx op).toList == [97, 110, 100]) = false ∧ ((tx op).toList == [104, 97, 115]) = false ∧ ((tx op).toList == [61]) = false ∧ ((tx op).toList == [33, 61]) = false ∧ ((tx op).toList == [60]) = false ∧ ((tx op).toList == [60, 61]) = false ∧ ((tx op).toList == [62]) = false ∧ ((tx op).toList == [62, 61]) = false ∧ ((tx op).toList == [43]) = false ∧ ((tx op).toList == [45]) = false ∧ ((tx op).toList == [42]) = false ∧ ((tx op).toList == [47]) = false) ∨
    (op = [97, 98, 115] ∧ ((tx op).toList == [110, 117, 109]) = false ∧ ((tx op).toList == [116, 101, 120, 116]) = false ∧ ((tx op).toList == [110, 97, 109, 101]) = false ∧ ((tx op).toList == [110, 111, 116]) = false ∧ ((tx op).toList == [110, 101, 103]) = false ∧ ((tx op).toList == [108, 101, 110]) = false ∧ ((tx op).toList == [97, 98, 115]) = true ∧ ((tx op).toList == [111, 114]) = false ∧ ((tx op).toList == [97, 110, 100]) = false ∧ ((tx op).toList == [104, 97, 115]) = false ∧ ((tx op).toList == [61]) = false ∧ ((tx op).toList == [33, 61]) = false ∧ ((tx op).toList == [60]) = false ∧ ((tx op).toList == [60, 61]) = false ∧ ((tx op).toList == [62]) = false ∧ ((tx op).toList == [62, 61]) = false ∧ ((tx op).toList == [43]) = false ∧ ((tx op).toList == [45]) = false ∧ ((tx op).toList == [42]) = false ∧ ((tx op).toList == [47]) = false) ∨
    (op = [111, 114] ∧ ((tx op).toList == [110, 117, 109]) = false ∧ ((tx op).toList == [116, 101, 120, 116]) = false ∧ ((tx op).toList == [110, 97, 109, 101]) = false ∧ ((tx op).toList == [110, 111, 116]) = false ∧ ((tx op).toList == [110, 101, 103]) = false ∧ ((tx op).toList == [108, 101, 110]) = false ∧ ((tx op).toList == [97, 98, 115]) = false ∧ ((tx op).toList == [111, 114]) = true ∧ ((tx op).toList == [97, 110, 100]) = false ∧ ((tx op).toList == [104, 97, 115]) = false ∧ ((tx op).toList == [61]) = false ∧ ((tx op).toList == [33, 61]) = false ∧ ((tx op).toList == [60]) = false ∧ ((tx op).toList == [60, 61]) = false ∧ ((tx op).toList == [62]) = false ∧ ((tx op).toList == [62, 61]) = false ∧ ((tx op).toList == [43]) = false ∧ ((tx op).toList == [45]) = false ∧ ((tx op).toList == [42]) = false ∧ ((tx op).toList == [47]) = false) ∨
    (op = [97, 110, 100] ∧ ((tx op).toList == [110, 117, 109]) = false ∧ ((tx op).toList == [116, 101, 120, 116]) = false ∧ ((tx op).toList == [110, 97, 109, 101]) = false ∧ ((tx op).toList == [110, 111, 116]) = false ∧ ((tx op).toList == [110, 101, 103]) = false ∧ ((tx op).toList == [108, 101, 110]) = false ∧ ((tx op).toList == [97, 98, 115]) = false ∧ ((tx op).toList == [111, 114]) = false ∧ ((tx op).toList == [97, 110, 100]) = true ∧ ((tx op).toList == [104, 97, 115]) = false ∧ ((tx op).toList == [61]) = false ∧ ((tx op).toList == [33, 61]) = false ∧ ((tx op).toList == [60]) = false ∧ ((tx op).toList == [60, 61]) = false ∧ ((tx op).toList == [62]) = false ∧ ((tx op).toList == [62, 61]) = false ∧ ((tx op).toList == [43]) = false ∧ ((tx op).toList == [45]) = false ∧ ((tx op).toList == [42]) = false ∧ ((tx op).toList == [47]) = false) ∨
    (op = [104, 97, 115] ∧ ((tx op).toList == [110, 117, 109]) = false ∧ ((tx op).toList == [116, 101, 120, 116]) = false ∧ ((tx op).toList == [110, 97, 109, 101]) = false ∧ ((tx op).toList == [110, 111, 116]) = false ∧ ((tx op).toList == [110, 101, 103]) = false ∧ ((tx op).toList == [108, 101, 110]) = false ∧ ((tx op).toList == [97, 98, 115]) = false ∧ ((tx op).toList == [111, 114]) = false ∧ ((tx op).toList == [97, 110, 100]) = false ∧ ((tx op).toList == [104, 97, 115]) = true ∧ ((tx op).toList == [61]) = false ∧ ((tx op).toList == [33, 61]) = false ∧ ((tx op).toList == [60]) = false ∧ ((tx op).toList == [60, 61]) = false ∧ ((tx op).toList == [62]) = false ∧ ((tx op).toList == [62, 61]) = false ∧ ((tx op).toList == [43]) = false ∧ ((tx op).toList == [45]) = false ∧ ((tx op).toList == [42]) = false ∧ ((tx op).toList == [47]) = false) ∨
    (op = [61] ∧ ((tx op).toList == [110, 117, 109]) = false ∧ ((tx op).toList == [116, 101, 120, 116]) = false ∧ ((tx op).toList == [110, 97, 109, 101]) = false ∧ ((tx op).toList == [110, 111, 116]) = false ∧ ((tx op).toList == [110, 101, 103]) = false ∧ ((tx op).toList == [108, 101, 110]) = false ∧ ((tx op).toList == [97, 98, 115]) = false ∧ ((tx op).toList == [111, 114]) = false ∧ ((tx op).toList == [97, 110, 100]) = false ∧ ((tx op).toList == [104, 97, 115]) = false ∧ ((tx op).toList == [61]) = true ∧ ((tx op).toList == [33, 61]) = false ∧ ((tx op).toList == [60]) = false ∧ ((tx op).toList == [60, 61]) = false ∧ ((tx op).toList == [62]) = false ∧ ((tx op).toList == [62, 61]) = false ∧ ((tx op).toList == [43]) = false ∧ ((tx op).toList == [45]) = false ∧ ((tx op).toList == [42]) = false ∧ ((tx op).toList == [47]) = false) ∨
    (op = [33, 61] ∧ ((tx op).toList == [110, 117, 109]) = false ∧ ((tx op).toList == [116, 101, 120, 116]) = false ∧ ((tx op).toList == [110, 97, 109, 101]) = false ∧ ((tx op).toList == [110, 111, 116]) = false ∧ ((tx op).toList == [110, 101, 103]) = false ∧ ((tx op).toList == [108, 101, 110]) = false ∧ ((tx op).toList == [97, 98, 115]) = false ∧ ((tx op).toList == [111, 114]) = false ∧ ((tx op).toList == [97, 110, 100]) = false ∧ ((tx op).toList == [104, 97, 115]) = false ∧ ((tx op).toList == [61]) = false ∧ ((tx op).toList == [33, 61]) = true ∧ ((tx op).toList == [60]) = false ∧ ((tx op).toList == [60, 61]) = false ∧ ((tx op).toList == [62]) = false ∧ ((tx op).toList == [62, 61]) = false ∧ ((tx op).toList == [43]) = false ∧ ((tx op).toList == [45]) = false ∧ ((tx op).toList == [42]) = false ∧ ((tx op).toList == [47]) = false) ∨
    (op = [60] ∧ ((tx op).toList == [110, 117, 109]) = false ∧ ((tx op).toList == [116, 101, 120, 116]) = false ∧ ((tx op).toList == [110, 97, 109, 101]) = false ∧ ((tx op).toList == [110, 111, 116]) = false ∧ ((tx op).toList == [110, 101, 103]) = false ∧ ((tx op).toList == [108, 101, 110]) = false ∧ ((tx op).toList == [97, 98, 115]) = false ∧ ((tx op).toList == [111, 114]) = false ∧ ((tx op).toList == [97, 110, 100]) = false ∧ ((tx op).toList == [104, 97, 115]) = false ∧ ((tx op).toList == [61]) = false ∧ ((tx op).toList == [33, 61]) = false ∧ ((tx op).toList == [60]) = true ∧ ((tx op).toList == [60, 61]) = false ∧ ((tx op).toList == [62]) = false ∧ ((tx op).toList == [62, 61]) = false ∧ ((tx op).toList == [43]) = false ∧ ((tx op).toList == [45]) = false ∧ ((tx op).toList == [42]) = false ∧ ((tx op).toList == [47]) = false) ∨
    (op = [60, 61] ∧ ((tx op).toList == [110, 117, 109]) = false ∧ ((tx op).toList == [116, 101, 120, 116]) = false ∧ ((tx op).toList == [110, 97, 109, 101]) = false ∧ ((tx op).toList == [110, 111, 116]) = false ∧ ((tx op).toList == [110, 101, 103]) = false ∧ ((tx op).toList == [108, 101, 110]) = false ∧ ((tx op).toList == [97, 98, 115]) = false ∧ ((tx op).toList == [111, 114]) = false ∧ ((tx op).toList == [97, 110, 100]) = false ∧ ((tx op).toList == [104, 97, 115]) = false ∧ ((tx op).toList == [61]) = false ∧ ((tx op).toList == [33, 61]) = false ∧ ((tx op).toList == [60]) = false ∧ ((tx op).toList == [60, 61]) = true ∧ ((tx op).toList == [62]) = false ∧ ((tx op).toList == [62, 61]) = false ∧ ((tx op).toList == [43]) = false ∧ ((tx op).toList == [45]) = false ∧ ((tx op).toList == [42]) = false ∧ ((tx op).toList == [47]) = false) ∨
    (op = [62] ∧ ((tx op).toList == [110, 117, 109]) = false ∧ ((tx op).toList == [116, 101, 120, 116]) = false ∧ ((tx op).toList == [110, 97, 109, 101]) = false ∧ ((tx op).toList == [110, 111, 116]) = false ∧ ((tx op).toList == [110, 101, 103]) = false ∧ ((tx op).toList == [108, 101, 110]) = false ∧ ((tx op).toList == [97, 98, 115]) = false ∧ ((tx op).toList == [111, 114]) = false ∧ ((tx op).toList == [97, 110, 100]) = false ∧ ((tx op).toList == [104, 97, 115]) = false ∧ ((tx op).toList == [61]) = false ∧ ((tx op).toList == [33, 61]) = false ∧ ((tx op).toList == [60]) = false ∧ ((tx op).toList == [60, 61]) = false ∧ ((tx op).toList == [62]) = true ∧ ((tx op).toList == [62, 61]) = false ∧ ((tx op).toList == [43]) = false ∧ ((tx op).toList == [45]) = false ∧ ((tx op).toList == [42]) = false ∧ ((tx op).toList == [47]) = false) ∨
    (op = [62, 61] ∧ ((tx op).toList == [110, 117, 109]) = false ∧ ((tx op).toList == [116, 101, 120, 116]) = false ∧ ((tx op).toList == [110, 97, 109, 101]) = false ∧ ((tx op).toList == [110, 111, 116]) = false ∧ ((tx op).toList == [110, 101, 103]) = false ∧ ((tx op).toList == [108, 101, 110]) = false ∧ ((tx op).toList == [97, 98, 115]) = false ∧ ((tx op).toList == [111, 114]) = false ∧ ((tx op).toList == [97, 110, 100]) = false ∧ ((tx op).toList == [104, 97, 115]) = false ∧ ((tx op).toList == [61]) = false ∧ ((tx op).toList == [33, 61]) = false ∧ ((tx op).toList == [60]) = false ∧ ((tx op).toList == [60, 61]) = false ∧ ((tx op).toList == [62]) = false ∧ ((tx op).toList == [62, 61]) = true ∧ ((tx op).toList == [43]) = false ∧ ((tx op).toList == [45]) = false ∧ ((tx op).toList == [42]) = false ∧ ((tx op).toList == [47]) = false) ∨
    (op = [43] ∧ ((tx op).toList == [110, 117, 109]) = false ∧ ((tx op).toList == [116, 101, 120, 116]) = false ∧ ((tx op).toList == [110, 97, 109, 101]) = false ∧ ((tx op).toList == [110, 111, 116]) = false ∧ ((tx op).toList == [110, 101, 103]) = false ∧ ((tx op).toList == [108, 101, 110]) = false ∧ ((tx op).toList == [97, 98, 115]) = false ∧ ((tx op).toList == [111, 114]) = false ∧ ((tx op).toList == [97, 110, 100]) = false ∧ ((tx op).toList == [104, 97, 115]) = false ∧ ((tx op).toList == [61]) = false ∧ ((tx op).toList == [33, 61]) = false ∧ ((tx op).toList == [60]) = false ∧ ((tx op).toList == [60, 61]) = false ∧ ((tx op).toList == [62]) = false ∧ ((tx op).toList == [62, 61]) = false ∧ ((tx op).toList == [43]) = true ∧ ((tx op).toList == [45]) = false ∧ ((tx op).toList == [42]) = false ∧ ((tx op).toList == [47]) = false) ∨
    (op = [45] ∧ ((tx op).toList == [110, 117, 109]) = false ∧ ((tx op).toList == [116, 101, 120, 116]) = false ∧ ((tx op).toList == [110, 97, 109, 101]) = false ∧ ((tx op).toList == [110, 111, 116]) = false ∧ ((tx op).toList == [110, 101, 103]) = false ∧ ((tx op).toList == [108, 101, 110]) = false ∧ ((tx op).toList == [97, 98, 115]) = false ∧ ((tx op).toList == [111, 114]) = false ∧ ((tx op).toList == [97, 110, 100]) = false ∧ ((tx op).toList == [104, 97, 115]) = false ∧ ((tx op).toList == [61]) = false ∧ ((tx op).toList == [33, 61]) = false ∧ ((tx op).toList == [60]) = false ∧ ((tx op).toList == [60, 61]) = false ∧ ((tx op).toList == [62]) = false ∧ ((tx op).toList == [62, 61]) = false ∧ ((tx op).toList == [43]) = false ∧ ((tx op).toList == [45]) = true ∧ ((tx op).toList == [42]) = false ∧ ((tx op).toList == [47]) = false) ∨
    (op = [42] ∧ ((tx op).toList == [110, 117, 109]) = false ∧ ((tx op).toList == [116, 101, 120, 116]) = false ∧ ((tx op).toList == [110, 97, 109, 101]) = false ∧ ((tx op).toList == [110, 111, 116]) = false ∧ ((tx op).toList == [110, 101, 103]) = false ∧ ((tx op).toList == [108, 101, 110]) = false ∧ ((tx op).toList == [97, 98, 115]) = false ∧ ((tx op).toList == [111, 114]) = false ∧ ((tx op).toList == [97, 110, 100]) = false ∧ ((tx op).toList == [104, 97, 115]) = false ∧ ((tx op).toList == [61]) = false ∧ ((tx op).toList == [33, 61]) = false ∧ ((tx op).toList == [60]) = false ∧ ((tx op).toList == [60, 61]) = false ∧ ((tx op).toList == [62]) = false ∧ ((tx op).toList == [62, 61]) = false ∧ ((tx op).toList == [43]) = false ∧ ((tx op).toList == [45]) = false ∧ ((tx op).toList == [42]) = true ∧ ((tx op).toList == [47]) = false) ∨
    (op = [47] ∧ ((tx op).toList == [110, 117, 109]) = false ∧ ((tx op).toList == [116, 101, 120, 116]) = false ∧ ((tx op).toList == [110, 97, 109, 101]) = false ∧ ((tx op).toList == [110, 111, 116]) = false ∧ ((tx op).toList == [110, 101, 103]) = false ∧ ((tx op).toList == [108, 101, 110]) = false ∧ ((tx op).toList == [97, 98, 115]) = false ∧ ((tx op).toList == [111, 114]) = false ∧ ((tx op).toList == [97, 110, 100]) = false ∧ ((tx op).toList == [104, 97, 115]) = false ∧ ((tx op).toList == [61]) = false ∧ ((tx op).toList == [33, 61]) = false ∧ ((tx op).toList == [60]) = false ∧ ((tx op).toList == [60, 61]) = false ∧ ((tx op).toList == [62]) = false ∧ ((tx op).toList == [62, 61]) = false ∧ ((tx op).toList == [43]) = false ∧ ((tx op).toList == [45]) = false ∧ ((tx op).toList == [42]) = false ∧ ((tx op).toList == [47]) = true) ∨
    ((op ≠ [110, 117, 109] ∧ op ≠ [116, 101, 120, 116] ∧ op ≠ [110, 97, 109, 101] ∧ op ≠ [110, 111, 116] ∧ op ≠ [110, 101, 103] ∧ op ≠ [108, 101, 110] ∧ op ≠ [97, 98, 115] ∧ op ≠ [111, 114] ∧ op ≠ [97, 110, 100] ∧ op ≠ [104, 97, 115] ∧ op ≠ [61] ∧ op ≠ [33, 61] ∧ op ≠ [60] ∧ op ≠ [60, 61] ∧ op ≠ [62] ∧ op ≠ [62, 61] ∧ op ≠ [43] ∧ op ≠ [45] ∧ op ≠ [42] ∧ op ≠ [47]) ∧ ((tx op).toList == [110, 117, 109]) = false ∧ ((tx op).toList == [116, 101, 120, 116]) = false ∧ ((tx op).toList == [110, 97, 109, 101]) = false ∧ ((tx op).toList == [110, 111, 116]) = false ∧ ((tx op).toList == [110, 101, 103]) = false ∧ ((tx op).toList == [108, 101, 110]) = false ∧ ((tx op).toList == [97, 98, 115]) = false ∧ ((tx op).toList == [111, 114]) = false ∧ ((tx op).toList == [97, 110, 100]) = false ∧ ((tx op).toList == [104, 97, 115]) = false ∧ ((tx op).toList == [61]) = false ∧ ((tx op).toList == [33, 61]) = false ∧ ((tx op).toList == [60]) = false ∧ ((tx op).toList == [60, 61]) = false ∧ ((tx op).toList == [62]) = false ∧ ((tx op).toList == [62, 61]) = false ∧ ((tx op).toList == [43]) = false ∧ ((tx op).toList == [45]) = false ∧ ((tx op).toList == [42]) = false ∧ ((tx op).toList == [47]) = false) := by
  by_cases q0 : op = [110, 117, 109]
  · subst q0
    exact .inl (⟨rfl, tx_same _, tx_ne (by decide), tx_ne (by decide), tx_ne (by decide), tx_ne (by decide), tx_ne (by decide), tx_ne (by decide), tx_ne (by decide), tx_ne (by decide), tx_ne (by decide), tx_ne (by decide), tx_ne (by decide), tx_ne (by decide), tx_ne (by decide), tx_ne (by decide), tx_ne (by decide), tx_ne (by decide), tx_ne (by decide), tx_ne (by decide), tx_ne (by decide)⟩)
  by_cases q1 : op = [116, 101, 120, 116]
  · subst q1
    exact .inr (.inl (⟨rfl, tx_ne (by decide), tx_same _, tx_ne (by decide), tx_ne (by decide), tx_ne (by decide), tx_ne (by decide), tx_ne (by decide), tx_ne (by decide), tx_ne (by decide), tx_ne (by decide), tx_ne (by decide), tx_ne (by decide), tx_ne (by decide), tx_ne (by decide), tx_ne (by decide), tx_ne (by decide), tx_ne (by decide), tx_ne (by decide), tx_ne (by decide), tx_ne (by decide)⟩))
  by_cases q2 : op = [110, 97, 109, 101]
  · subst q2
    exact .inr (.inr (.inl (⟨rfl, tx_ne (by decide), tx_ne (by decide), tx_same _, tx_ne (by decide), tx_ne (by decide), tx_ne (by decide), tx_ne (by decide), tx_ne (by decide), tx_ne (by decide), tx_ne (by decide), tx_ne (by decide), tx_ne (by decide), tx_ne (by decide), tx_ne (by decide), tx_ne (by decide), tx_ne (by decide), tx_ne (by decide), tx_ne (by decide), tx_ne (by decide), tx_ne (by decide)⟩)))
  by_cases q3 : op = [110, 111, 116]
  · subst q3
    exact .inr (.inr (.inr (.inl (⟨rfl, tx_ne (by decide), tx_ne (by decide), tx_ne (by decide), tx_same _, tx_ne (by decide), tx_ne (by decide), tx_ne (by decide), tx_ne (by decide), tx_ne (by decide), tx_ne (by decide), tx_ne (by decide), tx_ne (by decide), tx_ne (by decide), tx_ne (by decide), tx_ne (by decide), tx_ne (by decide), tx_ne (by decide), tx_ne (by decide), tx_ne (by decide), tx_ne (by decide)⟩))))
  by_cases q4 : op = [110, 101, 103]
  · subst q4
    exact .inr (.inr (.inr (.inr (.inl (⟨rfl, tx_ne (by decide), tx_ne (by decide), tx_ne (by decide), tx_ne (by decide), tx_same _, tx_ne (by decide), tx_ne (by decide), tx_ne (by decide), tx_ne (by decide), tx_ne (by decide), tx_ne (by decide), tx_ne (by decide), tx_ne (by decide), tx_ne (by decide), tx_ne (by decide), tx_ne (by decide), tx_ne (by decide), tx_ne (by decide), tx_ne (by decide), tx_ne (by decide)⟩)))))
  by_cases q5 : op = [108, 101, 110]
  · subst q5
    exact .inr (.inr (.inr (.inr (.inr (.inl (⟨rfl, tx_ne (by decide), tx_ne (by decide), tx_ne (by decide), tx_ne (by decide), tx_ne (by decide), tx_same _, tx_ne (by decide), tx_ne (by decide), tx_ne (by decide), tx_ne (by decide), tx_ne (by decide), tx_ne (by decide), tx_ne (by decide), tx_ne (by decide), tx_ne (by decide), tx_ne (by decide), tx_ne (by decide), tx_ne (by decide), tx_ne (by decide), tx_ne (by decide)⟩))))))
  by_cases q6 : op = [97, 98, 115]
  · subst q6
    exact .inr (.inr (.inr (.inr (.inr (.inr (.inl (⟨rfl, tx_ne (by decide), tx_ne (by decide), tx_ne (by decide), tx_ne (by decide), tx_ne (by decide), tx_ne (by decide), tx_same _, tx_ne (by decide), tx_ne (by decide), tx_ne (by decide), tx_ne (by decide), tx_ne (by decide), tx_ne (by decide), tx_ne (by decide), tx_ne (by decide), tx_ne (by decide), tx_ne (by decide), tx_ne (by decide), tx_ne (by decide), tx_ne (by decide)⟩)))))))
  by_cases q7 : op = [111, 114]
  · subst q7
    exact .inr (.inr (.inr (.inr (.inr (.inr (.inr (.inl (⟨rfl, tx_ne (by decide), tx_ne (by decide), tx_ne (by decide), tx_ne (by decide), tx_ne (by decide), tx_ne (by decide), tx_ne (by decide), tx_same _, tx_ne (by decide), tx_ne (by decide), tx_ne (by decide), tx_ne (by decide), tx_ne (by decide), tx_ne (by decide), tx_ne (by decide), tx_ne (by decide), tx_ne (by decide), tx_ne (by decide), tx_ne (by decide), tx_ne (by decide)⟩))))))))
  by_cases q8 : op = [97, 110, 100]
  · subst q8
    exact .inr (.inr (.inr (.inr (.inr (.inr (.inr (.inr (.inl (⟨rfl, tx_ne (by decide), tx_ne (by decide), tx_ne (by decide), tx_ne (by decide), tx_ne (by decide), tx_ne (by decide), tx_ne (by decide), tx_ne (by decide), tx_same _, tx_ne (by decide), tx_ne (by decide), tx_ne (by decide), tx_ne (by decide), tx_ne (by decide), tx_ne (by decide), tx_ne (by decide), tx_ne (by decide), tx_ne (by decide), tx_ne (by decide), tx_ne (by decide)⟩)))))))))
  by_cases q9 : op = [104, 97, 115]
  · subst q9
    exact .inr (.inr (.inr (.inr (.inr (.inr (.inr (.inr (.inr (.inl (⟨rfl, tx_ne (by decide), tx_ne (by decide), tx_ne (by decide), tx_ne (by decide), tx_ne (by decide), tx_ne (by decide), tx_ne (by decide), tx_ne (by decide), tx_ne (by decide), tx_same _, tx_ne (by decide), tx_ne (by decide), tx_ne (by decide), tx_ne (by decide), tx_ne (by decide), tx_ne (by decide), tx_ne (by decide), tx_ne (by decide), tx_ne (by decide), tx_ne (by decide)⟩))))))))))
  by_cases q10 : op = [61]
  · subst q10
    exact .inr (.inr (.inr (.inr (.inr (.inr (.inr (.inr (.inr (.inr (.inl (⟨rfl, tx_ne (by decide), tx_ne (by decide), tx_ne (by decide), tx_ne (by decide), tx_ne (by decide), tx_ne (by decide), tx_ne (by decide), tx_ne (by decide), tx_ne (by decide), tx_ne (by decide), tx_same _, tx_ne (by decide), tx_ne (by decide), tx_ne (by decide), tx_ne (by decide), tx_ne (by decide), tx_ne (by decide), tx_ne (by decide), tx_ne (by decide), tx_ne (by decide)⟩)))))))))))
  by_cases q11 : op = [33, 61]
  · subst q11
    exact .inr (.inr (.inr (.inr (.inr (.inr (.inr (.inr (.inr (.inr (.inr (.inl (⟨rfl, tx_ne (by decide), tx_ne (by decide), tx_ne (by decide), tx_ne (by decide), tx_ne (by decide), tx_ne (by decide), tx_ne (by decide), tx_ne (by decide), tx_ne (by decide), tx_ne (by decide), tx_ne (by decide), tx_same _, tx_ne (by decide), tx_ne (by decide), tx_ne (by decide), tx_ne (by decide), tx_ne (by decide), tx_ne (by decide), tx_ne (by decide), tx_ne (by decide)⟩))))))))))))
  by_cases q12 : op = [60]
  · subst q12
    exact .inr (.inr (.inr (.inr (.inr (.inr (.inr (.inr (.inr (.inr (.inr (.inr (.inl (⟨rfl, tx_ne (by decide), tx_ne (by decide), tx_ne (by decide), tx_ne (by decide), tx_ne (by decide), tx_ne (by decide), tx_ne (by decide), tx_ne (by decide), tx_ne (by decide), tx_ne (by decide), tx_ne (by decide), tx_ne (by decide), tx_same _, tx_ne (by decide), tx_ne (by decide), tx_ne (by decide), tx_ne (by decide), tx_ne (by decide), tx_ne (by decide), tx_ne (by decide)⟩)))))))))))))
  by_cases q13 : op = [60, 61]
  · subst q13
    exact .inr (.inr (.inr (.inr (.inr (.inr (.inr (.inr (.inr (.inr (.inr (.inr (.inr (.inl (⟨rfl, tx_ne (by decide), tx_ne (by decide), tx_ne (by decide), tx_ne (by decide), tx_ne (by decide), tx_ne (by decide), tx_ne (by decide), tx_ne (by decide), tx_ne (by decide), tx_ne (by decide), tx_ne (by decide), tx_ne (by decide), tx_ne (by decide), tx_same _, tx_ne (by decide), tx_ne (by decide), tx_ne (by decide), tx_ne (by decide), tx_ne (by decide), tx_ne (by decide)⟩))))))))))))))
  by_cases q14 : op = [62]
  · subst q14
    exact .inr (.inr (.inr (.inr (.inr (.inr (.inr (.inr (.inr (.inr (.inr (.inr (.inr (.inr (.inl (⟨rfl, tx_ne (by decide), tx_ne (by decide), tx_ne (by decide), tx_ne (by decide), tx_ne (by decide), tx_ne (by decide), tx_ne (by decide), tx_ne (by decide), tx_ne (by decide), tx_ne (by decide), tx_ne (by decide), tx_ne (by decide), tx_ne (by decide), tx_ne (by decide), tx_same _, tx_ne (by decide), tx_ne (by decide), tx_ne (by decide), tx_ne (by decide), tx_ne (by decide)⟩)))))))))))))))
  by_cases q15 : op = [62, 61]
  · subst q15
    exact .inr (.inr (.inr (.inr (.inr (.inr (.inr (.inr (.inr (.inr (.inr (.inr (.inr (.inr (.inr (.inl (⟨rfl, tx_ne (by decide), tx_ne (by decide), tx_ne (by decide), tx_ne (by decide), tx_ne (by decide), tx_ne (by decide), tx_ne (by decide), tx_ne (by decide), tx_ne (by decide), tx_ne (by decide), tx_ne (by decide), tx_ne (by decide), tx_ne (by decide), tx_ne (by decide), tx_ne (by decide), tx_same _, tx_ne (by decide), tx_ne (by decide), tx_ne (by decide), tx_ne (by decide)⟩))))))))))))))))
  by_cases q16 : op = [43]
  · subst q16
    exact .inr (.inr (.inr (.inr (.inr (.inr (.inr (.inr (.inr (.inr (.inr (.inr (.inr (.inr (.inr (.inr (.inl (⟨rfl, tx_ne (by decide), tx_ne (by decide), tx_ne (by decide), tx_ne (by decide), tx_ne (by decide), tx_ne (by decide), tx_ne (by decide), tx_ne (by decide), tx_ne (by decide), tx_ne (by decide), tx_ne (by decide), tx_ne (by decide), tx_ne (by decide), tx_ne (by decide), tx_ne (by decide), tx_ne (by decide), tx_same _, tx_ne (by decide), tx_ne (by decide), tx_ne (by decide)⟩)))))))))))))))))
  by_cases q17 : op = [45]
  · subst q17
    exact .inr (.inr (.inr (.inr (.inr (.inr (.inr (.inr (.inr (.inr (.inr (.inr (.inr (.inr (.inr (.inr (.inr (.inl (⟨rfl, tx_ne (by decide), tx_ne (by decide), tx_ne (by decide), tx_ne (by decide), tx_ne (by decide), tx_ne (by decide), tx_ne (by decide), tx_ne (by decide), tx_ne (by decide), tx_ne (by decide), tx_ne (by decide), tx_ne (by decide), tx_ne (by decide), tx_ne (by decide), tx_ne (by decide), tx_ne (by decide), tx_ne (by decide), tx_same _, tx_ne (by decide), tx_ne (by decide)⟩))))))))))))))))))
  by_cases q18 : op = [42]
  · subst q18
    exact .inr (.inr (.inr (.inr (.inr (.inr (.inr (.inr (.inr (.inr (.inr (.inr (.inr (.inr (.inr (.inr (.inr (.inr (.inl (⟨rfl, tx_ne (by decide), tx_ne (by decide), tx_ne (by decide), tx_ne (by decide), tx_ne (by decide), tx_ne (by decide), tx_ne (by decide), tx_ne (by decide), tx_ne (by decide), tx_ne (by decide), tx_ne (by decide), tx_ne (by decide), tx_ne (by decide), tx_ne (by decide), tx_ne (by decide), tx_ne (by decide), tx_ne (by decide), tx_ne (by decide), tx_same _, tx_ne (by decide)⟩)))))))))))))))))))
  by_cases q19 : op = [47]
  · subst q19
    exact .inr (.inr (.inr (.inr (.inr (.inr (.inr (.inr (.inr (.inr (.inr (.inr (.inr (.inr (.inr (.inr (.inr (.inr (.inr (.inl (⟨rfl, tx_ne (by decide), tx_ne (by decide), tx_ne (by decide), tx_ne (by decide), tx_ne (by decide), tx_ne (by decide), tx_ne (by decide), tx_ne (by decide), tx_ne (by decide), tx_ne (by decide), tx_ne (by decide), tx_ne (by decide), tx_ne (by decide), tx_ne (by decide), tx_ne (by decide), tx_ne (by decide), tx_ne (by decide), tx_ne (by decide), tx_ne (by decide), tx_same _⟩))))))))))))))))))))
  exact .inr (.inr (.inr (.inr (.inr (.inr (.inr (.inr (.inr (.inr (.inr (.inr (.inr (.inr (.inr (.inr (.inr (.inr (.inr (.inr (⟨⟨q0, q1, q2, q3, q4, q5, q6, q7, q8, q9, q10, q11, q12, q13, q14, q15, q16, q17, q18, q19⟩, tx_ne q0, tx_ne q1, tx_ne q2, tx_ne q3, tx_ne q4, tx_ne q5, tx_ne q6, tx_ne q7, tx_ne q8, tx_ne q9, tx_ne q10, tx_ne q11, tx_ne q12, tx_ne q13, tx_ne q14, tx_ne q15, tx_ne q16, tx_ne q17, tx_ne q18, tx_ne q19⟩))))))))))))))))))))
end Go.Proofs.YtmhfnpabgkkjaaaGreat
