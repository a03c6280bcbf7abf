/- Walk: named. -/
import Derived.Test.YtfalcmbjjlgoaaaGreatDoorQC
namespace Go.Proofs.YtfalcmbjjlgoaaaGreatDoor
open Go.RowKit Go.Shelf
attribute [local go_sem] run_store_float
/-- A name, or what a word does to rules. -/
def namedP (ok : Bool) (R : List Tok → Option (Tree × List Tok)) (ts : List Tok) (x : Bs) : Option (Tree × List Tok) :=
  if x = wor ∨ x = wand ∨ x = wnot then none
  else match adv ok ts with
  | none => none
  | some r =>
    if x = wlen ∨ x = wabs then (match inside ok R r with
      | none => none
      | some (a, r') => some (one x a, r'))
    else if x = whas then hasP ok R r
    else some (.mk wname 0 x [], r)
theorem tx_ne {a b : Bs} (h : a ≠ b) : ((tx a).toList == b) = false := by rw [tx_toList]; simpa using h
theorem tx_same (a : Bs) : ((tx a).toList == a) = true := by rw [tx_toList]; simp
/-- A name's node. -/
theorem node_leaf (A : Nat → Prop) (w : World) (op x : Bs) (n : Nat) : NodeV A w (.agg #[.string (tx op), .float .f64 n, .string (tx x), .slice none 0 0]) (.mk op n x []) :=
  ⟨none, 0, rfl, Nat.le_refl _, fun _ => rfl, fun a ha => by cases ha⟩
/-- next, from where a piece stands. -/
def NextC (r : Nat) (s : Bs) (ok : Bool) : Prop := ∀ ts W, ts ≠ [] → St r s ok ts W → Calls Tryz.prog 37 #[.pointer (some ⟨r, 0, none⟩)] W (AdvEnd r s ok (adv ok ts) W)
set_option maxRecDepth 100000 in
set_option maxHeartbeats 4000000 in
theorem wnamed_bad (V : Bs → Nat) (s : Bs) (ok : Bool) (n : Nat) (x : Bs) (hx : x = wor ∨ x = wand ∨ x = wnot) (r : Nat) (ts : List Tok) (w : World) (hst : St r s ok ts w) :
    Calls Tryz.prog 133 #[.pointer (some ⟨r, 0, none⟩), .string (tx x)] w (PEnd r s ok (namedP ok (P V ok n .or) ts x) w) := by
  have HI := Lib.hid (RI.start (v0 := .string ⟨#[]⟩) (v1 := .float .f64 0) (v2 := .string ⟨#[]⟩) (v3 := .slice none 0 0) hst)
  have HV : Hid (namedP ok (P V ok n .or) ts x = none) := Lib.hid (by unfold namedP; rw [if_pos hx])
  rw [HV.out]
  clear hst HV
  rcases hx with rfl | rfl | rfl
  · have b1 := tx_same wor
    unfold wor at b1 ⊢
    generalize tx [111, 114] = T at b1 ⊢
    go_enter Tryz.func133, Tryz.ntmps133
    go_wp2
    exact ⟨rfl, HI.out.bt, .inl ⟨rfl, rfl⟩⟩
  · have b1 := tx_same wand
    have b2 : ((tx wand).toList == [111, 114]) = false := tx_ne (by decide)
    unfold wand at b1 b2 ⊢
    generalize tx [97, 110, 100] = T at b1 b2 ⊢
    go_enter Tryz.func133, Tryz.ntmps133
    go_wp2
    exact ⟨rfl, HI.out.bt, .inl ⟨rfl, rfl⟩⟩
  · have b1 := tx_same wnot
    have b2 : ((tx wnot).toList == [111, 114]) = false := tx_ne (by decide)
    have b3 : ((tx wnot).toList == [97, 110, 100]) = false := tx_ne (by decide)
    unfold wnot at b1 b2 b3 ⊢
    generalize tx [110, 111, 116] = T at b1 b2 b3 ⊢
    go_enter Tryz.func133, Tryz.ntmps133
    go_wp2
    exact ⟨rfl, HI.out.bt, .inl ⟨rfl, rfl⟩⟩
set_option maxRecDepth 100000 in
set_option maxHeartbeats 4000000 in
theorem wnamed_name (V : Bs → Nat) (s : Bs) (ok : Bool) (hs : s.length ≤ 1000000) (n : Nat) (x : Bs) (hx : x ≠ wor ∧ x ≠ wand ∧ x ≠ wnot ∧ x ≠ wlen ∧ x ≠ wabs ∧ x ≠ whas) (r : Nat) (ts : List Tok) (w : World) (hne : ts ≠ []) (hst : St r s ok ts w) :
    Calls Tryz.prog 133 #[.pointer (some ⟨r, 0, none⟩), .string (tx x)] w (PEnd r s ok (namedP ok (P V ok n .or) ts x) w) := by
  have HI := Lib.hid (RI.start (v0 := .string ⟨#[]⟩) (v1 := .float .f64 0) (v2 := .string ⟨#[]⟩) (v3 := .slice none 0 0) hst)
  have HV : Hid (namedP ok (P V ok n .or) ts x = match adv ok ts with | none => none | some r => some (.mk wname 0 x [], r)) := Lib.hid (by
    unfold namedP
    rw [if_neg (fun h => h.elim hx.1 (fun h => h.elim hx.2.1 hx.2.2.1))]
    cases adv ok ts with
    | none => rfl
    | some r => simp only; rw [if_neg (fun h => h.elim hx.2.2.2.1 hx.2.2.2.2.1), if_neg hx.2.2.2.2.2])
  obtain ⟨res, hres⟩ : ∃ y, y = namedP ok (P V ok n .or) ts x := ⟨_, rfl⟩
  rw [← hres] at HV ⊢
  have HA := Lib.hid (fun W h => wadv r s ok ts hs hne W h)
  have b1 : ((tx x).toList == [111, 114]) = false := tx_ne hx.1
  have b2 : ((tx x).toList == [97, 110, 100]) = false := tx_ne hx.2.1
  have b3 : ((tx x).toList == [110, 111, 116]) = false := tx_ne hx.2.2.1
  have b4 : ((tx x).toList == [108, 101, 110]) = false := tx_ne hx.2.2.2.1
  have b5 : ((tx x).toList == [97, 98, 115]) = false := tx_ne hx.2.2.2.2.1
  have b6 : ((tx x).toList == [104, 97, 115]) = false := tx_ne hx.2.2.2.2.2
  clear hst hres hx hne hs
  go_enter Tryz.func133, Tryz.ntmps133
  go_wp2_with (first | (go_at_call 37; fail))
  clear b1 b2 b3 b4 b5 b6
  generalize w.alloc (.cells #[.string ⟨#[]⟩, .float .f64 0, .string ⟨#[]⟩, .slice none 0 0] 25) = W0 at HI ⊢
  refine (HA.out W0 HI.out.st).mono ?_
  rintro e w3 ⟨hb3, ⟨h1, rfl⟩ | ⟨t1, h1, rfl, hst3⟩⟩
  · have HB := Lib.hid (And.intro hb3 h1)
    clear hb3 h1
    go_wp2
    exact ⟨rfl, HI.out.bt.trans HB.out.1, .inl ⟨by rw [HV.out, HB.out.2], rfl⟩⟩
  have HI3 := Lib.hid (HI.out.but hb3 hst3)
  have HT := Lib.hid h1
  obtain ⟨z0, z1, z2, z3, hz⟩ := HI3.out.res
  have HZ := Lib.hid hz
  obtain ⟨b0, b1, b2, b3, bf⟩ := hz.cells
  have f0 := bf 0
  have f1 := bf 1
  have f2 := bf 2
  have f3 := bf 3
  clear hz bf hb3 h1 hst3
  go_wp2
  rw [HV.out, HT.out]
  exact bodyPost_ret (node_res rfl _ _ w.heap.size _ _ _ _ rfl HZ.out.put.heap) rfl (RI.done HI3.out (node_leaf _ _ wname x 0))
end Go.Proofs.YtfalcmbjjlgoaaaGreatDoor
