/- Walks: same, texts; Drop of the program. -/
import Derived.Test.YthkcfdnenbboaaaK36
namespace Go.Proofs.Ythkcfdnenbboaaa
open Go.RowKit Go.Shelf Go.Maps Go.Sort Go.ChangeMaps
theorem neq_bd (w : World) (b : Bd) : (binOp .neq 91 (.agg #[.string b.1, .int .i64 b.2]) (.agg #[.string b.1, .int .i64 b.2])).run Try.prog w = .ok (.bool false) w := by
  have h : (Op.equalIn 10000 91 (.agg #[.string b.1, .int .i64 b.2]) (.agg #[.string b.1, .int .i64 b.2])).run Try.prog w = .ok ((b.1.toList == b.1.toList) && ((b.2 == b.2) && true)) w := by
    rw [run_equalIn_agg _ _ _ _ _ (by kernel_rfl) (by kernel_rfl)]
    have e : (Try.prog.fieldsOf 91).toList = [⟨"Name", 9, 0, false, "", "", 0⟩, ⟨"A", 30, 1, false, "", "", 16⟩] := by kernel_rfl
    rw [e]
    refine eqFields_cons (by decide) (a := .string b.1) (b := .string b.1) (by kernel_rfl) (by kernel_rfl) (by simp [go_sem]) ?_
    exact eqFields_cons (by decide) (a := .int .i64 b.2) (b := .int .i64 b.2) (by kernel_rfl) (by kernel_rfl) (by simp [go_sem]) eqFields_nil
  rw [run_neq_struct, h]
  simp
set_option maxHeartbeats 2000000 in
theorem wsame {w : World} {x y : Option Addr} {n c c' : Nat} {L : List Bd} (h : RowB w x n c L) (h' : RowB w y n c' L) (hn : n ≤ 100000) : Calls Try.prog 32 #[.slice x n c, .slice y n c'] w fun e w' => e = .returned (.bool true) ∧ Below w.heap.size w w' := by
  have H := Lib.hid h
  have H' := Lib.hid h'
  have h1 := h.2.1
  have h2 := h'.2.1
  clear h h'
  go_enter Try.func32, Try.ntmps32
  go_wp2_with fail
  go_loopg [5] n (fun gh i wr => ∃ k : Nat, k + gh = n ∧ i = .int .i64 k ∧ Hid (Below w.heap.size w wr))
  case atStart => exact ⟨0, by omega, rfl, Lib.hid (Below.refl _ _)⟩
  case round =>
    obtain ⟨k, hk, rfl, HB⟩ := hrel
    by_cases hlt : k < n
    · obtain ⟨g, rfl, hg, a1, a2⟩ := (H.out.below HB.out).cells hlt
      obtain ⟨g', rfl, hg', b1, b2⟩ := (H'.out.below HB.out).cells hlt
      obtain ⟨b, hb⟩ : ∃ b, b = bn L k := ⟨_, rfl⟩
      rw [← hb] at a1 a2 b1 b2
      have hq := fun W => neq_bd W b
      clear hb
      go_wp2_with fail
      go_quiet (fail)
      go_wp2
      go_roundg (gk - 1)
      case measure => omega
      case rel => exact ⟨k + 1, by omega, by go_num, Lib.hid (below_drewN HB.out _)⟩
    · have hkn : k = n := by omega
      go_wp2
      go_ret
      exact ⟨rfl, HB.out⟩
theorem SeesS.below {w w' : World} {x : Option Addr} {n : Nat} {l : List ByteArray} (h : SeesS w x n l) (hb : Below w.heap.size w w') : SeesS w' x n l := by
  refine ⟨h.1, fun hp => ?_⟩
  obtain ⟨g, e, hg, hc⟩ := h.2 hp
  exact ⟨g, e, by have := hb.size; omega, fun i hi => (hb.cell (p := ⟨g, i, none⟩) hg).trans (hc i hi)⟩
set_option maxHeartbeats 2000000 in
theorem wtexts {w : World} {x y : Option Addr} {n c c' : Nat} {l : List ByteArray} (h : SeesS w x n l) (h' : SeesS w y n l) (hn : n ≤ 100000) : Calls Try.prog 33 #[.slice x n c, .slice y n c'] w fun e w' => e = .returned (.bool true) ∧ Below w.heap.size w w' := by
  have H := Lib.hid h
  have H' := Lib.hid h'
  clear h h'
  go_enter Try.func33, Try.ntmps33
  go_wp2_with fail
  go_loopg [5] n (fun gh i wr => ∃ k : Nat, k + gh = n ∧ i = .int .i64 k ∧ Hid (Below w.heap.size w wr))
  case atStart => exact ⟨0, by omega, rfl, Lib.hid (Below.refl _ _)⟩
  case round =>
    obtain ⟨k, hk, rfl, HB⟩ := hrel
    by_cases hlt : k < n
    · obtain ⟨g, rfl, hg, hc⟩ := (H.out.below HB.out).2 (by omega)
      obtain ⟨g', rfl, hg', hc'⟩ := (H'.out.below HB.out).2 (by omega)
      have a1 := hc k hlt
      have b1 := hc' k hlt
      obtain ⟨s, hs⟩ : ∃ s, s = l.getD k ByteArray.empty := ⟨_, rfl⟩
      rw [← hs] at a1 b1
      clear hs hc hc'
      go_wp2_with fail
      go_quiet (fail)
      go_wp2
      go_roundg (gk - 1)
      case measure => omega
      case rel => exact ⟨k + 1, by omega, by go_num, Lib.hid (below_drewN HB.out _)⟩
    · have hkn : k = n := by omega
      go_wp2
      go_ret
      exact ⟨rfl, HB.out⟩
theorem keepD {w w1 W' : World} {b mb m c : Nat} {f : Bnd} {k : Ky} (h : MapI w1 b mb m c f) (hk : KyAt w1 w.heap.size k) (hmb : mb < w.heap.size) (hbm : b ≠ mb) (hB : But [mb] w1 W') :
    W'.cell? ⟨b, 0, none⟩ = some (.map (some mb)) ∧ W'.cell? ⟨w.heap.size, 0, none⟩ = some (.int .i64 k.code) ∧ W'.cell? ⟨w.heap.size, 1, none⟩ = some (.string k.s) ∧ W'.cell? ⟨w.heap.size, 2, none⟩ = some (.int .i64 k.n) ∧ W'.cell? ⟨w.heap.size, 3, none⟩ = some (.bool k.alt) ∧ W'.cell? ⟨w.heap.size, 4, none⟩ = some (.bool k.shift) ∧ W'.cell? ⟨w.heap.size, 5, none⟩ = some (.bool k.ctl) := by
  have hk' : KyAt W' w.heap.size k := hB.heap hk (by simp; omega)
  obtain ⟨c0, c1, c2, c3, c4, c5, _, _⟩ := hk'.get
  have hc : W'.heap[b]? = some (.cells #[.map (some mb)] 68 (0, 0)) := hB.heap h.cells (by simp; exact hbm)
  exact ⟨by simp [World.cell?, hc], c0, c1, c2, c3, c4, c5⟩
def dropF (f : Bnd) (n : List UInt8) : Bnd := if f.hasN n then f.del (mkS n) else f
def dropC (f : Bnd) (c : Nat) (n : List UInt8) : Nat := if f.hasN n then c - 1 else c
def DropPEnd (w : World) (b mb m c : Nat) (f : Bnd) (n : List UInt8) (e : Ending) (w' : World) : Prop :=
  e = .returned (.bool (f.hasN n)) ∧ MapI w' b mb m (dropC f c n) (dropF f n) ∧ But [mb] w w'
set_option maxRecDepth 100000 in
set_option maxHeartbeats 4000000 in
theorem wdrop {w : World} {b mb m c : Nat} {f : Bnd} (h : MapI w b mb m c f) (k : Ky) (hk : k.In) : Calls Try.prog 25 #[.pointer (some ⟨b, 0, none⟩), k.v] w (DropPEnd w b mb m c f k.name) := by
  have HM := Lib.hid h
  have HN := Lib.hid (fun W => wnameS k hk W)
  have HS := Lib.hid (name_sz k hk)
  have hb := h.get.2.1
  have hmb := h.get.2.2.1
  have hbm := h.get.2.2.2
  have hbox : Below w.heap.size w (w.alloc (.cells (kyCells k) 27)) := (Below.refl _ _).alloc (Nat.le_refl _) _
  have HA := Lib.hid (wactM (h.below hbox) k hk)
  have H0 := Lib.hid (h.below hbox)
  have HK0 := Lib.hid (show KyAt (w.alloc (.cells (kyCells k) 27)) w.heap.size k from heap_alloc_new _ _)
  have HB0 := Lib.hid hbox
  obtain ⟨nm, hnm⟩ : ∃ nm, nm = k.name := ⟨_, rfl⟩
  rw [← hnm] at HN HS HA ⊢
  clear h hk hnm hbox
  obtain ⟨kc, ks, kn, kal, ksh, kct⟩ := k
  unfold Ky.v at HN HA ⊢
  unfold kyCells at HA H0 HK0 HB0
  simp only [] at HN HA H0 HK0 HB0
  go_enter Try.func25, Try.ntmps25
  go_wp2_with (first | (go_at_call 29; fail))
  go_at_call 29
  refine HA.out.mono ?_
  rintro e w1 ⟨rfl, hb1⟩
  have H1 := Lib.hid (H0.out.below hb1)
  have HB1 := Lib.hid (HB0.out.trans (below_le hb1 HB0.out.size))
  have HK1 : Hid (KyAt w1 w.heap.size ⟨kc, ks, kn, kal, ksh, kct⟩) := HK0.out.kept HK0.out.get.2.2.2.2.2.2.2 hb1
  clear hb1 H0 HA HK0 HB0
  cases hh : f.hasN nm
  · have HH := Lib.hid hh
    clear hh
    go_wp2
    go_ret
    refine ⟨by rw [HH.out]; rfl, ?_, But.of HB1.out⟩
    rw [dropC, dropF, HH.out]
    exact HM.out.below HB1.out
  · have HH := Lib.hid hh
    clear hh
    go_upto_region 3 with (fail)
    go_cut [] (fun wx => Hid (MapI wx b mb m (dropC f c nm) (dropF f nm) ∧ But [mb] w wx))
    case first =>
      have HKP := Lib.hid (fun W' (h : But [mb] w1 W') => keepD H1.out HK1.out hmb hbm h)
      have hc0 := H1.out.get.1
      obtain ⟨c0, c1, c2, c3, c4, c5, _, _⟩ := HK1.out.get
      go_region_held3 (fun w' => w'.cell? ⟨b, 0, none⟩ = some (.map (some mb)) ∧ w'.cell? ⟨w.heap.size, 0, none⟩ = some (.int .i64 kc) ∧ w'.cell? ⟨w.heap.size, 1, none⟩ = some (.string ks) ∧ w'.cell? ⟨w.heap.size, 2, none⟩ = some (.int .i64 kn) ∧ w'.cell? ⟨w.heap.size, 3, none⟩ = some (.bool kal) ∧ w'.cell? ⟨w.heap.size, 4, none⟩ = some (.bool ksh) ∧ w'.cell? ⟨w.heap.size, 5, none⟩ = some (.bool kct))
        (first | exact HKP.out _ (But.refl _ _) | exact HKP.out _ (But.refl _ _).drew | exact HKP.out _ ((But.refl _ _).drew.below HB2.out) | exact HKP.out _ (((But.refl _ _).drew.below HB2.out).grown HG3.out (fun j e => by simp at e; simp [e])))
        ((go_at_call 17; refine (HN.out _).mono ?_; rintro e w2 ⟨rfl, hB2⟩; obtain ⟨w3, hrun, hM3, hg3⟩ := ((H1.out.keep (w' := w1.drew) ((But.refl [] w1).drew) List.not_mem_nil List.not_mem_nil).below hB2).map.drop (mkS nm) HS.out 0; have HM3 := Lib.hid hM3; have HG3 := Lib.hid hg3; have HB2 := Lib.hid hB2; clear hM3 hg3 hB2))
      go_wp2_with (fail)
      go_meet
      have hT := ((H1.out.keep (w' := w1.drew) ((But.refl [] w1).drew) List.not_mem_nil List.not_mem_nil).below HB2.out).turned HM3.out HG3.out
      have hh : f.has (mkS nm) = true := by
        have h := HH.out
        unfold Bnd.hasN at h
        split at h
        · cases h
        · exact h
      rw [hh, if_pos rfl] at hT
      refine Lib.hid ⟨?_, (But.of (HB1.out.trans ((Below.refl _ _).drew.trans (below_le HB2.out HB1.out.size)))).trans (hT.2.sub (fun j hj _ => hj))⟩
      rw [dropC, dropF, HH.out, if_pos rfl, if_pos rfl]
      exact hT.1
    have HE := hcut
    clear hcut
    go_wp2
    go_ret
    exact ⟨by rw [HH.out]; rfl, HE.out.1, HE.out.2⟩
end Go.Proofs.Ythkcfdnenbboaaa
