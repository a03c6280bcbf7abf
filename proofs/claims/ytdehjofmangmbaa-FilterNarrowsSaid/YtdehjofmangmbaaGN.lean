/- Walks: the law FilterNarrows. -/
import Derived.Test.YtdehjofmangmbaaFU
namespace Go.Proofs.Ytdehjofmangmbaa
open Go.RowKit Go.Shelf
theorem nar_one (s q m : Bs) : (ksS s (q ++ 32 :: m)).isSome = true → (ksS s q).isSome = true ∧ (fnd0 (ksS s q)).rank ≤ (fnd0 (ksS s (q ++ 32 :: m))).rank ∧ (fnd0 (ksS s q)).gaps ≤ (fnd0 (ksS s (q ++ 32 :: m))).gaps := by
  intro h
  cases hk : ksS s (q ++ 32 :: m) with
  | none => rw [hk] at h; cases h
  | some f =>
    obtain ⟨P, e⟩ := wds_blank q m
    unfold ksS at hk
    rw [e] at hk
    obtain ⟨g, h1, h2, h3⟩ := kep_app _ _ _ _ hk
    have h1' : ksS s q = some g := h1
    rw [h1']
    exact ⟨rfl, h2, h3⟩
theorem nar_len (opts : List Bs) (q m : Bs) : ∀ n, (plcN (wds (q ++ 32 :: m)) opts n).length ≤ (plcN (wds q) opts n).length
  | 0 => Nat.le_refl _
  | n + 1 => by
    have ih := nar_len opts q m n
    rw [plcN_succ, plcN_succ, List.length_append, List.length_append]
    have h1 := nar_one (opts.getD n []) q m
    unfold ksS at h1
    cases hk : kepS (clS (opts.getD n [])) (wds (q ++ 32 :: m)) with
    | none => simp only [List.length_nil]; omega
    | some f =>
      rw [hk] at h1
      have h2 := (h1 rfl).1
      cases hg : kepS (clS (opts.getD n [])) (wds q) with
      | none => rw [hg] at h2; cases h2
      | some g => simp only [List.length_cons, List.length_nil]; omega
theorem sieT_len (q : Bs) (opts : List Bs) : (sieT q opts).length = (plcN (wds q) opts opts.length).length := by
  unfold sieT
  rw [List.length_map, (sie_perm (wds q) opts).length_eq, plcN_all]
set_option maxRecDepth 100000 in
set_option maxHeartbeats 4000000 in
theorem narrows_law (x y : Bs) (x0 : Option Addr) (n0 c0 : Nat) (ss : List Bs) (w : World) (hc0 : n0 ≤ c0) (hs0 : StrsV w x0 n0 ss) : Calls Try.prog 3 #[.string (tx x), .string (tx y), .slice x0 n0 c0] w fun e w' => e = .returned (.bool true) ∧ Below w.heap.size w w' := by
  have HX := Lib.hid (fun W => lcut x W)
  have HY := Lib.hid (fun W => lcut y W)
  have hq : (x.take 60).length ≤ 60 := by rw [List.length_take]; omega
  have hm : (y.take 60).length ≤ 60 := by rw [List.length_take]; omega
  generalize x.take 60 = q at HX hq
  generalize y.take 60 = m at HY hm
  generalize tx x = TX at HX ⊢
  generalize tx y = TY at HY ⊢
  have HFE := Lib.hid (lfew x0 n0 c0 ss hc0 w hs0)
  have hsh := fewL_short ss 40
  have hln : (fewL ss 40).length ≤ 40 := by unfold fewL; rw [List.length_map, List.length_take]; omega
  generalize fewL ss 40 = L at HFE hsh hln
  have hqm : (q ++ 32 :: m).length ≤ 200 := by simp; omega
  have hqt : tx q ++ ⟨#[32]⟩ ++ tx m = tx (q ++ 32 :: m) := by unfold tx; apply ByteArray.ext; apply Array.ext'; simp
  have HCA := Lib.hid (fun (s : Bs) (hs : s ∈ L) W => wcost s (q ++ 32 :: m) (by have := hsh s hs; omega) (by omega) W)
  have HCB := Lib.hid (fun (s : Bs) (hs : s ∈ L) W => wcost s q (by have := hsh s hs; omega) (by omega) W)
  have HSA := Lib.hid (fun v W (h : TxV W v L) => wsieve (q ++ 32 :: m) v L (by omega) (fun s hs => by have := hsh s hs; omega) W h)
  have HSB := Lib.hid (fun v W (h : TxV W v L) => wsieve q v L (by omega) (fun s hs => by have := hsh s hs; omega) W h)
  rw [← hqt] at HCA HSA
  have HNA := Lib.hid (fun s => nar_one s q m)
  have HNL : Hid ((sieT (q ++ 32 :: m) L).length ≤ (sieT q L).length) := Lib.hid (by rw [sieT_len, sieT_len]; exact nar_len L q m _)
  unfold RkEnd at HCA HCB
  unfold SvEnd at HSA HSB
  generalize sieT (q ++ 32 :: m) L = l1 at HSA HNL
  generalize sieT q L = l2 at HSB HNL
  generalize q ++ 32 :: m = qm at HCA HNA hqm
  have hs1 : (tx q).size ≤ 60 := by simpa [tx, ByteArray.size] using hq
  have hs2 : (tx m).size ≤ 60 := by simpa [tx, ByteArray.size] using hm
  have hs3 : (⟨#[32]⟩ : ByteArray).size = 1 := rfl
  have hs4 : (tx q ++ ⟨#[32]⟩).size ≤ 61 := by rw [ByteArray.size_append]; omega
  generalize tx q = TQ at HX HCA HCB HSA HSB hs1 hs4
  generalize tx m = TM at HY HCA HSA hs2
  clear hq hm hqt hsh hs0 hc0
  go_enter Try.func3, Try.ntmps3
  go_wp2_with (first | (go_at_call 4; fail))
  refine (HX.out w).mono ?_
  rintro e w' ⟨rfl, rfl⟩
  go_wp2_with (first | (go_at_call 4; fail))
  refine (HY.out w).mono ?_
  rintro e w' ⟨rfl, rfl⟩
  go_wp2_with (first | (go_at_call 5; fail))
  refine HFE.out.mono ?_
  rintro e w1 ⟨v1, rfl, hv1, hb1⟩
  have ht1 := TxV.of_row hv1 (by omega)
  have HT1 := Lib.hid ht1
  have HB1 := Lib.hid hb1
  obtain ⟨x1, c1, rfl, hc1, _, hget⟩ := ht1.old
  have HG := Lib.hid hget
  clear hv1 hb1 ht1 HFE hget
  go_wp2
  go_loopw [7] (fun iv wr => ∃ k : Nat, iv = .int .i64 (k : Int) ∧ k ≤ L.length ∧ Hid (Below w1.heap.size w1 wr)) (fun iv _ => L.length - (intOf iv).toNat)
  case atStart => exact ⟨0, rfl, Nat.zero_le _, Lib.hid (Below.refl _ _)⟩
  case round =>
    obtain ⟨k, rfl, hk, HB⟩ := hrel
    have i1 : (0 : Int) ≤ (k : Int) := by omega
    by_cases hlt : k < L.length
    · have i2 : (k : Int) < (L.length : Int) := by omega
      obtain ⟨g, o, rfl, hg, hcell⟩ := HG.out (List.ne_nil_of_length_pos (by omega))
      have HC := Lib.hid (fun W (hW : Below w1.heap.size w1 W) => (hW.cell (p := ⟨g, o + k, none⟩) hg).trans (hcell k hlt))
      have hmem : L.getD k [] ∈ L := by rw [List.getD_eq_getElem?_getD, List.getElem?_eq_getElem hlt]; exact List.getElem_mem _
      have HA := Lib.hid (fun W => HCA.out _ hmem W)
      have HBq := Lib.hid (fun W => HCB.out _ hmem W)
      have HN := Lib.hid (HNA.out (L.getD k []))
      generalize tx (L.getD k []) = TS at HC HA HBq
      generalize fnd0 (ksS (L.getD k []) qm) = f1 at HA HN
      generalize fnd0 (ksS (L.getD k []) q) = f2 at HBq HN
      generalize (ksS (L.getD k []) qm).isSome = s1 at HA HN
      generalize (ksS (L.getD k []) q).isSome = s2 at HBq HN
      generalize f1.rank = r1 at HA HN
      generalize f1.gaps = p1 at HA HN
      generalize f2.rank = r2 at HBq HN
      generalize f2.gaps = p2 at HBq HN
      have ce := HC.out wr HB.out
      clear hcell hmem hg
      go_wp2_with (first | (go_at_call 6; fail))
      refine (HA.out wr).mono ?_
      rintro e w2 ⟨rfl, hb2⟩
      have HB2 := Lib.hid (HB.out.trans (below_le hb2 HB.out.size))
      have ce2 := HC.out w2 HB2.out
      clear hb2 HB ce HA
      go_wp2_with (first | (go_at_call 6; fail))
      refine (HBq.out w2).mono ?_
      rintro e w3 ⟨rfl, hb3⟩
      have HB3 := Lib.hid (HB2.out.trans (below_le hb3 HB2.out.size))
      clear hb3 HB2 ce2 HBq
      cases s1 with
      | false =>
        clear HN
        go_wp2
        go_roundw
        case rel => exact ⟨k + 1, by go_num, by omega, HB3⟩
        case measure => simp [intOf]; omega
      | true =>
        obtain ⟨rfl, h2, h3⟩ := HN.out rfl
        have j1 : ¬ (r1 : Int) < (r2 : Int) := by omega
        have j2 : ¬ (p1 : Int) < (p2 : Int) := by omega
        clear HN h2 h3
        go_wp2
        go_roundw
        case rel => exact ⟨k + 1, by go_num, by omega, HB3⟩
        case measure => simp [intOf]; omega
    · obtain rfl : k = L.length := by omega
      have i2 : ¬ (L.length : Int) < (L.length : Int) := by omega
      have HT2 := Lib.hid (HT1.out.below HB.out)
      clear HG
      go_wp2_with (first | (go_at_call 7; fail))
      refine (HSA.out _ wr HT2.out).mono ?_
      rintro e w2 ⟨v2, rfl, hv2, hb2⟩
      obtain ⟨x2, c2, rfl⟩ := hv2.is
      have HB2 := Lib.hid (HB.out.trans (below_le hb2 HB.out.size))
      have HT3 := Lib.hid (HT2.out.below hb2)
      clear hv2 hb2 HB HT2
      go_wp2_with (first | (go_at_call 7; fail))
      refine (HSB.out _ w2 HT3.out).mono ?_
      rintro e w3 ⟨v3, rfl, hv3, hb3⟩
      obtain ⟨x3, c3, rfl⟩ := hv3.is
      have HB3 := Lib.hid (HB2.out.trans (below_le hb3 HB2.out.size))
      have j1 : (l1.length : Int) ≤ (l2.length : Int) := by have := HNL.out; omega
      clear hv3 hb3 HB2 HT3
      go_wp2_with (first | (go_at_call 8; fail))
      refine (wawake w3).mono ?_
      rintro e w4 ⟨rfl, hb4⟩
      have HB4 := Lib.hid (HB1.out.trans (below_le (HB3.out.trans (below_le hb4 HB3.out.size)) HB1.out.size))
      clear hb4
      go_wp2
      go_ret
      exact ⟨rfl, HB4.out⟩
theorem narrows_any (x y : ByteArray) (x0 : Option Addr) (n0 c0 : Nat) (ss : List Bs) (w : World) (hc0 : n0 ≤ c0) (hs0 : StrsV w x0 n0 ss) : Calls Try.prog 3 #[.string x, .string y, .slice x0 n0 c0] w fun e w' => e = .returned (.bool true) ∧ Below w.heap.size w w' := by
  have h := narrows_law x.data.toList y.data.toList x0 n0 c0 ss w hc0 hs0
  rw [txo, txo] at h
  exact h
end Go.Proofs.Ytdehjofmangmbaa
