/- Merged: KJ, KK. -/
import Derived.Test.YtbaljpamhmbcjaaKI
/- Walk: step at Older. -/
namespace Go.Proofs.Ytbaljpamhmbcjaa
open Go.RowKit Go.Shelf
set_option maxRecDepth 100000 in
set_option maxHeartbeats 4000000 in
theorem step_older (b m : Nat) (hm1 : 1 ≤ m) (hm2 : m ≤ 256) (L : List Bs) (hg : GoodL m L) (k : Wk) (hk : k.Fit L) (xb : Option Addr) (cb : Nat) (x : Option Addr) (c : Nat) (d8 : Nat) (q : Int) (hq : (d8 : Int).tmod 8 = q) (hd : q = 3 ∨ q = 4) (S T : Bs) (w : World) (h : His w b m L k xb cb) (hs : SeesL w x c L) :
    Calls Try.prog 19 #[.pointer (some ⟨b, 0, none⟩), rV m x L.length c k, .agg #[.int .u8 d8, .string (tx S), .string (tx T)]] w (StepEnd w b m) := by
  have hbl := h.lt
  have hkf := hk
  replace hk := hk.1
  have HNW := Lib.hid (fun W (hW : His W b m L k xb cb) => wHolder b m (by omega) L (by have := hg.1; omega) k hk xb cb (S.take 60) (T.take 60) W hW)
  have HRN := Lib.hid (fun W hW => rOlder m x c L (by have := hg.1; omega) k hk (S.take 60) (T.take 60) W hW)
  have HCS := Lib.hid (wcut60 S)
  have HCT := Lib.hid (wcut60 T)
  have HOK := Lib.hid (olderS_fit (d := S.take 60) (bg := T.take 60) hkf)
  have HGD := Lib.hid hg
  have HE : Hid (∀ k x n c, rV (m : Int) x n c k = .agg (hisCells m x n c k)) := Lib.hid (fun _ _ _ _ => rfl)
  unfold twoE at HNW
  unfold threeE at HRN
  obtain ⟨R, hR⟩ : ∃ R, R = olderS L k (S.take 60) (T.take 60) := ⟨_, rfl⟩
  rw [← hR] at HNW HRN HOK
  obtain ⟨k', s', t'⟩ := R
  obtain ⟨Y, hY⟩ : ∃ Y, Y = tx s' := ⟨_, rfl⟩
  simp only at HNW HRN HOK
  rw [← hY] at HNW HRN
  obtain ⟨ko, kd, kg, ka⟩ := k
  have hkv : rV m x L.length c ⟨ko, kd, kg, ka⟩ = .agg #[.int .i64 m, .slice x L.length c, .bool ko, .string (tx kd), .string (tx kg), .int .i64 ka] := rfl
  have hkv2 : rV m x L.length c k' = .agg #[.int .i64 m, .slice x L.length c, .bool k'.on, .string (tx k'.d), .string (tx k'.bg), .int .i64 k'.at_] := rfl
  rw [hkv, hkv2] at HRN
  rw [hkv]
  obtain ⟨S', hS'⟩ : ∃ D, D = tx S := ⟨_, rfl⟩
  obtain ⟨T', hT'⟩ : ∃ D, D = tx T := ⟨_, rfl⟩
  obtain ⟨Sc, hSc⟩ : ∃ D, D = tx (S.take 60) := ⟨_, rfl⟩
  obtain ⟨Tc, hTc⟩ : ∃ D, D = tx (T.take 60) := ⟨_, rfl⟩
  rw [← hS', ← hSc] at HCS
  rw [← hT', ← hTc] at HCT
  rw [← hSc, ← hTc] at HNW HRN
  rw [← hS', ← hT']
  obtain ⟨n, hn⟩ : ∃ n, n = L.length := ⟨_, rfl⟩
  have HN := Lib.hid hn
  rw [← hn] at HRN ⊢
  obtain ⟨D, hD⟩ : ∃ D, D = tx kd := ⟨_, rfl⟩
  obtain ⟨G, hG⟩ : ∃ D, D = tx kg := ⟨_, rfl⟩
  rw [← hD, ← hG] at HRN ⊢
  have HST := Lib.hid (StI.start (w := w) (b := b) #[.int .i64 m, .slice x n c, .bool ko, .string D, .string G, .int .i64 ka] #[.int .u8 d8, .string S', .string T'])
  have HB0 := Lib.hid ((((Below.refl w.heap.size w).alloc (Nat.le_refl _) (.cells #[.int .i64 m, .slice x n c, .bool ko, .string D, .string G, .int .i64 ka] 41)).alloc (by simp) (.cells #[.int .u8 d8, .string S', .string T'] 45)).alloc (by simp; omega) (.cells zeroC 41))
  have HH := Lib.hid (And.intro (h.below HB0.out) (hs.below HB0.out))
  clear hS' hT' hSc hTc h hs hg hk hkf hR hY hD hG hn hkv hkv2 HB0
  unfold zeroC at HST HH
  go_enter Try.func19, Try.ntmps19
  obtain ⟨a0, a1, a2, a3, a4, a5, -⟩ := cells6 HST.out.a
  have HC0 := Lib.hid (cells_drew HST.out.o)
  have HC1 := Lib.hid (HH.out.1.below (Below.refl _ _).drew)
  have HSD := Lib.hid (HST.out.below hbl (Below.refl _ _).drew)
  have HXS := Lib.hid HH.out.2
  have BH := Lib.hid (But.of (l := [b]) (Below.refl _ (((w.alloc (.cells #[.int .i64 m, .slice x n c, .bool ko, .string D, .string G, .int .i64 ka] 41)).alloc (.cells #[.int .u8 d8, .string S', .string T'] 45)).alloc (.cells zeroC 41))).drew)
  unfold zeroC at BH
  rcases hd with rfl | rfl
  · go_wp2_with (first | (go_at_call 25; fail))
    go_region_held3 (fun w' => w'.cell? ⟨w.heap.size + 1, 1, none⟩ = some (.string S') ∧ w'.cell? ⟨w.heap.size + 1, 2, none⟩ = some (.string T'))
      (first | exact HC0.out | exact cells_o HI1.out.o)
      (first | (go_at_call 8; (with_reducible refine (HCS.out _).mono ?_); rintro e y ⟨rfl, rfl⟩) | (go_at_call 8; (with_reducible refine (HCT.out _).mono ?_); rintro e y ⟨rfl, rfl⟩) | (go_at_call 25; (with_reducible refine (HNW.out _ HC1.out).mono ?_); rintro e w1 ⟨rfl, hh1, hb1⟩; have HI1 := Lib.hid (HSD.out.step hbl hb1); have HH1 := Lib.hid (And.intro hh1 hb1); clear hh1 hb1))
    clear a0 a1 a2 a3 a4 a5 HC0 HC1 HNW
    obtain ⟨a0, a1, a2, a3, a4, a5, -⟩ := cells6 HI1.out.a
    go_upto_region 8 with (fail)
    clear a0 a1 a2 a3 a4 a5
    have hw1 := (Array.getElem?_eq_some_iff.1 HI1.out.z).1
    have HW1 := Lib.hid hw1
    have HBA := Lib.hid ((Below.refl w1.heap.size w1).alloc (Nat.le_refl _) (.cells zeroC 41)).drew
    have HKA := Lib.hid (HI1.out.below hbl (Below.refl _ _).drew)
    have HKB := Lib.hid (HI1.out.below hbl HBA.out)
    have HSX := Lib.hid (HXS.out.but HH.out.1 (BH.out.trans HH1.out.2))
    have HJA := Lib.hid (HSX.out.below (Below.refl _ _).drew)
    have HJB := Lib.hid (HSX.out.below HBA.out)
    have HHA := Lib.hid (HH1.out.1.below (Below.refl _ _).drew)
    have HHB := Lib.hid (HH1.out.1.below HBA.out)
    have HZB : Hid ((w1.alloc (.cells zeroC 41)).drew.heap[w1.heap.size]? = some (.cells zeroC 41 (0, 0)) ∧ w1.heap.size < (w1.alloc (.cells zeroC 41)).drew.heap.size) := Lib.hid ⟨heap_of_drew (heap_alloc_new _ _), by simp⟩
    clear hw1
    unfold zeroC at HBA HKB HJB HHB HZB
    have HJ0 := Lib.hid (ao_cells HKA.out)
    have HJ0B := Lib.hid (ao_cells HKB.out)
    go_cut [10, 11, 12] (fun p s t wx => ∃ g, p = .pointer (some ⟨g, 0, none⟩) ∧ s = .string Y ∧ t = .bool t' ∧ Hid (RegQ w b m #[.int .i64 m, .slice x n c, .bool ko, .string D, .string G, .int .i64 ka] #[.int .u8 d8, .string S', .string T'] #[.int .i64 m, .slice x n c, .bool k'.on, .string (tx k'.d), .string (tx k'.bg), .int .i64 k'.at_] L k' x c xb cb g wx))
    case first =>
      have n1 : ¬ w1.heap.size = w.heap.size := by have := HW1.out; omega
      have n2 : ¬ w1.heap.size = w.heap.size + 1 := by have := HW1.out; omega
      have n3 : ¬ w.heap.size = w1.heap.size := by have := HW1.out; omega
      have n4 : ¬ w.heap.size + 1 = w1.heap.size := by have := HW1.out; omega
      go_region_held3 (fun w' => w'.cell? ⟨w.heap.size, 0, none⟩ = some (.int .i64 m) ∧ w'.cell? ⟨w.heap.size, 1, none⟩ = some (.slice x n c) ∧ w'.cell? ⟨w.heap.size, 2, none⟩ = some (.bool ko) ∧ w'.cell? ⟨w.heap.size, 3, none⟩ = some (.string D) ∧ w'.cell? ⟨w.heap.size, 4, none⟩ = some (.string G) ∧ w'.cell? ⟨w.heap.size, 5, none⟩ = some (.int .i64 ka) ∧ w'.cell? ⟨w.heap.size + 1, 1, none⟩ = some (.string S') ∧ w'.cell? ⟨w.heap.size + 1, 2, none⟩ = some (.string T'))
        (first | with_reducible exact HI5.out | with_reducible exact HI2c.out | with_reducible exact HI4.out | with_reducible exact HJ0.out | with_reducible exact HJ0B.out)
        (first | (go_at_call 8; (with_reducible refine (HCS.out _).mono ?_); rintro e y ⟨rfl, rfl⟩) | (go_at_call 8; (with_reducible refine (HCT.out _).mono ?_); rintro e y ⟨rfl, rfl⟩) | (go_at_call 34; (with_reducible refine (HRN.out _ HJA.out).mono ?_); rintro e w2 ⟨rfl, hb2⟩; have HI2 := Lib.hid (HKA.out.below hbl hb2); have HI4 := Lib.hid (ao_cells (HI2.out.below hbl ((Below.refl _ _).alloc (Nat.le_refl _) (.cells #[.int .i64 0, .slice none 0 0, .bool false, .string ⟨#[]⟩, .string ⟨#[]⟩, .int .i64 0] 41)))); have HI2c := Lib.hid (ao_cells HI2.out); have HI3 := Lib.hid (regA hbl HI2.out (HHA.out.below hb2) (HJA.out.below hb2) #[.int .i64 m, .slice x n c, .bool k'.on, .string (tx k'.d), .string (tx k'.bg), .int .i64 k'.at_] (41 : Nat) rfl); have HI5 := Lib.hid (ao_cells HI3.out.st); clear hb2) | (go_at_call 34; (with_reducible refine (HRN.out _ HJB.out).mono ?_); rintro e w2 ⟨rfl, hb2⟩; have HI2 := Lib.hid (HKB.out.below hbl hb2); have hz := (hb2.block _ HZB.out.2).trans HZB.out.1; have HI2c := Lib.hid (ao_cells HI2.out); have HI3 := Lib.hid (regB hbl HI2.out (HHB.out.below hb2) (HJB.out.below hb2) hz HW1.out (.int .i64 m) (.slice x n c) (.bool k'.on) (.string (tx k'.d)) (.string (tx k'.bg)) (.int .i64 k'.at_)); have HI5 := Lib.hid (ao_cells HI3.out.st); obtain ⟨z0, z1, z2, z3, z4, z5, zz⟩ := cells6 hz; have zf0 := zz 0; have zf1 := zz 1; have zf2 := zz 2; have zf3 := zz 3; have zf4 := zz 4; have zf5 := zz 5; clear hb2 hz zz))
      all_goals (go_wp2; go_meet; exact ⟨_, rfl, rfl, rfl, HI3⟩)
    case rest =>
      obtain ⟨g, rfl, rfl, rfl, HQ⟩ := hcut
      have HEN := Lib.hid (step_end HQ.out.st hbl HQ.out.his HQ.out.sees HGD.out HOK.out (.int .i64 m) (.slice x n c) (.bool k'.on) (.string (tx k'.d)) (.string (tx k'.bg)) (.int .i64 k'.at_))
      have HF := Lib.hid HEN.out.1
      have HE2 := HEN.out.2
      rw [← HN.out] at HE2
      have HE2 := Lib.hid HE2
      have hz := HQ.out.st.z
      unfold zeroC at hz
      obtain ⟨z0, z1, z2, z3, z4, z5, zz⟩ := cells6 hz
      have zf0 := zz 0
      have zf1 := zz 1
      have zf2 := zz 2
      have zf3 := zz 3
      have zf4 := zz 4
      have zf5 := zz 5
      obtain ⟨g0, g1, g2, g3, g4, g5, -⟩ := cells6 HQ.out.v
      have hqx : (Y.toList == Y.toList) = true := by simp
      clear HEN hz zz HJ0 HJ0B HKA HKB HJA HJB HHA HHB HZB HBA HRN HCS HCT
      cases t'
      · go_wp2
        exact step_ret rfl rfl rfl HF.out HE2.out
      · go_wp2
        exact step_ret rfl rfl rfl HF.out HE2.out
  · go_wp2_with (first | (go_at_call 25; fail))
    go_region_held3 (fun w' => w'.cell? ⟨w.heap.size + 1, 1, none⟩ = some (.string S') ∧ w'.cell? ⟨w.heap.size + 1, 2, none⟩ = some (.string T'))
      (first | exact HC0.out | exact cells_o HI1.out.o)
      (first | (go_at_call 8; (with_reducible refine (HCS.out _).mono ?_); rintro e y ⟨rfl, rfl⟩) | (go_at_call 8; (with_reducible refine (HCT.out _).mono ?_); rintro e y ⟨rfl, rfl⟩) | (go_at_call 25; (with_reducible refine (HNW.out _ HC1.out).mono ?_); rintro e w1 ⟨rfl, hh1, hb1⟩; have HI1 := Lib.hid (HSD.out.step hbl hb1); have HH1 := Lib.hid (And.intro hh1 hb1); clear hh1 hb1))
    clear a0 a1 a2 a3 a4 a5 HC0 HC1 HNW
    obtain ⟨a0, a1, a2, a3, a4, a5, -⟩ := cells6 HI1.out.a
    go_upto_region 8 with (fail)
    clear a0 a1 a2 a3 a4 a5
    have hw1 := (Array.getElem?_eq_some_iff.1 HI1.out.z).1
    have HW1 := Lib.hid hw1
    have HBA := Lib.hid ((Below.refl w1.heap.size w1).alloc (Nat.le_refl _) (.cells zeroC 41)).drew
    have HKA := Lib.hid (HI1.out.below hbl (Below.refl _ _).drew)
    have HKB := Lib.hid (HI1.out.below hbl HBA.out)
    have HSX := Lib.hid (HXS.out.but HH.out.1 (BH.out.trans HH1.out.2))
    have HJA := Lib.hid (HSX.out.below (Below.refl _ _).drew)
    have HJB := Lib.hid (HSX.out.below HBA.out)
    have HHA := Lib.hid (HH1.out.1.below (Below.refl _ _).drew)
    have HHB := Lib.hid (HH1.out.1.below HBA.out)
    have HZB : Hid ((w1.alloc (.cells zeroC 41)).drew.heap[w1.heap.size]? = some (.cells zeroC 41 (0, 0)) ∧ w1.heap.size < (w1.alloc (.cells zeroC 41)).drew.heap.size) := Lib.hid ⟨heap_of_drew (heap_alloc_new _ _), by simp⟩
    clear hw1
    unfold zeroC at HBA HKB HJB HHB HZB
    have HJ0 := Lib.hid (ao_cells HKA.out)
    have HJ0B := Lib.hid (ao_cells HKB.out)
    go_cut [10, 11, 12] (fun p s t wx => ∃ g, p = .pointer (some ⟨g, 0, none⟩) ∧ s = .string Y ∧ t = .bool t' ∧ Hid (RegQ w b m #[.int .i64 m, .slice x n c, .bool ko, .string D, .string G, .int .i64 ka] #[.int .u8 d8, .string S', .string T'] #[.int .i64 m, .slice x n c, .bool k'.on, .string (tx k'.d), .string (tx k'.bg), .int .i64 k'.at_] L k' x c xb cb g wx))
    case first =>
      have n1 : ¬ w1.heap.size = w.heap.size := by have := HW1.out; omega
      have n2 : ¬ w1.heap.size = w.heap.size + 1 := by have := HW1.out; omega
      have n3 : ¬ w.heap.size = w1.heap.size := by have := HW1.out; omega
      have n4 : ¬ w.heap.size + 1 = w1.heap.size := by have := HW1.out; omega
      go_region_held3 (fun w' => w'.cell? ⟨w.heap.size, 0, none⟩ = some (.int .i64 m) ∧ w'.cell? ⟨w.heap.size, 1, none⟩ = some (.slice x n c) ∧ w'.cell? ⟨w.heap.size, 2, none⟩ = some (.bool ko) ∧ w'.cell? ⟨w.heap.size, 3, none⟩ = some (.string D) ∧ w'.cell? ⟨w.heap.size, 4, none⟩ = some (.string G) ∧ w'.cell? ⟨w.heap.size, 5, none⟩ = some (.int .i64 ka) ∧ w'.cell? ⟨w.heap.size + 1, 1, none⟩ = some (.string S') ∧ w'.cell? ⟨w.heap.size + 1, 2, none⟩ = some (.string T'))
        (first | with_reducible exact HI5.out | with_reducible exact HI2c.out | with_reducible exact HI4.out | with_reducible exact HJ0.out | with_reducible exact HJ0B.out)
        (first | (go_at_call 8; (with_reducible refine (HCS.out _).mono ?_); rintro e y ⟨rfl, rfl⟩) | (go_at_call 8; (with_reducible refine (HCT.out _).mono ?_); rintro e y ⟨rfl, rfl⟩) | (go_at_call 34; (with_reducible refine (HRN.out _ HJA.out).mono ?_); rintro e w2 ⟨rfl, hb2⟩; have HI2 := Lib.hid (HKA.out.below hbl hb2); have HI4 := Lib.hid (ao_cells (HI2.out.below hbl ((Below.refl _ _).alloc (Nat.le_refl _) (.cells #[.int .i64 0, .slice none 0 0, .bool false, .string ⟨#[]⟩, .string ⟨#[]⟩, .int .i64 0] 41)))); have HI2c := Lib.hid (ao_cells HI2.out); have HI3 := Lib.hid (regA hbl HI2.out (HHA.out.below hb2) (HJA.out.below hb2) #[.int .i64 m, .slice x n c, .bool k'.on, .string (tx k'.d), .string (tx k'.bg), .int .i64 k'.at_] (41 : Nat) rfl); have HI5 := Lib.hid (ao_cells HI3.out.st); clear hb2) | (go_at_call 34; (with_reducible refine (HRN.out _ HJB.out).mono ?_); rintro e w2 ⟨rfl, hb2⟩; have HI2 := Lib.hid (HKB.out.below hbl hb2); have hz := (hb2.block _ HZB.out.2).trans HZB.out.1; have HI2c := Lib.hid (ao_cells HI2.out); have HI3 := Lib.hid (regB hbl HI2.out (HHB.out.below hb2) (HJB.out.below hb2) hz HW1.out (.int .i64 m) (.slice x n c) (.bool k'.on) (.string (tx k'.d)) (.string (tx k'.bg)) (.int .i64 k'.at_)); have HI5 := Lib.hid (ao_cells HI3.out.st); obtain ⟨z0, z1, z2, z3, z4, z5, zz⟩ := cells6 hz; have zf0 := zz 0; have zf1 := zz 1; have zf2 := zz 2; have zf3 := zz 3; have zf4 := zz 4; have zf5 := zz 5; clear hb2 hz zz))
      all_goals (go_wp2; go_meet; exact ⟨_, rfl, rfl, rfl, HI3⟩)
    case rest =>
      obtain ⟨g, rfl, rfl, rfl, HQ⟩ := hcut
      have HEN := Lib.hid (step_end HQ.out.st hbl HQ.out.his HQ.out.sees HGD.out HOK.out (.int .i64 m) (.slice x n c) (.bool k'.on) (.string (tx k'.d)) (.string (tx k'.bg)) (.int .i64 k'.at_))
      have HF := Lib.hid HEN.out.1
      have HE2 := HEN.out.2
      rw [← HN.out] at HE2
      have HE2 := Lib.hid HE2
      have hz := HQ.out.st.z
      unfold zeroC at hz
      obtain ⟨z0, z1, z2, z3, z4, z5, zz⟩ := cells6 hz
      have zf0 := zz 0
      have zf1 := zz 1
      have zf2 := zz 2
      have zf3 := zz 3
      have zf4 := zz 4
      have zf5 := zz 5
      obtain ⟨g0, g1, g2, g3, g4, g5, -⟩ := cells6 HQ.out.v
      have hqx : (Y.toList == Y.toList) = true := by simp
      clear HEN hz zz HJ0 HJ0B HKA HKB HJA HJB HHA HHB HZB HBA HRN HCS HCT
      cases t'
      · go_wp2
        exact step_ret rfl rfl rfl HF.out HE2.out
      · go_wp2
        exact step_ret rfl rfl rfl HF.out HE2.out
end Go.Proofs.Ytbaljpamhmbcjaa
/- Walk: step at Add. -/
namespace Go.Proofs.Ytbaljpamhmbcjaa
open Go.RowKit Go.Shelf
set_option maxRecDepth 100000 in
set_option maxHeartbeats 8000000 in
theorem step_add (b m : Nat) (hm1 : 1 ≤ m) (hm2 : m ≤ 256) (L : List Bs) (hg : GoodL m L) (k : Wk) (hk : k.Fit L) (xb : Option Addr) (cb : Nat) (x : Option Addr) (c : Nat) (d8 : Nat) (q : Int) (r1 : (d8 : Int).tmod 8 = q) (hd : q = 0 ∨ q = 1 ∨ q = 2 ∨ q = 7) (S T : Bs) (w : World) (h : His w b m L k xb cb) (hs : SeesL w x c L) :
    Calls Try.prog 19 #[.pointer (some ⟨b, 0, none⟩), rV m x L.length c k, .agg #[.int .u8 d8, .string (tx S), .string (tx T)]] w (StepEnd w b m) := by
  have hbl := h.lt
  have hkf := hk
  replace hk := hk.1
  have hs60 : (S.take 60).length ≤ 10000 := by simp; omega
  have HNW := Lib.hid (fun W (hW : His W b m L k xb cb) => wHadd b m hm1 hm2 L (by have := hg.1; omega) k xb cb (S.take 60) hs60 W hW)
  have HRN := Lib.hid (fun W hW => rAdd m hm1 hm2 x c L (by have := hg.1; omega) hg.2.2 k (S.take 60) hs60 W hW)
  have HCS := Lib.hid (wcut60 S)
  have HG2 := Lib.hid (goodL_add hg (S.take 60) (by simp; omega))
  have HGD := Lib.hid hg
  have HE : Hid (∀ k x n c, rV (m : Int) x n c k = .agg (hisCells m x n c k)) := Lib.hid (fun _ _ _ _ => rfl)
  obtain ⟨R, hR⟩ : ∃ R, R = addL m L (flatS (S.take 60)) := ⟨_, rfl⟩
  rw [← hR] at HNW HRN HG2
  obtain ⟨t', L'⟩ := R
  simp only at HNW HRN HG2
  obtain ⟨k', hk'⟩ : ∃ k', k' = Wk.no := ⟨_, rfl⟩
  have HOK := Lib.hid (no_fit L')
  rw [← hk'] at HNW HRN HOK
  have hkv2 : ∀ y d, rV m y L'.length d k' = .agg #[.int .i64 m, .slice y L'.length d, .bool k'.on, .string (tx k'.d), .string (tx k'.bg), .int .i64 k'.at_] := fun _ _ => rfl
  obtain ⟨ko, kd, kg, ka⟩ := k
  have hkv : rV m x L.length c ⟨ko, kd, kg, ka⟩ = .agg #[.int .i64 m, .slice x L.length c, .bool ko, .string (tx kd), .string (tx kg), .int .i64 ka] := rfl
  simp only [hkv, hkv2] at HRN
  rw [hkv]
  obtain ⟨S', hS'⟩ : ∃ D, D = tx S := ⟨_, rfl⟩
  obtain ⟨T', hT'⟩ : ∃ D, D = tx T := ⟨_, rfl⟩
  obtain ⟨Sc, hSc⟩ : ∃ D, D = tx (S.take 60) := ⟨_, rfl⟩
  rw [← hS', ← hSc] at HCS
  rw [← hSc] at HNW HRN
  rw [← hS', ← hT']
  obtain ⟨n, hn⟩ : ∃ n, n = L.length := ⟨_, rfl⟩
  have HN := Lib.hid hn
  obtain ⟨n', hn'⟩ : ∃ n, n = L'.length := ⟨_, rfl⟩
  have HN' := Lib.hid hn'
  rw [← hn'] at HRN
  rw [← hn] at HRN ⊢
  obtain ⟨D, hD⟩ : ∃ D, D = tx kd := ⟨_, rfl⟩
  obtain ⟨G, hG⟩ : ∃ D, D = tx kg := ⟨_, rfl⟩
  rw [← hD, ← hG] at HRN ⊢
  have HST := Lib.hid (StI.start (w := w) (b := b) #[.int .i64 m, .slice x n c, .bool ko, .string D, .string G, .int .i64 ka] #[.int .u8 d8, .string S', .string T'])
  have HB0 := Lib.hid ((((Below.refl w.heap.size w).alloc (Nat.le_refl _) (.cells #[.int .i64 m, .slice x n c, .bool ko, .string D, .string G, .int .i64 ka] 41)).alloc (by simp) (.cells #[.int .u8 d8, .string S', .string T'] 45)).alloc (by simp; omega) (.cells zeroC 41))
  have HH := Lib.hid (And.intro (h.below HB0.out) (hs.below HB0.out))
  clear hs60 hS' hT' hSc h hs hg hk hkf hR hk' hD hG hn hn' hkv hkv2 HB0
  unfold zeroC at HST HH
  go_enter Try.func19, Try.ntmps19
  obtain ⟨a0, a1, a2, a3, a4, a5, -⟩ := cells6 HST.out.a
  obtain ⟨o1, o2⟩ := cells_o HST.out.o
  have HXS := Lib.hid HH.out.2
  rcases hd with rfl | rfl | rfl | rfl
  · go_wp2_with (first | (go_at_call 8; (with_reducible refine (HCS.out _).mono ?_); rintro e y ⟨rfl, rfl⟩) | (go_at_call 27; fail))
    go_at_call 27
    refine (HNW.out _ HH.out.1).mono ?_
    rintro e w1 ⟨rfl, ⟨xb', cb', hh1⟩, hb1⟩
    have HI1 := Lib.hid (StI.step (W := _) HST.out hbl hb1)
    have HH1 := Lib.hid (And.intro hh1 hb1)
    clear hh1 hb1 a0 a1 a2 a3 a4 a5 o1 o2 HNW
    obtain ⟨a0, a1, a2, a3, a4, a5, -⟩ := cells6 HI1.out.a
    obtain ⟨o1, o2⟩ := cells_o HI1.out.o
    go_upto_region 3 with (fail)
    clear a0 a1 a2 a3 a4 a5 o1 o2
    have hw1 := (Array.getElem?_eq_some_iff.1 HI1.out.z).1
    have HW1 := Lib.hid hw1
    have HBA := Lib.hid ((Below.refl w1.heap.size w1).alloc (Nat.le_refl _) (.cells zeroC 41)).drew
    have HKA := Lib.hid (HI1.out.below hbl (Below.refl _ _).drew)
    have HKB := Lib.hid (HI1.out.below hbl HBA.out)
    have HSX := Lib.hid (HXS.out.but HH.out.1 HH1.out.2)
    have HJA := Lib.hid (HSX.out.below (Below.refl _ _).drew)
    have HJB := Lib.hid (HSX.out.below HBA.out)
    have HHA := Lib.hid (HH1.out.1.below (Below.refl _ _).drew)
    have HHB := Lib.hid (HH1.out.1.below HBA.out)
    have HZB : Hid ((w1.alloc (.cells zeroC 41)).drew.heap[w1.heap.size]? = some (.cells zeroC 41 (0, 0)) ∧ w1.heap.size < (w1.alloc (.cells zeroC 41)).drew.heap.size) := Lib.hid ⟨heap_of_drew (heap_alloc_new _ _), by simp⟩
    clear hw1
    unfold zeroC at HBA HKB HJB HHB HZB
    have HJ0 := Lib.hid (ao_cells HKA.out)
    have HJ0B := Lib.hid (ao_cells HKB.out)
    go_cut [22, 23] (fun p t wx => ∃ g y d, p = .pointer (some ⟨g, 0, none⟩) ∧ t = .bool t' ∧ Hid (RegQ w b m #[.int .i64 m, .slice x n c, .bool ko, .string D, .string G, .int .i64 ka] #[.int .u8 d8, .string S', .string T'] #[.int .i64 m, .slice y n' d, .bool k'.on, .string (tx k'.d), .string (tx k'.bg), .int .i64 k'.at_] L' k' y d xb' cb' g wx))
    case first =>
      go_region_held3 (fun w' => w'.cell? ⟨w.heap.size, 0, none⟩ = some (.int .i64 m) ∧ w'.cell? ⟨w.heap.size, 1, none⟩ = some (.slice x n c) ∧ w'.cell? ⟨w.heap.size, 2, none⟩ = some (.bool ko) ∧ w'.cell? ⟨w.heap.size, 3, none⟩ = some (.string D) ∧ w'.cell? ⟨w.heap.size, 4, none⟩ = some (.string G) ∧ w'.cell? ⟨w.heap.size, 5, none⟩ = some (.int .i64 ka) ∧ w'.cell? ⟨w.heap.size + 1, 1, none⟩ = some (.string S') ∧ w'.cell? ⟨w.heap.size + 1, 2, none⟩ = some (.string T'))
        (first | with_reducible exact HI5.out | with_reducible exact HI2c.out | with_reducible exact HI4.out | with_reducible exact HJ0.out | with_reducible exact HJ0B.out)
        (first | (go_at_call 8; (with_reducible refine (HCS.out _).mono ?_); rintro e y ⟨rfl, rfl⟩) | (go_at_call 37; (with_reducible refine (HRN.out _ HJA.out).mono ?_); rintro e w2 ⟨y, d, rfl, hs2, hb2⟩; have HI2 := Lib.hid (HKA.out.below hbl hb2); have HI4 := Lib.hid (ao_cells (HI2.out.below hbl ((Below.refl _ _).alloc (Nat.le_refl _) (.cells #[.int .i64 0, .slice none 0 0, .bool false, .string ⟨#[]⟩, .string ⟨#[]⟩, .int .i64 0] 41)))); have HI2c := Lib.hid (ao_cells HI2.out); have HI3 := Lib.hid (regA hbl HI2.out (HHA.out.below hb2) hs2 #[.int .i64 m, .slice y n' d, .bool k'.on, .string (tx k'.d), .string (tx k'.bg), .int .i64 k'.at_] (41 : Nat) rfl); have HI5 := Lib.hid (ao_cells HI3.out.st); clear hb2 hs2) | (go_at_call 37; (with_reducible refine (HRN.out _ HJB.out).mono ?_); rintro e w2 ⟨y, d, rfl, hs2, hb2⟩; have HI2 := Lib.hid (HKB.out.below hbl hb2); have hz := (hb2.block _ HZB.out.2).trans HZB.out.1; have HI2c := Lib.hid (ao_cells HI2.out); have HI3 := Lib.hid (regB hbl HI2.out (HHB.out.below hb2) hs2 hz HW1.out (.int .i64 m) (.slice y n' d) (.bool k'.on) (.string (tx k'.d)) (.string (tx k'.bg)) (.int .i64 k'.at_)); have HI5 := Lib.hid (ao_cells HI3.out.st); obtain ⟨z0, z1, z2, z3, z4, z5, zz⟩ := cells6 hz; have zf0 := zz 0; have zf1 := zz 1; have zf2 := zz 2; have zf3 := zz 3; have zf4 := zz 4; have zf5 := zz 5; clear hb2 hz zz hs2))
      all_goals (go_wp2; go_meet; exact ⟨_, _, _, rfl, rfl, HI3⟩)
    case rest =>
      obtain ⟨g, y, d, rfl, rfl, HQ⟩ := hcut
      have HEN := Lib.hid (step_end HQ.out.st hbl HQ.out.his HQ.out.sees HG2.out HOK.out (.int .i64 m) (.slice y n' d) (.bool k'.on) (.string (tx k'.d)) (.string (tx k'.bg)) (.int .i64 k'.at_))
      have HF := Lib.hid HEN.out.1
      have HE2 := HEN.out.2
      rw [← HN'.out] at HE2
      have HE2 := Lib.hid HE2
      have hz := HQ.out.st.z
      unfold zeroC at hz
      obtain ⟨z0, z1, z2, z3, z4, z5, zz⟩ := cells6 hz
      have zf0 := zz 0
      have zf1 := zz 1
      have zf2 := zz 2
      have zf3 := zz 3
      have zf4 := zz 4
      have zf5 := zz 5
      obtain ⟨g0, g1, g2, g3, g4, g5, -⟩ := cells6 HQ.out.v
      clear HEN hz zz HJ0 HJ0B HKA HKB HJA HJB HHA HHB HZB HBA HRN HCS
      cases t'
      · go_wp2
        exact step_ret rfl rfl rfl HF.out HE2.out
      · go_wp2
        exact step_ret rfl rfl rfl HF.out HE2.out
  · go_wp2_with (first | (go_at_call 8; (with_reducible refine (HCS.out _).mono ?_); rintro e y ⟨rfl, rfl⟩) | (go_at_call 27; fail))
    go_at_call 27
    refine (HNW.out _ HH.out.1).mono ?_
    rintro e w1 ⟨rfl, ⟨xb', cb', hh1⟩, hb1⟩
    have HI1 := Lib.hid (StI.step (W := _) HST.out hbl hb1)
    have HH1 := Lib.hid (And.intro hh1 hb1)
    clear hh1 hb1 a0 a1 a2 a3 a4 a5 o1 o2 HNW
    obtain ⟨a0, a1, a2, a3, a4, a5, -⟩ := cells6 HI1.out.a
    obtain ⟨o1, o2⟩ := cells_o HI1.out.o
    go_upto_region 3 with (fail)
    clear a0 a1 a2 a3 a4 a5 o1 o2
    have hw1 := (Array.getElem?_eq_some_iff.1 HI1.out.z).1
    have HW1 := Lib.hid hw1
    have HBA := Lib.hid ((Below.refl w1.heap.size w1).alloc (Nat.le_refl _) (.cells zeroC 41)).drew
    have HKA := Lib.hid (HI1.out.below hbl (Below.refl _ _).drew)
    have HKB := Lib.hid (HI1.out.below hbl HBA.out)
    have HSX := Lib.hid (HXS.out.but HH.out.1 HH1.out.2)
    have HJA := Lib.hid (HSX.out.below (Below.refl _ _).drew)
    have HJB := Lib.hid (HSX.out.below HBA.out)
    have HHA := Lib.hid (HH1.out.1.below (Below.refl _ _).drew)
    have HHB := Lib.hid (HH1.out.1.below HBA.out)
    have HZB : Hid ((w1.alloc (.cells zeroC 41)).drew.heap[w1.heap.size]? = some (.cells zeroC 41 (0, 0)) ∧ w1.heap.size < (w1.alloc (.cells zeroC 41)).drew.heap.size) := Lib.hid ⟨heap_of_drew (heap_alloc_new _ _), by simp⟩
    clear hw1
    unfold zeroC at HBA HKB HJB HHB HZB
    have HJ0 := Lib.hid (ao_cells HKA.out)
    have HJ0B := Lib.hid (ao_cells HKB.out)
    go_cut [22, 23] (fun p t wx => ∃ g y d, p = .pointer (some ⟨g, 0, none⟩) ∧ t = .bool t' ∧ Hid (RegQ w b m #[.int .i64 m, .slice x n c, .bool ko, .string D, .string G, .int .i64 ka] #[.int .u8 d8, .string S', .string T'] #[.int .i64 m, .slice y n' d, .bool k'.on, .string (tx k'.d), .string (tx k'.bg), .int .i64 k'.at_] L' k' y d xb' cb' g wx))
    case first =>
      go_region_held3 (fun w' => w'.cell? ⟨w.heap.size, 0, none⟩ = some (.int .i64 m) ∧ w'.cell? ⟨w.heap.size, 1, none⟩ = some (.slice x n c) ∧ w'.cell? ⟨w.heap.size, 2, none⟩ = some (.bool ko) ∧ w'.cell? ⟨w.heap.size, 3, none⟩ = some (.string D) ∧ w'.cell? ⟨w.heap.size, 4, none⟩ = some (.string G) ∧ w'.cell? ⟨w.heap.size, 5, none⟩ = some (.int .i64 ka) ∧ w'.cell? ⟨w.heap.size + 1, 1, none⟩ = some (.string S') ∧ w'.cell? ⟨w.heap.size + 1, 2, none⟩ = some (.string T'))
        (first | with_reducible exact HI5.out | with_reducible exact HI2c.out | with_reducible exact HI4.out | with_reducible exact HJ0.out | with_reducible exact HJ0B.out)
        (first | (go_at_call 8; (with_reducible refine (HCS.out _).mono ?_); rintro e y ⟨rfl, rfl⟩) | (go_at_call 37; (with_reducible refine (HRN.out _ HJA.out).mono ?_); rintro e w2 ⟨y, d, rfl, hs2, hb2⟩; have HI2 := Lib.hid (HKA.out.below hbl hb2); have HI4 := Lib.hid (ao_cells (HI2.out.below hbl ((Below.refl _ _).alloc (Nat.le_refl _) (.cells #[.int .i64 0, .slice none 0 0, .bool false, .string ⟨#[]⟩, .string ⟨#[]⟩, .int .i64 0] 41)))); have HI2c := Lib.hid (ao_cells HI2.out); have HI3 := Lib.hid (regA hbl HI2.out (HHA.out.below hb2) hs2 #[.int .i64 m, .slice y n' d, .bool k'.on, .string (tx k'.d), .string (tx k'.bg), .int .i64 k'.at_] (41 : Nat) rfl); have HI5 := Lib.hid (ao_cells HI3.out.st); clear hb2 hs2) | (go_at_call 37; (with_reducible refine (HRN.out _ HJB.out).mono ?_); rintro e w2 ⟨y, d, rfl, hs2, hb2⟩; have HI2 := Lib.hid (HKB.out.below hbl hb2); have hz := (hb2.block _ HZB.out.2).trans HZB.out.1; have HI2c := Lib.hid (ao_cells HI2.out); have HI3 := Lib.hid (regB hbl HI2.out (HHB.out.below hb2) hs2 hz HW1.out (.int .i64 m) (.slice y n' d) (.bool k'.on) (.string (tx k'.d)) (.string (tx k'.bg)) (.int .i64 k'.at_)); have HI5 := Lib.hid (ao_cells HI3.out.st); obtain ⟨z0, z1, z2, z3, z4, z5, zz⟩ := cells6 hz; have zf0 := zz 0; have zf1 := zz 1; have zf2 := zz 2; have zf3 := zz 3; have zf4 := zz 4; have zf5 := zz 5; clear hb2 hz zz hs2))
      all_goals (go_wp2; go_meet; exact ⟨_, _, _, rfl, rfl, HI3⟩)
    case rest =>
      obtain ⟨g, y, d, rfl, rfl, HQ⟩ := hcut
      have HEN := Lib.hid (step_end HQ.out.st hbl HQ.out.his HQ.out.sees HG2.out HOK.out (.int .i64 m) (.slice y n' d) (.bool k'.on) (.string (tx k'.d)) (.string (tx k'.bg)) (.int .i64 k'.at_))
      have HF := Lib.hid HEN.out.1
      have HE2 := HEN.out.2
      rw [← HN'.out] at HE2
      have HE2 := Lib.hid HE2
      have hz := HQ.out.st.z
      unfold zeroC at hz
      obtain ⟨z0, z1, z2, z3, z4, z5, zz⟩ := cells6 hz
      have zf0 := zz 0
      have zf1 := zz 1
      have zf2 := zz 2
      have zf3 := zz 3
      have zf4 := zz 4
      have zf5 := zz 5
      obtain ⟨g0, g1, g2, g3, g4, g5, -⟩ := cells6 HQ.out.v
      clear HEN hz zz HJ0 HJ0B HKA HKB HJA HJB HHA HHB HZB HBA HRN HCS
      cases t'
      · go_wp2
        exact step_ret rfl rfl rfl HF.out HE2.out
      · go_wp2
        exact step_ret rfl rfl rfl HF.out HE2.out
  · go_wp2_with (first | (go_at_call 8; (with_reducible refine (HCS.out _).mono ?_); rintro e y ⟨rfl, rfl⟩) | (go_at_call 27; fail))
    go_at_call 27
    refine (HNW.out _ HH.out.1).mono ?_
    rintro e w1 ⟨rfl, ⟨xb', cb', hh1⟩, hb1⟩
    have HI1 := Lib.hid (StI.step (W := _) HST.out hbl hb1)
    have HH1 := Lib.hid (And.intro hh1 hb1)
    clear hh1 hb1 a0 a1 a2 a3 a4 a5 o1 o2 HNW
    obtain ⟨a0, a1, a2, a3, a4, a5, -⟩ := cells6 HI1.out.a
    obtain ⟨o1, o2⟩ := cells_o HI1.out.o
    go_upto_region 3 with (fail)
    clear a0 a1 a2 a3 a4 a5 o1 o2
    have hw1 := (Array.getElem?_eq_some_iff.1 HI1.out.z).1
    have HW1 := Lib.hid hw1
    have HBA := Lib.hid ((Below.refl w1.heap.size w1).alloc (Nat.le_refl _) (.cells zeroC 41)).drew
    have HKA := Lib.hid (HI1.out.below hbl (Below.refl _ _).drew)
    have HKB := Lib.hid (HI1.out.below hbl HBA.out)
    have HSX := Lib.hid (HXS.out.but HH.out.1 HH1.out.2)
    have HJA := Lib.hid (HSX.out.below (Below.refl _ _).drew)
    have HJB := Lib.hid (HSX.out.below HBA.out)
    have HHA := Lib.hid (HH1.out.1.below (Below.refl _ _).drew)
    have HHB := Lib.hid (HH1.out.1.below HBA.out)
    have HZB : Hid ((w1.alloc (.cells zeroC 41)).drew.heap[w1.heap.size]? = some (.cells zeroC 41 (0, 0)) ∧ w1.heap.size < (w1.alloc (.cells zeroC 41)).drew.heap.size) := Lib.hid ⟨heap_of_drew (heap_alloc_new _ _), by simp⟩
    clear hw1
    unfold zeroC at HBA HKB HJB HHB HZB
    have HJ0 := Lib.hid (ao_cells HKA.out)
    have HJ0B := Lib.hid (ao_cells HKB.out)
    go_cut [22, 23] (fun p t wx => ∃ g y d, p = .pointer (some ⟨g, 0, none⟩) ∧ t = .bool t' ∧ Hid (RegQ w b m #[.int .i64 m, .slice x n c, .bool ko, .string D, .string G, .int .i64 ka] #[.int .u8 d8, .string S', .string T'] #[.int .i64 m, .slice y n' d, .bool k'.on, .string (tx k'.d), .string (tx k'.bg), .int .i64 k'.at_] L' k' y d xb' cb' g wx))
    case first =>
      go_region_held3 (fun w' => w'.cell? ⟨w.heap.size, 0, none⟩ = some (.int .i64 m) ∧ w'.cell? ⟨w.heap.size, 1, none⟩ = some (.slice x n c) ∧ w'.cell? ⟨w.heap.size, 2, none⟩ = some (.bool ko) ∧ w'.cell? ⟨w.heap.size, 3, none⟩ = some (.string D) ∧ w'.cell? ⟨w.heap.size, 4, none⟩ = some (.string G) ∧ w'.cell? ⟨w.heap.size, 5, none⟩ = some (.int .i64 ka) ∧ w'.cell? ⟨w.heap.size + 1, 1, none⟩ = some (.string S') ∧ w'.cell? ⟨w.heap.size + 1, 2, none⟩ = some (.string T'))
        (first | with_reducible exact HI5.out | with_reducible exact HI2c.out | with_reducible exact HI4.out | with_reducible exact HJ0.out | with_reducible exact HJ0B.out)
        (first | (go_at_call 8; (with_reducible refine (HCS.out _).mono ?_); rintro e y ⟨rfl, rfl⟩) | (go_at_call 37; (with_reducible refine (HRN.out _ HJA.out).mono ?_); rintro e w2 ⟨y, d, rfl, hs2, hb2⟩; have HI2 := Lib.hid (HKA.out.below hbl hb2); have HI4 := Lib.hid (ao_cells (HI2.out.below hbl ((Below.refl _ _).alloc (Nat.le_refl _) (.cells #[.int .i64 0, .slice none 0 0, .bool false, .string ⟨#[]⟩, .string ⟨#[]⟩, .int .i64 0] 41)))); have HI2c := Lib.hid (ao_cells HI2.out); have HI3 := Lib.hid (regA hbl HI2.out (HHA.out.below hb2) hs2 #[.int .i64 m, .slice y n' d, .bool k'.on, .string (tx k'.d), .string (tx k'.bg), .int .i64 k'.at_] (41 : Nat) rfl); have HI5 := Lib.hid (ao_cells HI3.out.st); clear hb2 hs2) | (go_at_call 37; (with_reducible refine (HRN.out _ HJB.out).mono ?_); rintro e w2 ⟨y, d, rfl, hs2, hb2⟩; have HI2 := Lib.hid (HKB.out.below hbl hb2); have hz := (hb2.block _ HZB.out.2).trans HZB.out.1; have HI2c := Lib.hid (ao_cells HI2.out); have HI3 := Lib.hid (regB hbl HI2.out (HHB.out.below hb2) hs2 hz HW1.out (.int .i64 m) (.slice y n' d) (.bool k'.on) (.string (tx k'.d)) (.string (tx k'.bg)) (.int .i64 k'.at_)); have HI5 := Lib.hid (ao_cells HI3.out.st); obtain ⟨z0, z1, z2, z3, z4, z5, zz⟩ := cells6 hz; have zf0 := zz 0; have zf1 := zz 1; have zf2 := zz 2; have zf3 := zz 3; have zf4 := zz 4; have zf5 := zz 5; clear hb2 hz zz hs2))
      all_goals (go_wp2; go_meet; exact ⟨_, _, _, rfl, rfl, HI3⟩)
    case rest =>
      obtain ⟨g, y, d, rfl, rfl, HQ⟩ := hcut
      have HEN := Lib.hid (step_end HQ.out.st hbl HQ.out.his HQ.out.sees HG2.out HOK.out (.int .i64 m) (.slice y n' d) (.bool k'.on) (.string (tx k'.d)) (.string (tx k'.bg)) (.int .i64 k'.at_))
      have HF := Lib.hid HEN.out.1
      have HE2 := HEN.out.2
      rw [← HN'.out] at HE2
      have HE2 := Lib.hid HE2
      have hz := HQ.out.st.z
      unfold zeroC at hz
      obtain ⟨z0, z1, z2, z3, z4, z5, zz⟩ := cells6 hz
      have zf0 := zz 0
      have zf1 := zz 1
      have zf2 := zz 2
      have zf3 := zz 3
      have zf4 := zz 4
      have zf5 := zz 5
      obtain ⟨g0, g1, g2, g3, g4, g5, -⟩ := cells6 HQ.out.v
      clear HEN hz zz HJ0 HJ0B HKA HKB HJA HJB HHA HHB HZB HBA HRN HCS
      cases t'
      · go_wp2
        exact step_ret rfl rfl rfl HF.out HE2.out
      · go_wp2
        exact step_ret rfl rfl rfl HF.out HE2.out
  · go_wp2_with (first | (go_at_call 8; (with_reducible refine (HCS.out _).mono ?_); rintro e y ⟨rfl, rfl⟩) | (go_at_call 27; fail))
    go_at_call 27
    refine (HNW.out _ HH.out.1).mono ?_
    rintro e w1 ⟨rfl, ⟨xb', cb', hh1⟩, hb1⟩
    have HI1 := Lib.hid (StI.step (W := _) HST.out hbl hb1)
    have HH1 := Lib.hid (And.intro hh1 hb1)
    clear hh1 hb1 a0 a1 a2 a3 a4 a5 o1 o2 HNW
    obtain ⟨a0, a1, a2, a3, a4, a5, -⟩ := cells6 HI1.out.a
    obtain ⟨o1, o2⟩ := cells_o HI1.out.o
    go_upto_region 3 with (fail)
    clear a0 a1 a2 a3 a4 a5 o1 o2
    have hw1 := (Array.getElem?_eq_some_iff.1 HI1.out.z).1
    have HW1 := Lib.hid hw1
    have HBA := Lib.hid ((Below.refl w1.heap.size w1).alloc (Nat.le_refl _) (.cells zeroC 41)).drew
    have HKA := Lib.hid (HI1.out.below hbl (Below.refl _ _).drew)
    have HKB := Lib.hid (HI1.out.below hbl HBA.out)
    have HSX := Lib.hid (HXS.out.but HH.out.1 HH1.out.2)
    have HJA := Lib.hid (HSX.out.below (Below.refl _ _).drew)
    have HJB := Lib.hid (HSX.out.below HBA.out)
    have HHA := Lib.hid (HH1.out.1.below (Below.refl _ _).drew)
    have HHB := Lib.hid (HH1.out.1.below HBA.out)
    have HZB : Hid ((w1.alloc (.cells zeroC 41)).drew.heap[w1.heap.size]? = some (.cells zeroC 41 (0, 0)) ∧ w1.heap.size < (w1.alloc (.cells zeroC 41)).drew.heap.size) := Lib.hid ⟨heap_of_drew (heap_alloc_new _ _), by simp⟩
    clear hw1
    unfold zeroC at HBA HKB HJB HHB HZB
    have HJ0 := Lib.hid (ao_cells HKA.out)
    have HJ0B := Lib.hid (ao_cells HKB.out)
    go_cut [22, 23] (fun p t wx => ∃ g y d, p = .pointer (some ⟨g, 0, none⟩) ∧ t = .bool t' ∧ Hid (RegQ w b m #[.int .i64 m, .slice x n c, .bool ko, .string D, .string G, .int .i64 ka] #[.int .u8 d8, .string S', .string T'] #[.int .i64 m, .slice y n' d, .bool k'.on, .string (tx k'.d), .string (tx k'.bg), .int .i64 k'.at_] L' k' y d xb' cb' g wx))
    case first =>
      go_region_held3 (fun w' => w'.cell? ⟨w.heap.size, 0, none⟩ = some (.int .i64 m) ∧ w'.cell? ⟨w.heap.size, 1, none⟩ = some (.slice x n c) ∧ w'.cell? ⟨w.heap.size, 2, none⟩ = some (.bool ko) ∧ w'.cell? ⟨w.heap.size, 3, none⟩ = some (.string D) ∧ w'.cell? ⟨w.heap.size, 4, none⟩ = some (.string G) ∧ w'.cell? ⟨w.heap.size, 5, none⟩ = some (.int .i64 ka) ∧ w'.cell? ⟨w.heap.size + 1, 1, none⟩ = some (.string S') ∧ w'.cell? ⟨w.heap.size + 1, 2, none⟩ = some (.string T'))
        (first | with_reducible exact HI5.out | with_reducible exact HI2c.out | with_reducible exact HI4.out | with_reducible exact HJ0.out | with_reducible exact HJ0B.out)
        (first | (go_at_call 8; (with_reducible refine (HCS.out _).mono ?_); rintro e y ⟨rfl, rfl⟩) | (go_at_call 37; (with_reducible refine (HRN.out _ HJA.out).mono ?_); rintro e w2 ⟨y, d, rfl, hs2, hb2⟩; have HI2 := Lib.hid (HKA.out.below hbl hb2); have HI4 := Lib.hid (ao_cells (HI2.out.below hbl ((Below.refl _ _).alloc (Nat.le_refl _) (.cells #[.int .i64 0, .slice none 0 0, .bool false, .string ⟨#[]⟩, .string ⟨#[]⟩, .int .i64 0] 41)))); have HI2c := Lib.hid (ao_cells HI2.out); have HI3 := Lib.hid (regA hbl HI2.out (HHA.out.below hb2) hs2 #[.int .i64 m, .slice y n' d, .bool k'.on, .string (tx k'.d), .string (tx k'.bg), .int .i64 k'.at_] (41 : Nat) rfl); have HI5 := Lib.hid (ao_cells HI3.out.st); clear hb2 hs2) | (go_at_call 37; (with_reducible refine (HRN.out _ HJB.out).mono ?_); rintro e w2 ⟨y, d, rfl, hs2, hb2⟩; have HI2 := Lib.hid (HKB.out.below hbl hb2); have hz := (hb2.block _ HZB.out.2).trans HZB.out.1; have HI2c := Lib.hid (ao_cells HI2.out); have HI3 := Lib.hid (regB hbl HI2.out (HHB.out.below hb2) hs2 hz HW1.out (.int .i64 m) (.slice y n' d) (.bool k'.on) (.string (tx k'.d)) (.string (tx k'.bg)) (.int .i64 k'.at_)); have HI5 := Lib.hid (ao_cells HI3.out.st); obtain ⟨z0, z1, z2, z3, z4, z5, zz⟩ := cells6 hz; have zf0 := zz 0; have zf1 := zz 1; have zf2 := zz 2; have zf3 := zz 3; have zf4 := zz 4; have zf5 := zz 5; clear hb2 hz zz hs2))
      all_goals (go_wp2; go_meet; exact ⟨_, _, _, rfl, rfl, HI3⟩)
    case rest =>
      obtain ⟨g, y, d, rfl, rfl, HQ⟩ := hcut
      have HEN := Lib.hid (step_end HQ.out.st hbl HQ.out.his HQ.out.sees HG2.out HOK.out (.int .i64 m) (.slice y n' d) (.bool k'.on) (.string (tx k'.d)) (.string (tx k'.bg)) (.int .i64 k'.at_))
      have HF := Lib.hid HEN.out.1
      have HE2 := HEN.out.2
      rw [← HN'.out] at HE2
      have HE2 := Lib.hid HE2
      have hz := HQ.out.st.z
      unfold zeroC at hz
      obtain ⟨z0, z1, z2, z3, z4, z5, zz⟩ := cells6 hz
      have zf0 := zz 0
      have zf1 := zz 1
      have zf2 := zz 2
      have zf3 := zz 3
      have zf4 := zz 4
      have zf5 := zz 5
      obtain ⟨g0, g1, g2, g3, g4, g5, -⟩ := cells6 HQ.out.v
      clear HEN hz zz HJ0 HJ0B HKA HKB HJA HJB HHA HHB HZB HBA HRN HCS
      cases t'
      · go_wp2
        exact step_ret rfl rfl rfl HF.out HE2.out
      · go_wp2
        exact step_ret rfl rfl rfl HF.out HE2.out
end Go.Proofs.Ytbaljpamhmbcjaa
