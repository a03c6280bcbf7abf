/- Walk: Usual of the reference. -/
import Derived.Test.YthkcfdnenbboaaaK38
import Derived.Test.YthkcfdnenbboaaaK40
namespace Go.Proofs.Ythkcfdnenbboaaa
open Go.RowKit Go.Shelf Go.Maps Go.Sort Go.ChangeMaps
theorem sized_iff {L : List Bd} : Sized L ↔ ∀ b ∈ L, b.1.size ≤ maxLen := by
  constructor
  · intro h b hb
    obtain ⟨i, hi, rfl⟩ := List.getElem_of_mem hb
    have := h i hi
    simpa [bn, List.getD, hi] using this
  · intro h i hi
    have := h L[i] (List.getElem_mem hi)
    simpa [bn, List.getD, hi] using this
theorem sized_set {L : List Bd} {s : ByteArray} {a : Int} (h : Sized L) (hs : s.size ≤ maxLen) : Sized (setL L s a) := by
  rw [sized_iff] at h ⊢
  intro b hb
  unfold setL at hb
  simp only [List.mem_append, List.mem_singleton] at hb
  rcases hb with (hb | rfl) | hb
  · exact h b (List.mem_of_mem_take hb)
  · exact hs
  · exact h b (List.mem_of_mem_drop hb)
theorem refU_at : ∀ k : Nat, k < 32 → bn refU k = (nthS usualL (2 * (k : Int) + 1), actOf (nthS usualL (2 * (k : Int) + 2))) := by decide +kernel
theorem usual_new : ∀ k : Nat, k < 32 → (usualF k).has (nthS usualL (2 * (k : Int) + 1)) = false := by decide +kernel
theorem refU_size : ∀ k : Nat, k < 32 → (bn refU k).1.size ≤ 100 := by decide +kernel
theorem RowB.set {w : World} {x : Option Addr} {n cap : Nat} {L : List Bd} (h : RowB w x n cap L) {b o : Nat} (v : Value) (hb : ∀ a, x = some a → a.block ≠ b) : RowB (w.setCell ⟨b, o, none⟩ v) x n cap L := by
  obtain ⟨h1, h2, h3⟩ := h
  refine ⟨h1, h2, h3.imp id ?_⟩
  rintro ⟨g, rfl, hg, hc⟩
  have hne := hb _ rfl
  exact ⟨g, rfl, by simpa using hg, fun i hi => ⟨(World.cell?_of_block (set_other (show g ≠ b from hne))).trans (hc i hi).1, (World.cell?_of_block (set_other (show g ≠ b from hne))).trans (hc i hi).2⟩⟩
/-- The boxes of Usual: the result's, the bindings' so far, the row of all. -/
structure UB (w : World) (g : Nat) (x : Option Addr) (n cap : Nat) (wx : World) : Prop where
  mb : Boxed wx (w.heap.size + 1) 44 (.slice x n cap)
  res : Boxed wx w.heap.size 44 (.slice none 0 0)
  row : RowB wx (some ⟨g, 0, none⟩) 32 32 refU
  gb : w.heap.size + 2 ≤ g
  bel : Below w.heap.size w wx
theorem UB.big {w : World} {g : Nat} {x : Option Addr} {n cap : Nat} {w1 : World} (h : UB w g x n cap w1) : w.heap.size + 2 ≤ w1.heap.size := h.mb.lt
theorem UB.kept {w : World} {g : Nat} {x : Option Addr} {n cap : Nat} {w1 w2 : World} (h : UB w g x n cap w1) (hb : Below w1.heap.size w1 w2) : UB w g x n cap w2 :=
  ⟨(hb.block _ h.mb.lt).trans h.mb, (hb.block _ h.res.lt).trans h.res, h.row.below hb, h.gb, h.bel.trans (below_le hb h.bel.size)⟩
/-- The state of the loop. -/
structure RU (w : World) (g k : Nat) (x : Option Addr) (n cap : Nat) (L : List Bd) (wx : World) : Prop where
  ub : UB w g x n cap wx
  rw : RowB wx x n cap L
  xb : ∀ a, x = some a → w.heap.size + 2 ≤ a.block
  rep : Rep L (usualF k)
  sz : Sized L
  len : n = k
/-- .. while a round's row is made: no block below B has turned. -/
structure UG (w : World) (g : Nat) (x : Option Addr) (n cap B : Nat) (wx : World) : Prop where
  mb : Boxed wx (w.heap.size + 1) 44 (.slice x n cap)
  ub : UB w g x n cap wx
  big : B ≤ wx.heap.size
theorem UG.grown {w : World} {g : Nat} {x : Option Addr} {n cap B : Nat} {w1 w2 : World} {row : Option Nat} (h : UG w g x n cap B w1) (hg : w1.grownBy w2 row) (hr : ∀ j, row = some j → B ≤ j) (hB : w.heap.size + 2 ≤ B) (hgB : g < B) : UG w g x n cap B w2 := by
  have e : ∀ j, j < B → w2.heap[j]? = w1.heap[j]? := fun j hj => hg.block j (by have := h.big; omega) (fun q => by have := hr j q.symm; omega)
  refine ⟨(e _ (by omega)).trans h.mb, ⟨(e _ (by omega)).trans h.ub.mb, (e _ (by omega)).trans h.ub.res, ?_, h.ub.gb, h.ub.bel.grown hg h.ub.bel.size (fun j hj => by have := hr j hj; omega)⟩, Nat.le_trans h.big hg.size⟩
  obtain ⟨a1, a2, ⟨hx, _⟩ | ⟨g', hg', a3, a4⟩⟩ := h.ub.row
  · cases hx
  · cases hg'
    exact ⟨a1, a2, .inr ⟨g, rfl, by have := hg.size; omega, fun i hi => ⟨(World.cell?_of_block (e g hgB)).trans (a4 i hi).1, (World.cell?_of_block (e g hgB)).trans (a4 i hi).2⟩⟩⟩
theorem ru_step {w w6 : World} {g k B n cap N c3 : Nat} {x y3 : Option Addr} {L L' : List Bd} {s : ByteArray} {a : Int} (hs : L' = setL L s a ∧ Rep L (usualF k) ∧ Sized L ∧ s.size ≤ maxLen ∧ N = k + 1 ∧ w.heap.size + 2 ≤ B) (H6 : UG w g x n cap B w6) (ho3 : w6.ownsRow B 91 2 (.slice y3 N c3) N (flat L')) (hL : L'.length = N)
    (hne : g < B) (hff : usualF (k + 1) = (usualF k).put s a) : RU w g (k + 1) y3 N c3 L' (w6.setCell ⟨w.heap.size + 1, 0, none⟩ (.slice y3 N c3)) := by
  obtain ⟨e1, hrep, hsz, hss, hN, hB⟩ := hs
  have hxb : ∀ a, y3 = some a → B ≤ a.block ∧ a.block < w6.heap.size := fun a ha => by
    subst ha
    have := ho3.lt a.block rfl
    exact this
  have hgb := H6.ub.gb
  refine ⟨⟨H6.mb.set _, ?_, ?_, hgb, H6.ub.bel.setCell (p := ⟨w.heap.size + 1, 0, none⟩) (by simp) _⟩, ?_, fun a ha => by have := (hxb a ha).1; omega, ?_, ?_, hN⟩
  · exact (set_other (by omega)).trans H6.ub.res
  · exact H6.ub.row.set _ (fun a ha => by cases ha; simp; omega)
  · exact (rowB_of ho3 hL).set _ (fun a ha => by have := (hxb a ha).1; omega)
  · rw [e1, hff]
    exact rep_set hrep s.data.toList a
  · rw [e1]; exact sized_set hsz hss
set_option maxRecDepth 100000 in
set_option maxHeartbeats 16000000 in
theorem wUsualR (w : World) : Calls Try.prog 20 #[] w fun e w' => ∃ x cap L, e = .returned (.agg #[.slice x 32 cap]) ∧ RowB w' x 32 cap L ∧ (Rep L (usualF 32) ∧ Sized L) ∧ Below w.heap.size w w' := by
  have b1 := Boxed.new (w.alloc (.cells #[.slice none 0 0] 44)) 44 (.slice none 0 0)
  simp only [World.size_alloc] at b1
  have HB1 := Lib.hid b1
  have HB0 := Lib.hid ((Boxed.new w 44 (.slice none 0 0)).alloc (.cells #[.slice none 0 0] 44))
  have HB := Lib.hid (((Below.refl w.heap.size w).alloc (Nat.le_refl _) (.cells #[.slice none 0 0] 44)).alloc (by simp) (.cells #[.slice none 0 0] 44))
  have HZ := Lib.hid (show ((w.alloc (.cells #[.slice none 0 0] 44)).alloc (.cells #[.slice none 0 0] 44)).heap.size = w.heap.size + 2 by simp)
  clear b1
  go_enter Try.func20, Try.ntmps20
  go_wp2_with (first | (go_at_call 50; fail))
  go_at_call 50
  refine (wusualR _).mono ?_
  rintro e w1 ⟨g, rfl, hrow, hb, hgz⟩
  have HG : Hid (w.heap.size + 2 ≤ g) := by rw [HZ.out] at hgz; exact hgz
  have HU : Hid (UB w g none 0 0 w1) := ⟨(hb.block _ HB1.out.lt).trans HB1.out, (hb.block _ HB0.out.lt).trans HB0.out, hrow, HG.out, HB.out.trans (below_le hb HB.out.size)⟩
  clear hrow hb HB0 HB1 HB hgz
  go_wp2_with fail
  go_loopg [3] 32 (fun gh i wr => ∃ (k : Nat) (x : Option Addr) (n cap : Nat) (L : List Bd), k + gh = 32 ∧ i = .int .i64 k ∧ Hid (RU w g k x n cap L wr))
  case atStart => exact ⟨0, none, 0, 0, [], rfl, rfl, Lib.hid ⟨HU.out, ⟨rfl, Nat.le_refl _, .inl ⟨rfl, rfl⟩⟩, (fun a h => by cases h), ⟨[], ⟨List.Pairwise.nil, (fun x => by simp [noBnd, usualF, Bnd.has])⟩, rfl⟩, (fun i hi => by simp at hi), rfl⟩⟩
  case round =>
    clear HU
    obtain ⟨k, x, n, cap, L, hk, rfl, HR⟩ := hrel
    have cm := HR.out.ub.mb.cell
    by_cases hlt : k < 32
    · obtain ⟨s, hs⟩ : ∃ s, s = (bn refU k).1 := ⟨_, rfl⟩
      obtain ⟨a, ha⟩ : ∃ a, a = (bn refU k).2 := ⟨_, rfl⟩
      have hrn := refU_at k hlt
      have hsn : s = nthS usualL (2 * (k : Int) + 1) := by rw [hs, hrn]
      have han : a = actOf (nthS usualL (2 * (k : Int) + 2)) := by rw [ha, hrn]
      have HFF := Lib.hid (show usualF (k + 1) = (usualF k).put s a by rw [hsn, han]; rfl)
      have hss : s.size ≤ maxLen := by rw [hs]; have := refU_size k hlt; unfold maxLen; omega
      have HSS := Lib.hid hss
      have HAT := Lib.hid (show isAt L s = false by have := rep_has HR.out.rep s.data.toList; exact this.trans (by have := usual_new k hlt; rw [← hsn] at this; exact this))
      have HL := Lib.hid HR.out.rw.1
      have HNK := Lib.hid HR.out.len
      have hnc := HR.out.rw.2.1
      obtain ⟨hq1, hq2, ⟨hx, _⟩ | ⟨g', hg', hgl, hcs⟩⟩ := HR.out.ub.row
      · cases hx
      cases hg'
      clear hq1 hq2
      have hc1 := (hcs k hlt).1
      have hc2 := (hcs k hlt).2
      rw [← hs] at hc1
      rw [← ha] at hc2
      have HC1 := Lib.hid hc1
      have HC2 := Lib.hid hc2
      have hn32 : n ≤ 32 := by have := HNK.out; omega
      have HSK := Lib.hid hs
      have HAK := Lib.hid ha
      clear hcs hrn hsn han hs ha hss
      go_upto_region 6 with (fail)
      go_cut [4] (fun t wx => t = .int .i64 (plc L s : Nat) ∧ Hid (Below wr.heap.size wr wx))
      case first =>
        have HKP := Lib.hid (fun W' (h : Below wr.heap.size wr W') => And.intro ((h.cell (p := ⟨w.heap.size + 1, 0, none⟩) HR.out.ub.mb.lt).trans cm) ((h.cell (p := ⟨g, k * 2, none⟩) hgl).trans HC1.out))
        go_region_held3 (fun w' => w'.cell? ⟨w.heap.size + 1, 0, none⟩ = some (.slice x n cap) ∧ w'.cell? ⟨g, k * 2, none⟩ = some (.string s))
          (first | exact HKP.out _ (Below.refl _ _) | exact HKP.out _ (Below.refl _ _).drew | exact HKP.out _ HB2.out)
          ((go_at_call 51; refine (wplace (HR.out.rw.below (Below.refl _ _).drew) HR.out.sz (by omega) s HSS.out).mono ?_; rintro e w2 ⟨rfl, hB2⟩; have HB2 := Lib.hid ((Below.refl wr.heap.size wr).drew.trans hB2); clear hB2))
        go_wp2_with (fail)
        go_meet
        exact ⟨rfl, HB2.out⟩
      obtain ⟨rfl, HBx⟩ := hcut
      obtain ⟨i, hi⟩ : ∃ i, i = plc L s := ⟨_, rfl⟩
      rw [← hi]
      have hin : i ≤ n := by rw [hi, HL.out]; exact plc_le _ _
      have HI := Lib.hid hi
      have HBB := Lib.hid (show w.heap.size + 2 ≤ wc.heap.size by have := HR.out.ub.big; have := HBx.out.size; omega)
      have HNE := Lib.hid (show g < wc.heap.size by have := HBx.out.size; omega)
      have H3 : UG w g x n cap wc.heap.size wc := ⟨(HR.out.ub.kept HBx.out).mb, HR.out.ub.kept HBx.out, Nat.le_refl _⟩
      have hpad : Below wc.heap.size wc (wc.alloc (.cells #[] 91)) := (Below.refl _ _).alloc (Nat.le_refl _) _
      have HRW := HR.out.rw.below HBx.out
      obtain ⟨v1, w4, hr1, ho1, hg1⟩ := run_app (w := wc.alloc (.cells #[] 91)) (World.ownsRow_made (base := wc.heap.size) (e := 91) (size := 2) wc #[] 0 (Nat.le_refl _) (by decide) rfl) x i cap (flat (L.take i)) (by have h := flat_len (L.take i); rw [List.length_take] at h; have h2 := HL.out; omega) ((HRW.below hpad).take hin) (flat_one _) (by omega) (by simp) 42
      rw [Nat.zero_add, List.nil_append] at ho1
      obtain ⟨y1, c1, rfl⟩ := owns_slice ho1
      have HB4 : Below wc.heap.size wc w4 := hpad.grown hg1 (by simp) (fun j hj => by simp [Value.ownBlock] at hj; omega)
      have H4 := (H3.grown (World.grownBy_alloc wc (.cells #[] 91) none) (fun j hj => by cases hj) HBB.out HNE.out).grown hg1 (fun j hj => by simp [Value.ownBlock] at hj; omega) HBB.out HNE.out
      obtain ⟨hq1, hq2, ⟨hx, _⟩ | ⟨g4, hg4, hgl4, hcs4⟩⟩ := H4.ub.row
      · cases hx
      cases hg4
      clear hq1 hq2
      obtain ⟨hd1, hd2⟩ := hcs4 k hlt
      rw [← HSK.out] at hd1
      rw [← HAK.out] at hd2
      obtain ⟨v2, w5, hr2, ho2, hg2⟩ := run_app (w := w4.alloc (.cells #[.string s, .int .i64 a] 91)) (ho1.alloc _) (some ⟨w4.heap.size, 0, none⟩) 1 1 (flat [(s, a)]) rfl (.inr ⟨_, rfl, fun j u hu => by
          have := World.news_of_block (cs := #[.string s, .int .i64 a]) (t := 91) (fr := (0, 0)) (heap_alloc_new w4 _) j u hu
          exact this⟩) (flat_one _) (by omega) (by have := H4.big; simp; omega) 42
      obtain ⟨y2, c2, rfl⟩ := owns_slice ho2
      have HB5 : Below wc.heap.size wc w5 := (HB4.alloc HB4.size _).grown hg2 (by have := HB4.size; simp; omega) (fun j hj => (ho1.lt j hj).1)
      have H5 := Lib.hid ((H4.grown (World.grownBy_alloc w4 (.cells #[.string s, .int .i64 a] 91) none) (fun j hj => by cases hj) HBB.out HNE.out).grown hg2 (fun j hj => (ho1.lt j hj).1) HBB.out HNE.out)
      have cm3 := H3.mb.cell
      have cm5 := H5.out.mb.cell
      have hlt3 : w.heap.size + 1 < wc.heap.size := by have := HBB.out; omega
      have hlt5 : w.heap.size + 1 < w5.heap.size := by have := H5.out.big; omega
      have hbase5 : wc.heap.size ≤ w5.heap.size := HB5.size
      have HO2 := Lib.hid ho2
      have HR5 := Lib.hid (HRW.below HB5)
      have R1 := Lib.hid hr1
      have R2 := Lib.hid hr2
      clear hcs4 hr1 hr2 hg1 hg2 ho1 ho2 HB4 HB5 H3 H4 HRW hpad cm hc1 hc2 hi
      rcases HR5.out.2.2 with ⟨rfl, rfl⟩ | ⟨gx, rfl, hgx, _⟩
      · have hn00 : n = 0 := by omega
        have hi0 : i = 0 := by omega
        subst hn00
        subst hi0
        obtain ⟨v3, w6, hr3, ho3, hg3⟩ := run_app HO2.out none 0 0 (flat (L.drop (0))) (by have h := flat_len (L.drop (0)); rw [List.length_drop] at h; have h2 := HL.out; omega) (.inl ⟨rfl, rfl, rfl⟩) (flat_one _) (by omega) (by omega) 42
        rw [show 0 + 1 + 0 = 1 by omega] at ho3
        obtain ⟨y3, c3, rfl⟩ := owns_slice ho3
        have H6 := Lib.hid (H5.out.grown hg3 (fun j hj => (HO2.out.lt j hj).1) HBB.out HNE.out)
        have HO3 := Lib.hid ho3
        have R3 := Lib.hid hr3
        have cm6 := H6.out.mb.cell
        have fm6 := H6.out.mb.frozen
        clear hr3 ho3 hg3
        go_wp2_with (first | (at_builtin; refine wpList_app _ rfl _ _ rfl rfl _ _ _ _ rfl rfl R1.out ?_; clear R1) | (at_builtin; refine wpList_app _ rfl _ _ rfl rfl _ _ _ _ rfl rfl R2.out ?_; clear R2) | (at_builtin; refine wpList_app _ rfl _ _ rfl rfl _ _ _ _ rfl rfl R3.out ?_; clear R3))
        go_roundg (gk - 1)
        case measure => omega
        case rel =>
          refine ⟨k + 1, y3, 1, c3, setL L s a, by omega, by go_num, Lib.hid ?_⟩
          refine ru_step ⟨rfl, HR.out.rep, HR.out.sz, HSS.out, by have := HNK.out; omega, HBB.out⟩ H6.out ?_ ?_ HNE.out HFF.out
          · rw [show setL L s a = L.take (0) ++ [(s, a)] ++ L.drop (0) by rw [setL, HAT.out, ← HI.out]; rfl]
            have := HO3.out
            rwa [← flat_app, ← flat_app] at this
          · rw [setL_len, HAT.out, if_neg (by simp)]; have h2 := HL.out; omega
      · by_cases hc : cap = i
        · have hni : n = i := by omega
          subst hc
          subst hni
          obtain ⟨v3, w6, hr3, ho3, hg3⟩ := run_app HO2.out (some ⟨gx, 0, none⟩) 0 0 (flat (L.drop (n))) (by have h := flat_len (L.drop (n)); rw [List.length_drop] at h; have h2 := HL.out; omega) (.inr ⟨_, rfl, fun j u hu => by rw [List.drop_eq_nil_of_le (by rw [← HL.out]; exact Nat.le_refl _)] at hu; simp [flat] at hu⟩) (flat_one _) (by omega) (by omega) 42
          rw [show n + 1 + 0 = n + 1 by omega] at ho3
          obtain ⟨y3, c3, rfl⟩ := owns_slice ho3
          have H6 := Lib.hid (H5.out.grown hg3 (fun j hj => (HO2.out.lt j hj).1) HBB.out HNE.out)
          have HO3 := Lib.hid ho3
          have R3 := Lib.hid hr3
          have cm6 := H6.out.mb.cell
          have fm6 := H6.out.mb.frozen
          clear hr3 ho3 hg3
          go_wp2_with (first | (at_builtin; refine wpList_app _ rfl _ _ rfl rfl _ _ _ _ rfl rfl R1.out ?_; clear R1) | (at_builtin; refine wpList_app _ rfl _ _ rfl rfl _ _ _ _ rfl rfl R2.out ?_; clear R2) | (at_builtin; refine wpList_app _ rfl _ _ rfl rfl _ _ _ _ rfl rfl R3.out ?_; clear R3))
          go_roundg (gk - 1)
          case measure => omega
          case rel =>
            refine ⟨k + 1, y3, n + 1, c3, setL L s a, by omega, by go_num, Lib.hid ?_⟩
            refine ru_step ⟨rfl, HR.out.rep, HR.out.sz, HSS.out, by have := HNK.out; omega, HBB.out⟩ H6.out ?_ ?_ HNE.out HFF.out
            · rw [show setL L s a = L.take (n) ++ [(s, a)] ++ L.drop (n) by rw [setL, HAT.out, ← HI.out]; rfl]
              have := HO3.out
              rwa [← flat_app, ← flat_app] at this
            · rw [setL_len, HAT.out, if_neg (by simp)]; have h2 := HL.out; omega
        · have hci : i < cap := by omega
          clear hc
          obtain ⟨v3, w6, hr3, ho3, hg3⟩ := run_app HO2.out (some ⟨gx, i * 2, none⟩) (n - i) (cap - i) (flat (L.drop (i))) (by have h := flat_len (L.drop (i)); rw [List.length_drop] at h; have h2 := HL.out; omega) (.inr ⟨_, rfl, HR5.out.drop hin⟩) (flat_one _) (by omega) (by omega) 42
          rw [show i + 1 + (n - i) = n + 1 by omega] at ho3
          obtain ⟨y3, c3, rfl⟩ := owns_slice ho3
          have H6 := Lib.hid (H5.out.grown hg3 (fun j hj => (HO2.out.lt j hj).1) HBB.out HNE.out)
          have HO3 := Lib.hid ho3
          have R3 := Lib.hid hr3
          have cm6 := H6.out.mb.cell
          have fm6 := H6.out.mb.frozen
          clear hr3 ho3 hg3
          go_wp2_with (first | (at_builtin; refine wpList_app _ rfl _ _ rfl rfl _ _ _ _ rfl rfl R1.out ?_; clear R1) | (at_builtin; refine wpList_app _ rfl _ _ rfl rfl _ _ _ _ rfl rfl R2.out ?_; clear R2) | (at_builtin; refine wpList_app _ rfl _ _ rfl rfl _ _ _ _ rfl rfl R3.out ?_; clear R3))
          go_roundg (gk - 1)
          case measure => omega
          case rel =>
            refine ⟨k + 1, y3, n + 1, c3, setL L s a, by omega, by go_num, Lib.hid ?_⟩
            refine ru_step ⟨rfl, HR.out.rep, HR.out.sz, HSS.out, by have := HNK.out; omega, HBB.out⟩ H6.out ?_ ?_ HNE.out HFF.out
            · rw [show setL L s a = L.take (i) ++ [(s, a)] ++ L.drop (i) by rw [setL, HAT.out, ← HI.out]; rfl]
              have := HO3.out
              rwa [← flat_app, ← flat_app] at this
            · rw [setL_len, HAT.out, if_neg (by simp)]; have h2 := HL.out; omega
    · have hk2 : k = 32 := by omega
      subst hk2
      have hn32 := HR.out.len
      subst hn32
      have cr := HR.out.ub.res.cell
      have fr := HR.out.ub.res.frozen
      go_wp2
      refine bodyPost_ret (results_cell_row rfl _ _ w.heap.size 44 #[.slice x 32 cap] (0, 0) _ rfl (HR.out.ub.res.set _) Try.underlying44 rfl (by kernel_rfl)) rfl ?_
      exact ⟨x, cap, L, rfl, HR.out.rw.set _ (fun a ha => by have := HR.out.xb a ha; omega), ⟨HR.out.rep, HR.out.sz⟩, HR.out.ub.bel.setCell (p := ⟨w.heap.size, 0, none⟩) (Nat.le_refl _) _⟩
end Go.Proofs.Ythkcfdnenbboaaa
