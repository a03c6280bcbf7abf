/- Own texts, merged: QQ, QR, QS. -/
import Derived.Test.YtmhfnpabgkkjaaaGreatMP28
/- Walk: the reference's pieces. -/
namespace Go.Proofs.YtmhfnpabgkkjaaaGreat
open Go.RowKit Go.Shelf
def tokV (t : Tok) : List Value := [.int .u8 (kd t.k), .string (tx t.s)]
def toksV (L : List Tok) : List Value := L.flatMap tokV
theorem toksV_len (L : List Tok) : (toksV L).length = L.length * 2 := by
  induction L with
  | nil => rfl
  | cons t r ih => simp only [toksV, List.flatMap_cons, List.length_append, List.length_cons] at ih ⊢; rw [ih]; simp [tokV]; omega
theorem toksV_app (A B : List Tok) : toksV (A ++ B) = toksV A ++ toksV B := by simp [toksV]
def PiecesEnd (l : Bs) (w : World) (e : Ending) (w' : World) : Prop := Below w.heap.size w w' ∧
  (((lex l).2 = false ∧ e = .returned (.tuple #[.slice none 0 0, .bool false])) ∨ ((lex l).2 = true ∧ ∃ v, e = .returned (.tuple #[v, .bool true]) ∧ w'.ownsRow w.heap.size 76 2 v (lex l).1.length (toksV (lex l).1)))
theorem lex_blank (S : Bs) (hne : 0 < S.length) (h : S.getD 0 0 = 32) : lex S = lex (S.drop 1) := by
  have e := lex_at S 0 (Nat.zero_le _)
  have e2 := lex_at (S.drop 1) 0 (Nat.zero_le _)
  have hb : blAt S 0 = blAt (S.drop 1) 0 + 1 := by
    cases S with
    | nil => cases hne
    | cons c t =>
      have hc : c = 32 := by simpa using h
      unfold blAt cntBl
      simp only [List.drop_zero, List.drop_succ_cons]
      rw [List.takeWhile_cons_of_pos (p := fun c => c == 32) (by simp [hc])]
      simp
  rw [List.drop_zero] at e e2
  rw [e, e2, hb]
  by_cases hq : S.length ≤ blAt (S.drop 1) 0 + 1
  · rw [if_pos hq, if_pos (by rw [List.length_drop]; omega)]
  · rw [if_neg hq, if_neg (by rw [List.length_drop]; omega)]
    rw [List.drop_drop, show 1 + blAt (S.drop 1) 0 = blAt (S.drop 1) 0 + 1 by omega]
    cases lex1 (S.drop (blAt (S.drop 1) 0 + 1)) with
    | none => rfl
    | some x =>
      obtain ⟨t, k⟩ := x
      simp only [List.drop_drop]
      rw [show 1 + (blAt (S.drop 1) 0 + k) = blAt (S.drop 1) 0 + 1 + k by omega]
theorem lex_piece (S : Bs) (hne : 0 < S.length) (h : S.getD 0 0 ≠ 32) : lex S = match lex1 S with
    | none => ([], false)
    | some (t, k) => (t :: (lex (S.drop k)).1, (lex (S.drop k)).2) := by
  have e := lex_at S 0 (Nat.zero_le _)
  have hb : blAt S 0 = 0 := by
    cases S with
    | nil => cases hne
    | cons c t =>
      unfold blAt cntBl
      rw [List.drop_zero, List.takeWhile_cons_of_neg (p := fun c => c == 32) (by simpa using h)]
      rfl
  rw [List.drop_zero, hb, if_neg (by omega), List.drop_zero] at e
  rw [e]
  cases lex1 S with
  | none => rfl
  | some x => obtain ⟨t, k⟩ := x; simp only [Nat.zero_add]
theorem info_piece : ∃ i0, Tryz.prog.info? 76 = some i0 ∧ i0.zero = some (.agg #[.int .u8 0, .string ⟨#[]⟩]) ∧ i0.size = 2 ∧ i0.bytes = 24 :=
  info_parts (show (Tryz.prog.info? 76).map (fun i => (i.zero, i.size, i.bytes)) = some (some (.agg #[.int .u8 0, .string ⟨#[]⟩]), 2, 24) by kernel_rfl)
theorem two_cells (w : World) (u v : Value) (T : TypeId) : ∀ j x, [u, v][j]? = some x → (w.alloc (.cells #[u, v] T)).cell? ((⟨w.heap.size, 0, none⟩ : Addr).add j) = some x := fun j x h => by
  rw [addr_add]
  have hh := heap_alloc_new w (.cells #[u, v] T)
  match j, h with
  | 0, h => cases h; unfold World.cell?; simp only; rw [hh]; rfl
  | 1, h => cases h; unfold World.cell?; simp only; rw [hh]; rfl
  | j + 2, h => cases h
theorem two_cells2 (w : World) (o : Obj) (u v : Value) (T : TypeId) : ∀ j x, [u, v][j]? = some x → ((w.alloc o).alloc (.cells #[u, v] T)).cell? ((⟨w.heap.size + 1, 0, none⟩ : Addr).add j) = some x := by
  have h := two_cells (w.alloc o) u v T
  rwa [show (w.alloc o).heap.size = w.heap.size + 1 by simp] at h
set_option maxRecDepth 100000 in
set_option maxHeartbeats 4000000 in
theorem rpieces (l : Bs) (hl : l.length ≤ 1000000) (w : World) : Calls Tryz.prog 21 #[.string (tx l)] w (PiecesEnd l w) := by
  obtain ⟨i0, hi, hz0, hz1, hz2⟩ := info_piece
  have HI := Lib.hid (And.intro hi (And.intro hz0 (And.intro hz1 hz2)))
  have HL := Lib.hid hl
  clear hi hz0 hz1 hz2 hl
  go_enter Tryz.func21, Tryz.ntmps21
  go_wp2_with fail
  go_loopg [0, 4] l.length (fun gh s v wr => ∃ (S : Bs) (D : List Tok), s = .string (tx S) ∧ S.length ≤ gh ∧ D.length + S.length ≤ l.length ∧ Hid (lex l = (D ++ (lex S).1, (lex S).2)) ∧ Hid (wr.ownsRow w.heap.size 76 2 v D.length (toksV D)) ∧ Hid (Below w.heap.size w wr))
  case atStart => exact ⟨l, [], rfl, Nat.le_refl _, by simp, Lib.hid (by simp), Lib.hid (World.ownsRow_nil _ _ _ _), Lib.hid (Below.refl _ _)⟩
  case round =>
    obtain ⟨S, D, rfl, hg, hd, HX, HO, HB⟩ := hrel
    have HS := Lib.hid (tx_size' S)
    have HLL := HL.out
    by_cases hS : S = []
    · subst hS
      have b0 : (tx []).toList.isEmpty = true := by rw [tx_toList]; rfl
      go_wp2
      go_ret2
      refine ⟨HB.out, .inr ?_⟩
      have hx := HX.out
      rw [show lex [] = ([], true) from rfl, List.append_nil] at hx
      rw [hx]
      exact ⟨rfl, _, rfl, HO.out⟩
    · have hpos : 0 < S.length := List.length_pos_iff.2 hS
      have b0 : (tx S).toList.isEmpty = false := by rw [tx_toList]; simpa using hS
      have p0 : 0 < (tx S).size := by have := HS.out; omega
      have HX0 := Lib.hid (tx_at S 0 hpos)
      have i1 : 1 ≤ (tx S).size := by omega
      by_cases q : S.getD 0 0 = 32
      · have z : (((tx S)[0]'p0).toNat : Int) = 32 := toNat_of (HX0.out.trans q)
        have HXE : Hid ((tx S).extract 1 (tx S).size = tx (S.drop 1)) := Lib.hid (by rw [tx_extract, List.take_of_length_le (by rw [List.length_drop, tx_size']; omega)])
        have HX2 : Hid (lex l = (D ++ (lex (S.drop 1)).1, (lex (S.drop 1)).2)) := Lib.hid (by rw [HX.out, lex_blank S hpos q])
        clear q
        go_wp2
        rw [HXE.out]
        go_roundg (gk - 1)
        case measure => omega
        case rel => exact ⟨S.drop 1, D, rfl, by rw [List.length_drop]; omega, by rw [List.length_drop]; omega, HX2, HO, HB⟩
      · have z : ¬ (((tx S)[0]'p0).toNat : Int) = 32 := ne_nat (c := (tx S)[0]'p0) (v := 32) (by rw [HX0.out]; exact q)
        have HLP := Lib.hid (lex_piece S hpos q)
        have HPC := Lib.hid (fun W => rpiece S (by omega) hpos W)
        clear q
        go_wp2_with (first | (go_at_call 32; fail))
        go_at_call 32
        refine (HPC.out _).mono ?_
        rintro e w2 ⟨hb2, ⟨h1, a, b, n, rfl⟩ | ⟨t, n, h1, rfl⟩⟩
        · have HB2 := Lib.hid (HB.out.trans (below_le hb2 HB.out.size))
          have HF : Hid ((lex l).2 = false) := Lib.hid (by rw [HX.out, HLP.out, h1])
          clear hb2 h1
          go_wp2
          go_ret2
          exact ⟨HB2.out.alloc HB2.out.size _, .inl ⟨HF.out, rfl⟩⟩
        · have HN := Lib.hid (lex1_len h1)
          have HB2 := Lib.hid hb2
          have HX2 : Hid (lex l = ((D ++ [t]) ++ (lex (S.drop n)).1, (lex (S.drop n)).2)) := Lib.hid (by rw [HX.out, HLP.out, h1]; simp)
          have HXE : Hid ((tx S).extract n (tx S).size = tx (S.drop n)) := Lib.hid (by rw [tx_extract, List.take_of_length_le (by rw [List.length_drop, tx_size']; exact Nat.le_refl _)])
          have HO2 := Lib.hid (row_kept HO.out (fun j hj => hb2.block j (HO.out.lt j hj).2))
          have n1 : 1 ≤ n := HN.out.1
          have n2 : n ≤ (tx S).size := by have := HN.out.2.1; have := HS.out; omega
          have i2 : (n : Int) ≤ ((tx S).size : Int) := by omega
          clear hb2 h1
          go_wp2_with (first | (at_builtin; go_loud (refine wpList_append_own _ rfl _ _ 55 rfl w.heap.size 76 i0 (.agg #[.int .u8 0, .string ⟨#[]⟩]) 2 24 Tryz.underlying55 HI.out.1 HI.out.2.1 HI.out.2.2.1 HI.out.2.2.2 rfl (by decide) _ _ _ rfl ((HO2.out.alloc _).alloc _) ⟨w2.heap.size + 1, 0, none⟩ 1 1 (tokV t) rfl rfl (two_cells2 w2 _ (.int .u8 (kd t.k)) (.string (tx t.s)) 76) (by simp [tokV, Value.oneCell']) (by unfold maxLen; omega) (by omega) (by have := HB.out.size; have := HB2.out.size; simp; omega) ?_)))
          intro v' w3 ho1 hg1 _
          have HO3 := Lib.hid ho1
          have HB3 : Hid (Below w.heap.size w w3) := Lib.hid ((((HB.out.trans (below_le HB2.out HB.out.size)).alloc (by have := HB.out.size; have := HB2.out.size; omega) _).alloc (by have := HB.out.size; have := HB2.out.size; simp; omega) _).grown hg1 (by have := HB.out.size; have := HB2.out.size; simp; omega) (fun k e => (HO.out.lt k e).1))
          clear ho1 hg1
          go_wp2
          rw [HXE.out]
          go_roundg (gk - 1)
          case measure => omega
          case rel =>
            refine ⟨S.drop n, D ++ [t], rfl, by rw [List.length_drop]; omega, by rw [List.length_drop, List.length_append]; simp; have := HN.out.2.1; omega, HX2, Lib.hid ?_, HB3⟩
            rw [List.length_append, toksV_app]
            exact HO3.out
end Go.Proofs.YtmhfnpabgkkjaaaGreat
/- Walks: the reference's is, two, between. -/
namespace Go.Proofs.YtmhfnpabgkkjaaaGreat
open Go.RowKit Go.Shelf
attribute [local go_sem] run_store_float
/-- Pieces in memory, in blocks below B. -/
def TokV (B : Nat) (w : World) (v : Value) (L : List Tok) : Prop := ∃ x cap, v = .slice x L.length cap ∧ L.length ≤ cap ∧ (x = none → L = []) ∧
  ∀ a, x = some a → ∀ i t, L[i]? = some t → a.block < B ∧ w.cell? (a.add (i * 2)) = some (.int .u8 (kd t.k)) ∧ w.cell? (a.add (i * 2 + 1)) = some (.string (tx t.s))
theorem TokV.kept {B : Nat} {w w' : World} {v : Value} {L : List Tok} (h : TokV B w v L) (hk : ∀ b, b < B → w'.heap[b]? = w.heap[b]?) : TokV B w' v L := by
  obtain ⟨x, cap, hv, h1, h2, h3⟩ := h
  refine ⟨x, cap, hv, h1, h2, fun a ha i t hi => ?_⟩
  obtain ⟨g1, g2, g3⟩ := h3 a ha i t hi
  exact ⟨g1, cell_same (by rw [add_block]; exact hk _ g1) g2, cell_same (by rw [add_block]; exact hk _ g1) g3⟩
theorem TokV.below {B n : Nat} {w w' : World} {v : Value} {L : List Tok} (h : TokV B w v L) (hb : Below n w w') (hn : B ≤ n) : TokV B w' v L := h.kept (fun b h1 => hb.block b (by omega))
theorem TokV.agg {B : Nat} {w : World} {v : Value} {L : List Tok} (h : TokV B w v L) : ∃ x n c, v = .slice x n c := by
  obtain ⟨x, cap, rfl, _⟩ := h; exact ⟨_, _, _, rfl⟩
theorem kd_eq {a b : Nat} (ha : a = 1 ∨ a = 2 ∨ a = 3 ∨ a = 4) (hb : b = 2 ∨ b = 4) : (kd a == kd b) = (a == b) := by
  rcases ha with rfl | rfl | rfl | rfl <;> rcases hb with rfl | rfl <;> decide
/-- The kinds of all pieces. -/
def KOk (L : List Tok) : Prop := ∀ t ∈ L, (t.k = 1 ∨ t.k = 2 ∨ t.k = 3 ∨ t.k = 4) ∧ (t.k = 1 → NumT t.s)
set_option maxHeartbeats 1000000 in
theorem ris (B : Nat) (v : Value) (L : List Tok) (k : Nat) (hk : k = 2 ∨ k = 4) (str : Bs) (hK : KOk L) (hL : L.length ≤ 1000000) (w : World) (h : TokV B w v L) :
    Calls Tryz.prog 62 #[v, .int .u8 (kd k), .string (tx str)] w fun e w' => e = .returned (.bool (isTok L k str)) ∧ w = w' := by
  obtain ⟨x, cap, rfl, hcap, hx, hc⟩ := h
  cases L with
  | nil =>
    simp only [List.length_nil]
    go_enter Tryz.func62, Tryz.ntmps62
    go_wp2
    go_ret
    exact ⟨rfl, rfl⟩
  | cons t r =>
    obtain ⟨a, rfl⟩ : ∃ a, x = some a := by
      cases x with
      | none => have := hx rfl; cases this
      | some a => exact ⟨a, rfl⟩
    obtain ⟨g1, g2, g3⟩ := hc a rfl 0 t rfl
    have hkt := (hK t (by simp)).1
    have HE := Lib.hid (kd_eq hkt hk)
    have HB := Lib.hid (tx_beq t.s str)
    simp only [Nat.zero_mul, Nat.zero_add] at g2 g3
    rw [show a.add 0 = a from rfl] at g2
    have g3' : w.cell? ⟨a.block, a.off + 1, none⟩ = some (.string (tx t.s)) := by simpa [Addr.add] using g3
    obtain ⟨N, hN⟩ : ∃ N, N = (t :: r).length := ⟨_, rfl⟩
    have hN1 : 0 < N := by rw [hN]; simp
    rw [← hN] at hL hcap ⊢
    clear hc hx hK hN g3 hkt hk
    by_cases q : kd t.k = kd k
    · have q1 : (t.k == k) = true := by rw [← HE.out, q]; simp
      rw [← q]
      generalize kd t.k = K at g2 ⊢
      clear q HE
      go_enter Tryz.func62, Tryz.ntmps62
      go_wp2
      go_ret
      exact ⟨ret_bool (by simp [isTok, q1, HB.out]), rfl⟩
    · have q1 : (t.k == k) = false := by rw [← HE.out]; simpa using q
      have q2 : (kd t.k == kd k) = false := by simpa using q
      generalize kd t.k = K at g2 q q2 ⊢
      generalize kd k = K2 at q q2 ⊢
      clear HE
      go_enter Tryz.func62, Tryz.ntmps62
      go_wp2
      go_ret
      exact ⟨ret_bool (by simp [isTok, q1]), rfl⟩
end Go.Proofs.YtmhfnpabgkkjaaaGreat
/- Walks: the reference's two, between; a slice of pieces. -/
namespace Go.Proofs.YtmhfnpabgkkjaaaGreat
open Go.RowKit Go.Shelf
attribute [local go_sem] run_store_float
set_option maxHeartbeats 2000000 in
theorem rtwo (A : Nat → Prop) (op : Bs) (va vb : Value) (ta tb : Tree) (w : World) (hlo : ∀ b, w.heap.size ≤ b → A b) (ha : NodeV A w va ta) (hb : NodeV A w vb tb) :
    Calls Tryz.prog 35 #[.string (tx op), va, vb] w fun e w' => ∃ v, e = .returned v ∧ NodeV A w' v (two op ta tb) ∧ Below w.heap.size w w' := by
  have HA := Lib.hid ha
  have HB := Lib.hid hb
  have HL := Lib.hid hlo
  obtain ⟨oa, na, sa, la⟩ := ta
  obtain ⟨ob, nb, sb, lb⟩ := tb
  obtain ⟨xa, ca, rfl, _⟩ := ha
  obtain ⟨xb, cb, rfl, _⟩ := hb
  generalize la.length = p at HA ⊢
  generalize lb.length = q at HB ⊢
  clear hlo
  go_enter Tryz.func35, Tryz.ntmps35
  go_wp2
  have hbel : ∀ o1 o2 o3 o4, Below w.heap.size w ((((w.alloc o1).alloc o2).alloc o3).alloc o4) := fun o1 o2 o3 o4 => ((((Below.refl _ _).alloc (Nat.le_refl _) _).alloc (by simp) _).alloc (by simp; omega) _).alloc (by simp; omega) _
  refine bodyPost_ret (node_res rfl _ _ (w.heap.size + 1 + 1) _ _ _ _ rfl ((heap_alloc_old _ _ (by simp)).trans (by simpa using heap_alloc_new ((w.alloc _).alloc _) _))) rfl ?_
  exact ⟨_, rfl, node_two (g := w.heap.size + 1 + 1 + 1) (HL.out _ (by omega)) (by simpa using heap_alloc_new (((w.alloc _).alloc _).alloc _) _) (HA.out.below (hbel _ _ _ _)) (HB.out.below (hbel _ _ _ _)), hbel _ _ _ _⟩
theorem KOk.tail {t : Tok} {L : List Tok} (h : KOk (t :: L)) : KOk L := fun u hu => h u (by simp [hu])
theorem lex1_kind {l : Bs} {t : Tok} {n : Nat} (h : lex1 l = some (t, n)) : t.k = 1 ∨ t.k = 2 ∨ t.k = 3 ∨ t.k = 4 := by
  cases l with
  | nil => cases h
  | cons c r =>
    simp only [lex1] at h
    split at h
    · split at h
      · cases h; simp
      · cases h
    · split at h
      · cases h; simp
      · split at h
        · split at h
          · cases h; simp
          · cases h
        · split at h
          · cases h; simp
          · split at h
            · cases h; simp
            · cases h
theorem lexF_ok : ∀ (n : Nat) (l : Bs), KOk (lexF n l).1
  | 0, _ => by intro t h; simp [lexF] at h
  | n + 1, l => by
    simp only [lexF]
    split
    · intro t h; cases h
    · cases hq : lex1 (l.drop (cntBl l)) with
      | none => intro t h; cases h
      | some x =>
        obtain ⟨t, k⟩ := x
        intro u hu
        rcases List.mem_cons.1 hu with rfl | hu
        · exact ⟨lex1_kind hq, lex1_num_tok hq⟩
        · exact lexF_ok n _ u hu
/-- What may stand between parts of a level. -/
def betw (lv : Nat) (ts : List Tok) : Bs :=
  if lv = 0 then (if isTok ts 2 wor = true then wor else [])
  else if lv = 1 then (if isTok ts 2 wand = true then wand else [])
  else if lv = 2 then (if isTok ts 4 [43] = true ∨ isTok ts 4 [45] = true then (ts.headD ⟨0, []⟩).s else [])
  else (if isTok ts 4 [42] = true ∨ isTok ts 4 [47] = true then (ts.headD ⟨0, []⟩).s else [])
set_option maxHeartbeats 1000000 in
theorem rbetween0 (B : Nat) (v : Value) (L : List Tok) (hK : KOk L) (hL : L.length ≤ 1000000) (w : World) (h : TokV B w v L) :
    Calls Tryz.prog 34 #[v, .int .i64 0] w fun e w' => e = .returned (.string (tx (betw 0 L))) ∧ w = w' := by
  have HIS : Hid (Calls Tryz.prog 62 #[v, .int .u8 119, .string ⟨#[111, 114]⟩] w fun e w' => e = .returned (.bool (isTok L 2 wor)) ∧ w = w') := Lib.hid (ris B v L 2 (.inl rfl) wor hK hL w h)
  have HV : Hid (betw 0 L = if isTok L 2 wor = true then wor else []) := Lib.hid rfl
  obtain ⟨x, n, c, rfl⟩ := h.agg
  obtain ⟨rs, hrs⟩ : ∃ rs, rs = betw 0 L := ⟨_, rfl⟩
  rw [← hrs] at HV ⊢
  clear hK hL h hrs
  cases hq : isTok L 2 wor
  · rw [hq] at HIS HV
    clear hq
    go_enter Tryz.func34, Tryz.ntmps34
    go_wp2_with (first | (go_at_call 62; refine (HIS.out).mono ?_; rintro e w1 ⟨rfl, rfl⟩))
    go_wp2
    go_ret
    exact ⟨by rw [HV.out]; rfl, rfl⟩
  · rw [hq] at HIS HV
    clear hq
    go_enter Tryz.func34, Tryz.ntmps34
    go_wp2_with (first | (go_at_call 62; refine (HIS.out).mono ?_; rintro e w1 ⟨rfl, rfl⟩))
    go_wp2
    go_ret
    exact ⟨by rw [HV.out]; rfl, rfl⟩
set_option maxHeartbeats 1000000 in
theorem rbetween1 (B : Nat) (v : Value) (L : List Tok) (hK : KOk L) (hL : L.length ≤ 1000000) (w : World) (h : TokV B w v L) :
    Calls Tryz.prog 34 #[v, .int .i64 1] w fun e w' => e = .returned (.string (tx (betw 1 L))) ∧ w = w' := by
  have HIS : Hid (Calls Tryz.prog 62 #[v, .int .u8 119, .string ⟨#[97, 110, 100]⟩] w fun e w' => e = .returned (.bool (isTok L 2 wand)) ∧ w = w') := Lib.hid (ris B v L 2 (.inl rfl) wand hK hL w h)
  have HV : Hid (betw 1 L = if isTok L 2 wand = true then wand else []) := Lib.hid rfl
  obtain ⟨x, n, c, rfl⟩ := h.agg
  obtain ⟨rs, hrs⟩ : ∃ rs, rs = betw 1 L := ⟨_, rfl⟩
  rw [← hrs] at HV ⊢
  clear hK hL h hrs
  cases hq : isTok L 2 wand
  · rw [hq] at HIS HV
    clear hq
    go_enter Tryz.func34, Tryz.ntmps34
    go_wp2_with (first | (go_at_call 62; refine (HIS.out).mono ?_; rintro e w1 ⟨rfl, rfl⟩))
    go_wp2
    go_ret
    exact ⟨by rw [HV.out]; rfl, rfl⟩
  · rw [hq] at HIS HV
    clear hq
    go_enter Tryz.func34, Tryz.ntmps34
    go_wp2_with (first | (go_at_call 62; refine (HIS.out).mono ?_; rintro e w1 ⟨rfl, rfl⟩))
    go_wp2
    go_ret
    exact ⟨by rw [HV.out]; rfl, rfl⟩
set_option maxHeartbeats 1000000 in
theorem rbetween2 (B : Nat) (v : Value) (L : List Tok) (hK : KOk L) (hL : L.length ≤ 1000000) (w : World) (h : TokV B w v L) :
    Calls Tryz.prog 34 #[v, .int .i64 2] w fun e w' => e = .returned (.string (tx (betw 2 L))) ∧ w = w' := by
  have HIS1 : Hid (Calls Tryz.prog 62 #[v, .int .u8 115, .string ⟨#[43]⟩] w fun e w' => e = .returned (.bool (isTok L 4 [43])) ∧ w = w') := Lib.hid (ris B v L 4 (.inr rfl) [43] hK hL w h)
  have HIS2 : Hid (Calls Tryz.prog 62 #[v, .int .u8 115, .string ⟨#[45]⟩] w fun e w' => e = .returned (.bool (isTok L 4 [45])) ∧ w = w') := Lib.hid (ris B v L 4 (.inr rfl) [45] hK hL w h)
  have HV : Hid (betw 2 L = if isTok L 4 [43] = true ∨ isTok L 4 [45] = true then (L.headD ⟨0, []⟩).s else []) := Lib.hid rfl
  have HH := Lib.hid h
  obtain ⟨rs, hrs⟩ : ∃ rs, rs = betw 2 L := ⟨_, rfl⟩
  rw [← hrs] at HV ⊢
  have hLL := hL
  by_cases hq : isTok L 4 [43] = true ∨ isTok L 4 [45] = true
  · rw [if_pos hq] at HV
    cases L with
    | nil => rcases hq with h | h <;> cases h
    | cons t r =>
      obtain ⟨x, cap, rfl, hcap, hx, hc⟩ := h
      obtain ⟨a, rfl⟩ : ∃ a, x = some a := by
        cases x with
        | none => have := hx rfl; cases this
        | some a => exact ⟨a, rfl⟩
      obtain ⟨g1, g2, g3⟩ := hc a rfl 0 t rfl
      simp only [Nat.zero_mul, Nat.zero_add] at g3
      have g3' : w.cell? ⟨a.block, a.off + 1, none⟩ = some (.string (tx t.s)) := by simpa [Addr.add] using g3
      have HT : Hid (rs = t.s) := Lib.hid HV.out
      obtain ⟨N, hN⟩ : ∃ N, N = (t :: r).length := ⟨_, rfl⟩
      have hN1 : 0 < N := by rw [hN]; simp
      rw [← hN] at hLL hcap HIS1 HIS2 ⊢
      clear hc hx hK hN g2 g3 HV HH hL hrs
      rw [HT.out]
      generalize t.s = ss at g3' ⊢
      clear HT
      cases h1 : isTok (t :: r) 4 [43]
      · have h2 : isTok (t :: r) 4 [45] = true := by rcases hq with h | h; (rw [h1] at h; cases h); exact h
        rw [h1] at HIS1
        rw [h2] at HIS2
        clear h1 h2 hq
        go_enter Tryz.func34, Tryz.ntmps34
        go_wp2_with (first | (go_at_call 62; (with_reducible refine (HIS1.out).mono ?_); rintro e w1 ⟨rfl, rfl⟩) | (go_at_call 62; (with_reducible refine (HIS2.out).mono ?_); rintro e w1 ⟨rfl, rfl⟩))
        go_wp2
        go_ret
        exact ⟨rfl, rfl⟩
      · rw [h1] at HIS1
        clear h1 hq
        go_enter Tryz.func34, Tryz.ntmps34
        go_wp2_with (first | (go_at_call 62; (with_reducible refine (HIS1.out).mono ?_); rintro e w1 ⟨rfl, rfl⟩) | (go_at_call 62; (with_reducible refine (HIS2.out).mono ?_); rintro e w1 ⟨rfl, rfl⟩))
        go_wp2
        go_ret
        exact ⟨rfl, rfl⟩
  · rw [if_neg hq] at HV
    have h1 : isTok L 4 [43] = false := by cases h : isTok L 4 [43]; rfl; exact absurd (.inl h) hq
    have h2 : isTok L 4 [45] = false := by cases h : isTok L 4 [45]; rfl; exact absurd (.inr h) hq
    rw [h1] at HIS1
    rw [h2] at HIS2
    obtain ⟨x, n, c, rfl⟩ := h.agg
    clear h1 h2 hq hK hL h hrs HH hLL
    go_enter Tryz.func34, Tryz.ntmps34
    go_wp2_with (first | (go_at_call 62; (with_reducible refine (HIS1.out).mono ?_); rintro e w1 ⟨rfl, rfl⟩) | (go_at_call 62; (with_reducible refine (HIS2.out).mono ?_); rintro e w1 ⟨rfl, rfl⟩))
    go_wp2
    go_ret
    exact ⟨by rw [HV.out]; rfl, rfl⟩
set_option maxHeartbeats 1000000 in
theorem rbetween3 (B : Nat) (v : Value) (L : List Tok) (hK : KOk L) (hL : L.length ≤ 1000000) (w : World) (h : TokV B w v L) :
    Calls Tryz.prog 34 #[v, .int .i64 3] w fun e w' => e = .returned (.string (tx (betw 3 L))) ∧ w = w' := by
  have HIS1 : Hid (Calls Tryz.prog 62 #[v, .int .u8 115, .string ⟨#[42]⟩] w fun e w' => e = .returned (.bool (isTok L 4 [42])) ∧ w = w') := Lib.hid (ris B v L 4 (.inr rfl) [42] hK hL w h)
  have HIS2 : Hid (Calls Tryz.prog 62 #[v, .int .u8 115, .string ⟨#[47]⟩] w fun e w' => e = .returned (.bool (isTok L 4 [47])) ∧ w = w') := Lib.hid (ris B v L 4 (.inr rfl) [47] hK hL w h)
  have HV : Hid (betw 3 L = if isTok L 4 [42] = true ∨ isTok L 4 [47] = true then (L.headD ⟨0, []⟩).s else []) := Lib.hid rfl
  have HH := Lib.hid h
  obtain ⟨rs, hrs⟩ : ∃ rs, rs = betw 3 L := ⟨_, rfl⟩
  rw [← hrs] at HV ⊢
  have hLL := hL
  by_cases hq : isTok L 4 [42] = true ∨ isTok L 4 [47] = true
  · rw [if_pos hq] at HV
    cases L with
    | nil => rcases hq with h | h <;> cases h
    | cons t r =>
      obtain ⟨x, cap, rfl, hcap, hx, hc⟩ := h
      obtain ⟨a, rfl⟩ : ∃ a, x = some a := by
        cases x with
        | none => have := hx rfl; cases this
        | some a => exact ⟨a, rfl⟩
      obtain ⟨g1, g2, g3⟩ := hc a rfl 0 t rfl
      simp only [Nat.zero_mul, Nat.zero_add] at g3
      have g3' : w.cell? ⟨a.block, a.off + 1, none⟩ = some (.string (tx t.s)) := by simpa [Addr.add] using g3
      have HT : Hid (rs = t.s) := Lib.hid HV.out
      obtain ⟨N, hN⟩ : ∃ N, N = (t :: r).length := ⟨_, rfl⟩
      have hN1 : 0 < N := by rw [hN]; simp
      rw [← hN] at hLL hcap HIS1 HIS2 ⊢
      clear hc hx hK hN g2 g3 HV HH hL hrs
      rw [HT.out]
      generalize t.s = ss at g3' ⊢
      clear HT
      cases h1 : isTok (t :: r) 4 [42]
      · have h2 : isTok (t :: r) 4 [47] = true := by rcases hq with h | h; (rw [h1] at h; cases h); exact h
        rw [h1] at HIS1
        rw [h2] at HIS2
        clear h1 h2 hq
        go_enter Tryz.func34, Tryz.ntmps34
        go_wp2_with (first | (go_at_call 62; (with_reducible refine (HIS1.out).mono ?_); rintro e w1 ⟨rfl, rfl⟩) | (go_at_call 62; (with_reducible refine (HIS2.out).mono ?_); rintro e w1 ⟨rfl, rfl⟩))
        go_wp2
        go_ret
        exact ⟨rfl, rfl⟩
      · rw [h1] at HIS1
        clear h1 hq
        go_enter Tryz.func34, Tryz.ntmps34
        go_wp2_with (first | (go_at_call 62; (with_reducible refine (HIS1.out).mono ?_); rintro e w1 ⟨rfl, rfl⟩) | (go_at_call 62; (with_reducible refine (HIS2.out).mono ?_); rintro e w1 ⟨rfl, rfl⟩))
        go_wp2
        go_ret
        exact ⟨rfl, rfl⟩
  · rw [if_neg hq] at HV
    have h1 : isTok L 4 [42] = false := by cases h : isTok L 4 [42]; rfl; exact absurd (.inl h) hq
    have h2 : isTok L 4 [47] = false := by cases h : isTok L 4 [47]; rfl; exact absurd (.inr h) hq
    rw [h1] at HIS1
    rw [h2] at HIS2
    obtain ⟨x, n, c, rfl⟩ := h.agg
    clear h1 h2 hq hK hL h hrs HH hLL
    go_enter Tryz.func34, Tryz.ntmps34
    go_wp2_with (first | (go_at_call 62; (with_reducible refine (HIS1.out).mono ?_); rintro e w1 ⟨rfl, rfl⟩) | (go_at_call 62; (with_reducible refine (HIS2.out).mono ?_); rintro e w1 ⟨rfl, rfl⟩))
    go_wp2
    go_ret
    exact ⟨by rw [HV.out]; rfl, rfl⟩
theorem rbetween (lv : Nat) (hlv : lv < 4) (B : Nat) (v : Value) (L : List Tok) (hK : KOk L) (hL : L.length ≤ 1000000) (w : World) (h : TokV B w v L) :
    Calls Tryz.prog 34 #[v, .int .i64 lv] w fun e w' => e = .returned (.string (tx (betw lv L))) ∧ w = w' := by
  match lv, hlv with
  | 0, _ => exact rbetween0 B v L hK hL w h
  | 1, _ => exact rbetween1 B v L hK hL w h
  | 2, _ => exact rbetween2 B v L hK hL w h
  | 3, _ => exact rbetween3 B v L hK hL w h
end Go.Proofs.YtmhfnpabgkkjaaaGreat
