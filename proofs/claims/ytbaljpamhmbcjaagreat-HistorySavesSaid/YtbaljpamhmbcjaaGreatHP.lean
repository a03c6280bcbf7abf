/- Walks: Older, Newer, Leave, Line, Len of a made history. -/
import Derived.Test.YtbaljpamhmbcjaaGreatHO
namespace Go.Proofs.YtbaljpamhmbcjaaGreat
open Go.RowKit Go.Shelf
/-- A walk stands at a line. -/
def Wk.Ok (k : Wk) (L : List Bs) : Prop := k.on = true → 0 ≤ k.at_ ∧ k.at_ < L.length
def Wk.on' (k : Wk) (d bg : Bs) : Wk := if k.on = true then k else ⟨true, d, bg, -1⟩
def olderR (L : List Bs) (g k : Wk) : Option Nat → Wk × Bs × Bool
  | some i => ({ g with at_ := i }, L.getD i [], true)
  | none => (k, [], false)
/-- What Older does. -/
def olderS (L : List Bs) (k : Wk) (d bg : Bs) : Wk × Bs × Bool := olderR L (k.on' d bg) k (nxU L (k.on' d bg).d (k.on' d bg).bg ((k.on' d bg).at_ + 1).toNat)
def newerR (L : List Bs) (k : Wk) : Option Nat → Wk × Bs × Bool
  | some i => ({ k with at_ := i }, L.getD i [], true)
  | none => (Wk.no, k.d, true)
/-- What Newer does. -/
def newerS (L : List Bs) (k : Wk) : Wk × Bs × Bool := if k.on = true then newerR L k (nxD L k.d k.bg k.at_.toNat) else (k, [], false)
theorem But.setN {l : List Nat} {w w' : World} (h : But l w w') {a : Addr} (v : Value) (ha : w.heap.size ≤ a.block) : But l w (w'.setCell a v) :=
  ⟨h.os, h.tape, h.output, by simpa using h.size, fun j hj hl => (Below.heap_setCell _ _ _ _ (by omega)).trans (h.block j hj hl)⟩
def twoE (s : Bs) (t : Bool) : Ending := .returned (.tuple #[.string (tx s), .bool t])
theorem His.setO {W : World} {b : Nat} {m : Int} {L : List Bs} {k : Wk} {x : Option Addr} {c : Nat} (h : His W b m L k x c) {q o : Nat} (v : Value) (hq : q ≠ b) (hx : ∀ j, x.map (·.block) = some j → j ≠ q) : His (W.setCell ⟨q, o, none⟩ v) b m L k x c :=
  ⟨(set_other (Ne.symm hq)).trans h.hd, h.row.kept (fun j hj => set_other (hx j hj))⟩
theorem nxU_lt {L : List Bs} {d bg : Bs} {s i : Nat} (h : nxU L d bg s = some i) : s ≤ i ∧ i < L.length ∧ toldAt L d bg i = true := by
  unfold nxU at h
  rw [List.find?_range_eq_some] at h
  obtain ⟨h1, h2, _⟩ := h
  simp at h1 h2
  exact ⟨h1.1, h2, h1.2⟩
theorem nxD_lt {L : List Bs} {d bg : Bs} {s i : Nat} (h : nxD L d bg s = some i) : i < s ∧ toldAt L d bg i = true := by
  unfold nxD at h
  rw [Option.map_eq_some_iff] at h
  obtain ⟨k, h, rfl⟩ := h
  rw [List.find?_range_eq_some] at h
  obtain ⟨h1, h2, _⟩ := h
  simp at h2
  exact ⟨by omega, h1⟩
theorem wHlen (b : Nat) (m : Int) (hm : 0 < m) (L : List Bs) (k : Wk) (x : Option Addr) (c : Nat) (w : World) (h : His w b m L k x c) :
    Calls Tryz.prog 10 #[.pointer (some ⟨b, 0, none⟩)] w fun e w' => e = .returned (.int .i64 L.length) ∧ w = w' := by
  have HMD := Lib.hid (wmade b m w h.cells.1)
  rw [decide_eq_true hm] at HMD
  obtain ⟨-, c1, -⟩ := h.cells
  clear h hm
  go_enter Tryz.func10, Tryz.ntmps10
  go_wp2_with (first | (go_at_call 31; (with_reducible refine HMD.out.mono ?_); rintro e w' ⟨rfl, rfl⟩))
  go_ret
  exact ⟨rfl, rfl⟩
/-- The line of a place. -/
def lineS (L : List Bs) (i : Int) : Bs × Bool := if 0 ≤ i ∧ i < L.length then (L.getD i.toNat [], true) else ([], false)
theorem wHline (b : Nat) (m : Int) (hm : 0 < m) (L : List Bs) (k : Wk) (x : Option Addr) (c : Nat) (i : Int) (w : World) (h : His w b m L k x c) :
    Calls Tryz.prog 25 #[.pointer (some ⟨b, 0, none⟩), .int .i64 i] w fun e w' => e = twoE (lineS L i).1 (lineS L i).2 ∧ w = w' := by
  have HMD := Lib.hid (wmade b m w h.cells.1)
  rw [decide_eq_true hm] at HMD
  obtain ⟨-, c1, -⟩ := h.cells
  have HS := Lib.hid h
  clear h hm
  by_cases hi : 0 ≤ i ∧ i < L.length
  · have e1 : lineS L i = (L.getD i.toNat [], true) := by unfold lineS; rw [if_pos hi]
    rw [e1]
    clear e1
    obtain ⟨j, rfl⟩ : ∃ j : Nat, i = (j : Int) := ⟨i.toNat, by omega⟩
    have hj : j < L.length := by omega
    obtain ⟨g, rfl, hg, hcap, hget⟩ := HS.out.row.get j hj
    have ce := hget j hj
    rw [Int.toNat_natCast]
    obtain ⟨X, hX⟩ : ∃ X, X = L.getD j [] := ⟨_, rfl⟩
    rw [← hX] at ce ⊢
    obtain ⟨n, hn⟩ : ∃ n, n = L.length := ⟨_, rfl⟩
    rw [← hn] at c1 hj
    clear hX hget hg hcap HS hn hi
    have i1 : (0 : Int) ≤ (j : Int) := by omega
    have i2 : ¬ (j : Int) < 0 := by omega
    have i3 : (j : Int) < (n : Int) := by omega
    go_enter Tryz.func25, Tryz.ntmps25
    go_wp2_with (first | (go_at_call 31; (with_reducible refine HMD.out.mono ?_); rintro e w' ⟨rfl, rfl⟩))
    go_ret2
    exact ⟨rfl, rfl⟩
  · have e1 : lineS L i = ([], false) := by unfold lineS; rw [if_neg hi]
    rw [e1]
    clear e1
    obtain ⟨n, hn⟩ : ∃ n, n = L.length := ⟨_, rfl⟩
    rw [← hn] at c1 hi
    clear HS hn
    by_cases i1 : i < 0
    · clear hi
      go_enter Tryz.func25, Tryz.ntmps25
      go_wp2_with (first | (go_at_call 31; (with_reducible refine HMD.out.mono ?_); rintro e w' ⟨rfl, rfl⟩))
      go_ret2
      exact ⟨rfl, rfl⟩
    · have i2 : (n : Int) ≤ i := by omega
      clear hi
      go_enter Tryz.func25, Tryz.ntmps25
      go_wp2_with (first | (go_at_call 31; (with_reducible refine HMD.out.mono ?_); rintro e w' ⟨rfl, rfl⟩))
      go_ret2
      exact ⟨rfl, rfl⟩
theorem box4 {W : World} {q : Nat} {v0 v1 v2 v3 : Value} {t : TypeId} (h : W.heap[q]? = some (.cells #[v0, v1, v2, v3] t (0, 0))) : W.cell? ⟨q, 0, none⟩ = some v0 ∧ W.cell? ⟨q, 1, none⟩ = some v1 ∧ W.cell? ⟨q, 2, none⟩ = some v2 ∧ W.cell? ⟨q, 3, none⟩ = some v3 ∧ ∀ j, W.frozen? ⟨q, j, none⟩ = false := by
  refine ⟨?_, ?_, ?_, ?_, fun j => ?_⟩ <;> first | simp [World.cell?, h] | simp [World.frozen?, h]
theorem below_box {w w1 : World} {o : Obj} (hb : Below (w.alloc o).heap.size (w.alloc o) w1) : Below w.heap.size w w1 ∧ w1.heap[w.heap.size]? = some o :=
  ⟨((Below.refl _ _).alloc (Nat.le_refl _) o).trans (below_le hb (by simp)), (hb.block _ (by simp)).trans (heap_alloc_new _ _)⟩
set_option maxHeartbeats 1000000 in
theorem wHolder_core (b : Nat) (m : Int) (hm : 0 < m) (L : List Bs) (hL : L.length ≤ 1000) (k : Wk) (x : Option Addr) (c : Nat) (d bg : Bs) (w : World) (h : His w b m L k x c) (g : Wk) (hg : g = k.on' d bg) (s : Nat) (hs : g.at_ = (s : Int) - 1) (hs2 : s ≤ 1000) :
    Calls Tryz.prog 23 #[.pointer (some ⟨b, 0, none⟩), .string (tx d), .string (tx bg)] w fun e w' => e = twoE (olderR L g k (nxU L g.d g.bg s)).2.1 (olderR L g k (nxU L g.d g.bg s)).2.2 ∧ His w' b m L (olderR L g k (nxU L g.d g.bg s)).1 x c ∧ But [b] w w' := by
  have HMD := Lib.hid (wmade b m w h.cells.1)
  rw [decide_eq_true hm] at HMD
  have HNX := Lib.hid (fun W (hW : His W b m L k x c) => wnextU b m L k g x c hL s hs2 hs W hW)
  unfold wkV nxE at HNX
  obtain ⟨-, -, c2, c3, c4, c5, fz⟩ := h.cells
  have HS := Lib.hid h
  have HG := Lib.hid hg
  have hbl := h.lt
  obtain ⟨r, hr⟩ : ∃ r, r = nxU L g.d g.bg s := ⟨_, rfl⟩
  have HR := Lib.hid hr
  rw [← hr] at HNX ⊢
  clear fz h hm hg hs hr
  obtain ⟨on, kd, kb, ka⟩ := k
  obtain ⟨go, gd, gb, ga⟩ := g
  simp only at c2 c3 c4 c5 HNX HR
  have hgg : go = true ∧ ((on = true ∧ gd = kd ∧ gb = kb ∧ ga = ka) ∨ (on = false ∧ gd = d ∧ gb = bg ∧ ga = -1)) := by
    have := HG.out
    cases on <;> simp [Wk.on'] at this <;> simp [this]
  clear HG
  rcases hgg with ⟨rfl, ⟨rfl, rfl, rfl, rfl⟩ | ⟨rfl, rfl, rfl, rfl⟩⟩
  all_goals
    cases r with
    | none =>
      simp only [Option.getD_none, Option.isSome_none] at HNX
      go_enter Tryz.func23, Tryz.ntmps23
      go_wp2_with (first | (go_at_call 31; (with_reducible refine HMD.out.mono ?_); rintro e w' ⟨rfl, rfl⟩) | (go_at_call 40; fail))
      refine (HNX.out _ (HS.out.below ((Below.refl _ _).alloc (Nat.le_refl _) _))).mono ?_
      rintro e w1 ⟨rfl, hb1⟩
      obtain ⟨hb, hbox⟩ := below_box hb1
      have H1 := Lib.hid (HS.out.below hb)
      have B1 := Lib.hid (But.of (l := [b]) hb)
      clear hb1 hb hbox
      go_wp2
      go_ret2
      exact ⟨rfl, H1.out, B1.out⟩
    | some i =>
      obtain ⟨_, hi, _⟩ := nxU_lt HR.out.symm
      simp only [Option.getD_some, Option.isSome_some] at HNX
      go_enter Tryz.func23, Tryz.ntmps23
      go_wp2_with (first | (go_at_call 31; (with_reducible refine HMD.out.mono ?_); rintro e w' ⟨rfl, rfl⟩) | (go_at_call 40; fail))
      refine (HNX.out _ (HS.out.below ((Below.refl _ _).alloc (Nat.le_refl _) _))).mono ?_
      rintro e w1 ⟨rfl, hb1⟩
      obtain ⟨hb, hbox⟩ := below_box hb1
      have H1 := Lib.hid (HS.out.below hb)
      have B1 := Lib.hid (But.of (l := [b]) hb)
      have HQ := Lib.hid (And.intro (show w.heap.size ≠ b by omega) (fun j hj => show j ≠ w.heap.size by have := (HS.out.row.lt j hj).1; omega))
      obtain ⟨q0, q1, q2, q3, qz⟩ := box4 hbox
      have qf := qz 3
      clear hb1 hb hbox qz c2 c3 c4 c5
      obtain ⟨c0, c1, c2, c3, c4, c5, fz⟩ := H1.out.cells
      have f2 := fz 2
      have f3 := fz 3
      have f4 := fz 4
      have f5 := fz 5
      obtain ⟨gr, rfl, hgr, hcap, hget⟩ := H1.out.row.get i hi
      have ce := hget i hi
      obtain ⟨n, hn⟩ : ∃ n, n = L.length := ⟨_, rfl⟩
      rw [← hn] at c1 hi
      obtain ⟨X, hX⟩ : ∃ X, X = L.getD i [] := ⟨_, rfl⟩
      rw [← hX] at ce
      have HX := Lib.hid hX
      have i1 : (0 : Int) ≤ (i : Int) := by omega
      have i2 : (i : Int) < (n : Int) := by omega
      have n1 : ¬ b = w.heap.size := by omega
      have n2 : ¬ w.heap.size = b := by omega
      have hgo : gr ≠ w.heap.size := HQ.out.2 gr rfl
      have hgb : gr ≠ b := H1.out.ne gr rfl
      have n3 : ¬ gr = w.heap.size := hgo
      have n4 : ¬ w.heap.size = gr := fun e => hgo e.symm
      have n5 : ¬ gr = b := hgb
      have n6 : ¬ b = gr := fun e => hgb e.symm
      clear hget hgr hcap hn hX fz hgo hgb hbl
      go_wp2
      go_ret2
      exact ⟨by rw [HX.out]; rfl, (H1.out.setO (.int .i64 i) HQ.out.1 HQ.out.2).setW ⟨true, gd, gb, i⟩, (B1.out.setN (a := ⟨w.heap.size, 3, none⟩) (.int .i64 i) (Nat.le_refl _)).setW ⟨true, gd, gb, i⟩⟩
theorem wHolder (b : Nat) (m : Int) (hm : 0 < m) (L : List Bs) (hL : L.length ≤ 900) (k : Wk) (hk : k.Ok L) (x : Option Addr) (c : Nat) (d bg : Bs) (w : World) (h : His w b m L k x c) :
    Calls Tryz.prog 23 #[.pointer (some ⟨b, 0, none⟩), .string (tx d), .string (tx bg)] w fun e w' => e = twoE (olderS L k d bg).2.1 (olderS L k d bg).2.2 ∧ His w' b m L (olderS L k d bg).1 x c ∧ But [b] w w' := by
  have h2 : -1 ≤ (k.on' d bg).at_ ∧ (k.on' d bg).at_ < 900 := by
    unfold Wk.on'
    split
    · rename_i ho
      have := hk ho
      omega
    · simp
  exact wHolder_core b m hm L (by omega) k x c d bg w h _ rfl ((k.on' d bg).at_ + 1).toNat (by omega) (by omega)
set_option maxHeartbeats 1000000 in
theorem wHnewer (b : Nat) (m : Int) (hm : 0 < m) (L : List Bs) (hL : L.length ≤ 900) (k : Wk) (hk : k.Ok L) (x : Option Addr) (c : Nat) (w : World) (h : His w b m L k x c) :
    Calls Tryz.prog 24 #[.pointer (some ⟨b, 0, none⟩)] w fun e w' => e = twoE (newerS L k).2.1 (newerS L k).2.2 ∧ His w' b m L (newerS L k).1 x c ∧ But [b] w w' := by
  have HMD := Lib.hid (wmade b m w h.cells.1)
  rw [decide_eq_true hm] at HMD
  obtain ⟨-, -, c2, c3, c4, c5, fz⟩ := h.cells
  have HS := Lib.hid h
  clear fz
  obtain ⟨on, kd, kb, ka⟩ := k
  simp only at c2 c3 c4 c5
  cases on
  · unfold newerS
    rw [if_neg (by simp)]
    clear h hm hk
    go_enter Tryz.func24, Tryz.ntmps24
    go_wp2_with (first | (go_at_call 31; (with_reducible refine HMD.out.mono ?_); rintro e w' ⟨rfl, rfl⟩))
    go_ret2
    exact ⟨rfl, HS.out, But.refl _ _⟩
  · have ho := hk rfl
    simp only at ho
    have HNX := Lib.hid (wnextD b m L ⟨true, kd, kb, ka⟩ ⟨true, kd, kb, ka⟩ x c (by omega) ka.toNat (by omega) (by simp; omega) w h)
    unfold wkV nxE at HNX
    unfold newerS
    rw [if_pos rfl]
    obtain ⟨r, hr⟩ : ∃ r, r = nxD L kd kb ka.toNat := ⟨_, rfl⟩
    have HR := Lib.hid hr
    simp only at HNX ⊢
    rw [← hr] at HNX ⊢
    clear h hm hr hk
    cases r with
    | none =>
      simp only [Option.getD_none, Option.isSome_none] at HNX
      go_enter Tryz.func24, Tryz.ntmps24
      go_wp2_with (first | (go_at_call 31; (with_reducible refine HMD.out.mono ?_); rintro e w' ⟨rfl, rfl⟩) | (go_at_call 40; fail))
      refine HNX.out.mono ?_
      rintro e w1 ⟨rfl, hb⟩
      have H1 := Lib.hid (HS.out.below hb)
      have B1 := Lib.hid (But.of (l := [b]) hb)
      clear hb c2 c3 c4 c5
      obtain ⟨c0, c1, c2, c3, c4, c5, fz⟩ := H1.out.cells
      have f2 := fz 2
      have f3 := fz 3
      have f4 := fz 4
      have f5 := fz 5
      clear fz
      go_wp2
      go_ret2
      exact ⟨rfl, H1.out.setW Wk.no, B1.out.setW Wk.no⟩
    | some i =>
      obtain ⟨hi, _⟩ := nxD_lt HR.out.symm
      simp only [Option.getD_some, Option.isSome_some] at HNX
      go_enter Tryz.func24, Tryz.ntmps24
      go_wp2_with (first | (go_at_call 31; (with_reducible refine HMD.out.mono ?_); rintro e w' ⟨rfl, rfl⟩) | (go_at_call 40; fail))
      refine HNX.out.mono ?_
      rintro e w1 ⟨rfl, hb⟩
      have H1 := Lib.hid (HS.out.below hb)
      have B1 := Lib.hid (But.of (l := [b]) hb)
      clear hb c2 c3 c4 c5
      obtain ⟨c0, c1, c2, c3, c4, c5, fz⟩ := H1.out.cells
      have f5 := fz 5
      have hil : i < L.length := by omega
      obtain ⟨gr, rfl, hgr, hcap, hget⟩ := H1.out.row.get i hil
      have ce := hget i hil
      have n5 : ¬ gr = b := H1.out.ne gr rfl
      have n6 : ¬ b = gr := fun e => n5 e.symm
      obtain ⟨n, hn⟩ : ∃ n, n = L.length := ⟨_, rfl⟩
      rw [← hn] at c1 hil
      obtain ⟨X, hX⟩ : ∃ X, X = L.getD i [] := ⟨_, rfl⟩
      rw [← hX] at ce
      have HX := Lib.hid hX
      have i1 : (0 : Int) ≤ (i : Int) := by omega
      have i2 : (i : Int) < (n : Int) := by omega
      clear hget hgr hcap hn hX fz hi ho
      go_wp2
      go_ret2
      exact ⟨by rw [HX.out]; rfl, H1.out.setAt i, B1.out.set _ _ (by simp)⟩
end Go.Proofs.YtbaljpamhmbcjaaGreat
