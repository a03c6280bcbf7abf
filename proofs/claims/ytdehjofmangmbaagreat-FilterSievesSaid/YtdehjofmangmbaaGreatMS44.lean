/- Own texts, merged: FO. -/
import Derived.Shelf.SlSortCmp.NoneTotal
import Derived.Test.YtdehjofmangmbaaGreatMS43
/- Rows of options kept in memory; walks: ahead, Sieve. -/
namespace Go.Proofs.YtdehjofmangmbaaGreat
open Go.RowKit Go.Shelf
/-- An option that is kept, as it stands in memory. -/
structure PlV where
  rk : Nat
  gp : Nat
  a : Option Addr
  n : Nat
  k : Nat
  i : Nat
  hb : rk ≤ 1000000000000000 ∧ gp ≤ 1000000000000000 ∧ i ≤ 1000000000000000
instance : Inhabited PlV := ⟨⟨0, 0, none, 0, 0, 0, by omega⟩⟩
def PlV.c (x : PlV) : List Value := [.int .i64 x.rk, .int .i64 x.gp, .slice x.a x.n x.k, .int .i64 x.i]
def PlV.p (x : PlV) : Plc := (x.rk, x.gp, x.i)
def PlV.cf (x y : PlV) : Int := if x.rk = y.rk then (if x.gp = y.gp then (x.i : Int) - y.i else (x.gp : Int) - y.gp) else (x.rk : Int) - y.rk
theorem PlV.lt (x y : PlV) : ltOf PlV.cf x y = ahd x.p y.p := by
  unfold ltOf ahd PlV.cf PlV.p
  simp only
  refine decide_eq_decide.2 ?_
  split
  · split <;> omega
  · omega
theorem PlV.swo : Sort.SWO (ltOf PlV.cf) where
  irrefl x := by
    rw [PlV.lt]
    have := ahd_iff x.p x.p
    cases h : ahd x.p x.p
    · rfl
    · have := this.1 h; omega
  trans x y z h1 h2 := by
    rw [PlV.lt, ahd_iff] at *
    omega
  ntrans x y z h1 h2 := by
    rw [PlV.lt] at *
    have e : ∀ a b, ahd a b = false ↔ nahd b a := fun a b => Iff.rfl
    rw [e, nahd_iff] at *
    omega
set_option maxHeartbeats 1500000 in
theorem wahead (x y : PlV) (W : World) : Calls Tryz.prog 47 #[.agg x.c.toArray, .agg y.c.toArray] W fun e w' => e = .returned (.int .i64 (x.cf y)) ∧ ∃ q os', w' = Sort.grow (W.drewN q) os' := by
  obtain ⟨r1, g1, v1, n1', k1', i1, ⟨a1, a2, a3⟩⟩ := x
  obtain ⟨r2, g2, v2, n2', k2', i2, ⟨b1, b2, b3⟩⟩ := y
  unfold PlV.cf PlV.c
  simp only
  by_cases e1 : r1 = r2
  · subst e1
    rw [if_pos rfl]
    have n1 : ((r1 : Int) != (r1 : Int)) = false := by simp
    by_cases e2 : g1 = g2
    · subst e2
      rw [if_pos rfl]
      have n2 : ((g1 : Int) != (g1 : Int)) = false := by simp
      go_enter Tryz.func47, Tryz.ntmps47
      go_wp2
      go_ret
      exact ⟨rfl, 0, _, by rw [Sort.alloc_eq_grow, Sort.alloc_eq_grow, Sort.grow_grow]; rfl⟩
    · rw [if_neg e2]
      have n2 : ((g1 : Int) != (g2 : Int)) = true := by rw [bne_iff_ne]; omega
      go_enter Tryz.func47, Tryz.ntmps47
      go_wp2
      go_ret
      exact ⟨rfl, 0, _, by rw [Sort.alloc_eq_grow, Sort.alloc_eq_grow, Sort.grow_grow]; rfl⟩
  · rw [if_neg e1]
    have n1 : ((r1 : Int) != (r2 : Int)) = true := by rw [bne_iff_ne]; omega
    go_enter Tryz.func47, Tryz.ntmps47
    go_wp2
    go_ret
    exact ⟨rfl, 0, _, by rw [Sort.alloc_eq_grow, Sort.alloc_eq_grow, Sort.grow_grow]; rfl⟩
/-- The cells of a row of options kept. -/
def plvs (L : List PlV) : List Value := L.flatMap PlV.c
theorem plvs_len (L : List PlV) : (plvs L).length = L.length * 4 := by
  induction L with
  | nil => rfl
  | cons x L ih => unfold plvs at ih ⊢; rw [List.flatMap_cons, List.length_append, ih, List.length_cons]; show 4 + _ = _; omega
theorem plvs_app (A B : List PlV) : plvs (A ++ B) = plvs A ++ plvs B := by simp [plvs]
theorem plvs_at : ∀ (L : List PlV) (t : Nat), t < L.length * 4 → (plvs L)[t]? = some ((L.toArray[t / 4]!).c[t % 4]!)
  | [], t, h => by simp at h
  | x :: L, t, h => by
    have hc : x.c.length = 4 := rfl
    unfold plvs
    rw [List.flatMap_cons]
    rcases Nat.lt_or_ge t 4 with q | q
    · rw [List.getElem?_append_left (by omega)]
      have e1 : t / 4 = 0 := by omega
      have e2 : t % 4 = t := by omega
      rw [e1, e2]
      have e3 : (x :: L).toArray[0]! = x := by rw [getElem!_pos _ _ (by simp)]; simp
      rw [e3, List.getElem?_eq_getElem (by omega), getElem!_pos _ _ (by omega)]
    · rw [List.getElem?_append_right (by omega)]
      have ih := plvs_at L (t - 4) (by simp only [List.length_cons] at h; omega)
      unfold plvs at ih
      rw [hc, ih]
      have e1 : t / 4 = (t - 4) / 4 + 1 := by omega
      have e2 : t % 4 = (t - 4) % 4 := by omega
      have hl : (t - 4) / 4 < L.length := by simp only [List.length_cons] at h; omega
      have e3 : (x :: L).toArray[(t - 4) / 4 + 1]! = L.toArray[(t - 4) / 4]! := by
        rw [getElem!_pos _ _ (by simpa using hl), getElem!_pos _ _ (by simpa using hl)]
        simp
      rw [e1, e2, e3]
theorem holdsK_row {W : World} {b g c : Nat} {L : List PlV} (h : W.ownsRow b 68 4 (.slice (some ⟨g, 0, none⟩) L.length c) L.length (plvs L)) : Sort.HoldsK PlV.c 4 W g 0 L.toArray ∧ g < W.heap.size ∧ b ≤ g ∧ L.length ≤ c := by
  rcases h.2 with ⟨hv, h0⟩ | ⟨g', cap', cur, hv, hge, hg, hnc, hcm, hcs, htk⟩
  · simp at hv
  · obtain ⟨rfl, rfl⟩ : g = g' ∧ c = cap' := by simpa using hv
    refine ⟨?_, (Array.getElem?_eq_some_iff.1 hg).1, hge, hnc⟩
    intro j hj
    have hj' : j < L.length * 4 := by simpa using hj
    rw [Nat.zero_add]
    refine ⟨?_, by simp [World.frozen?, hg]⟩
    rw [Sort.get_flatK _ _ _ _ (by simpa using hj')]
    have h1 := plvs_at L j hj'
    rw [← htk, List.getElem?_take_of_lt hj'] at h1
    simp only [World.cell?, hg]
    simp only [Option.isSome_none, Bool.false_eq_true, if_false]
    rw [← Array.getElem?_toList, h1]
    rfl
theorem info_place : ∃ i0, Tryz.prog.info? 68 = some i0 ∧ i0.zero = some (.agg #[.int .i64 0, .int .i64 0, .slice none 0 0, .int .i64 0]) ∧ i0.size = 4 ∧ i0.bytes = 48 :=
  info_parts (show (Tryz.prog.info? 68).map (fun i => (i.zero, i.size, i.bytes)) = some (some (.agg #[.int .i64 0, .int .i64 0, .slice none 0 0, .int .i64 0]), 4, 48) by kernel_rfl)
/-- A row of options in order. -/
structure Srtd (B g n : Nat) (w w' : World) (L L' : List PlV) : Prop where
  perm : L'.Perm L
  sort : (L'.map PlV.p).Pairwise nahd
  cell : ∀ j, (hj : j < L'.length) → w'.cell? ⟨g, j * 4, none⟩ = some (.int .i64 L'[j].rk) ∧ w'.cell? ⟨g, j * 4 + 1, none⟩ = some (.int .i64 L'[j].gp) ∧ w'.cell? ⟨g, j * 4 + 2, none⟩ = some (.slice L'[j].a L'[j].n L'[j].k) ∧ w'.cell? ⟨g, j * 4 + 3, none⟩ = some (.int .i64 L'[j].i)
  bel : Below B w w'
theorem wsortf {W : World} {b c : Nat} {x : Option Addr} {L : List PlV} (h : W.ownsRow b 68 4 (.slice x L.length c) L.length (plvs L)) (hl : L.length ≤ 1000000) (hb : b ≤ W.heap.size) :
    Calls Tryz.prog 46 #[.slice x L.length c, .func (.func 47) #[] #[]] W fun e w' => e = .returned (.tuple #[]) ∧ ∃ L', L'.length = L.length ∧ (L = [] ∧ W = w' ∧ L' = [] ∨ ∃ g, x = some ⟨g, 0, none⟩ ∧ g < W.heap.size ∧ L.length ≤ c ∧ Srtd b g 0 W w' L L') := by
  by_cases h0 : L = []
  · subst h0
    refine (AnyF.slices_SortFunc_none Tryz.laysSF x c (.func (.func 47) #[] #[]) W).mono ?_
    rintro e w' ⟨rfl, rfl⟩
    exact ⟨rfl, [], rfl, .inl ⟨rfl, rfl, rfl⟩⟩
  · have hp : 0 < L.length := List.length_pos_iff.2 h0
    have hx : ∃ g, x = some ⟨g, 0, none⟩ := by
      rcases h.2 with ⟨hv, h1⟩ | ⟨g, cap', cur, hv, _⟩
      · omega
      · exact ⟨g, by simp at hv; exact hv.1⟩
    obtain ⟨g, rfl⟩ := hx
    obtain ⟨hH, hg, hge, hc⟩ := holdsK_row h
    have eg : ∀ args w, (callFunc 47 args).run Tryz.prog w = .ok (.enter 47 args) w := enters_of Tryz.func47 (by kernel_rfl) rfl
    have hcmp : CmpLays Tryz.prog 47 #[] PlV.c 4 PlV.cf g 0 L.toArray.size W := fun m os dk _ x y => wahead x y _
    have hs := AnyQ.slices_SortFunc Tryz.laysSF 4 Tryz.isAgg68 Tryz.sizeOf68 PlV.c (fun _ => rfl) (fun x v hv => by
      simp [PlV.c] at hv
      rcases hv with rfl | rfl | rfl | rfl
      · rfl
      · rfl
      · rfl
      · rfl) PlV.cf PlV.swo 47 #[] g 0 c L.toArray W eg hcmp hH hg (by simp; omega)
    have hs2 : Calls Tryz.prog 46 #[.slice (some ⟨g, 0, none⟩) L.length c, .func (.func 47) #[] #[]] W fun e w' => e = .returned (.tuple #[]) ∧ ∃ d' n os, Sort.PermIn 0 L.toArray.size L.toArray d' ∧ Sort.SortedIn (ltOf PlV.cf) 0 L.toArray.size d' ∧ w' = sortWorldK PlV.c 4 W g 0 n d' os := hs
    refine hs2.mono ?_
    rintro e w' ⟨rfl, d', n, os, hpm, hso, rfl⟩
    obtain ⟨hsz, _, hpe⟩ := hpm
    have hsz' : d'.size = L.length := by simpa using hsz
    have hpe' : d'.toList.Perm L := by
      have e1 : d'.extract 0 L.toArray.size = d' := by rw [← hsz]; simp
      have e2 : L.toArray.extract 0 L.toArray.size = L.toArray := by simp
      rw [e1, e2] at hpe
      simpa using hpe
    refine ⟨rfl, d'.toList, by simpa using hsz', .inr ⟨g, rfl, hg, hc, hpe', ?_, fun j hj => ?_, ?_⟩⟩
    · rw [List.pairwise_map, List.pairwise_iff_getElem]
      intro i j hi hj hij
      have := hso i j (Nat.zero_le _) hij (by rw [List.size_toArray, ← hsz']; simpa using hj)
      rw [PlV.lt, getElem!_pos d' i (by simpa using hi), getElem!_pos d' j (by simpa using hj)] at this
      exact this
    · have hK := holdsK_sortWorldK_c PlV.c 4 W g 0 L.toArray d' n os hH hg hsz
      have hj' : j < d'.size := by simpa using hj
      have cell : ∀ t, t < 4 → (sortWorldK PlV.c 4 W g 0 n d' os).cell? ⟨g, j * 4 + t, none⟩ = some (d'[j].c[t]!) := by
        intro t ht
        obtain ⟨k1, _⟩ := hK (j * 4 + t) (by simp; omega)
        rw [Nat.zero_add, Sort.get_flatK _ _ _ _ (by omega)] at k1
        have e1 : (j * 4 + t) / 4 = j := by omega
        have e2 : (j * 4 + t) % 4 = t := by omega
        rw [e1, e2, getElem!_pos d' j hj'] at k1
        exact k1
      have c0 := cell 0 (by omega)
      have c1 := cell 1 (by omega)
      have c2 := cell 2 (by omega)
      have c3 := cell 3 (by omega)
      simp only [Nat.add_zero] at c0
      exact ⟨c0, c1, c2, c3⟩
    · refine (Below.refl b W).trans ⟨rfl, rfl, rfl, by simp [sortWorldK, Sort.putRowK], fun k hk => ?_⟩
      unfold sortWorldK Sort.putRowK
      rw [Sort.heap_grow_old _ _ (by simp; omega)]
      simp only [Sort.putRow, Sort.mapBlock, Sort.heap_ahead, Array.getElem?_modify]
      rw [if_neg (by omega)]
end Go.Proofs.YtdehjofmangmbaaGreat
