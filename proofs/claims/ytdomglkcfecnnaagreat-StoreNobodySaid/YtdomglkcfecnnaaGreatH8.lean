/- Walks: All of runes and its iterator. -/
import Derived.Test.YtdomglkcfecnnaaGreatH7
import Derived.Lib.ConvBytes
import Derived.Laws.AppendOwn
namespace Go.Proofs.YtdomglkcfecnnaaGreat
open Go.RowKit Go.Shelf
attribute [local go_sem] Oper.semAt_some
theorem weach (x : Option Addr) (n c : Nat) (w : World) : Calls Tryz.prog 125 #[.slice x n c] w fun e w' => e = .returned (.func (.func 140) #[] #[.pointer (some ⟨w.heap.size, 0, none⟩)]) ∧ w' = w.alloc (.cells #[.slice x n c] 37) := by
  go_enter Tryz.func125, Tryz.ntmps125
  go_wp2
  go_ret
  exact ⟨rfl, rfl⟩
/-- A string's bytes in a row of their own. -/
theorem conv_bytes (w : World) (l : Bs) : ∃ cap W1, (convert 9 37 (.string (tx l))).run Tryz.prog w = .ok (.slice (some ⟨w.heap.size, 0, none⟩) l.length cap) W1 ∧ l.length ≤ cap ∧ BytesAt W1 w.heap.size 0 l ∧ Below w.heap.size w W1 ∧ W1.heap.size = w.heap.size + 1 := by
  have h := Lib.run_convert_string_bytes (P := Tryz.prog) w 9 37 5 (tx l) Tryz.underlying9 Tryz.underlying37 Tryz.underlying5
  have hs : (tx l).size = l.length := by simp [tx, ByteArray.size]
  rw [hs] at h
  refine ⟨_, _, h, ?_, ?_, ?_, Lib.bytesWorld_size _ _ _⟩
  · exact grownCap_ge _ _ _ _
  · intro j hj
    have := Lib.bytesWorld_cell w 5 (tx l) j (by rw [hs]; exact hj)
    rw [Nat.zero_add]
    exact this
  · exact ⟨rfl, rfl, rfl, by rw [Lib.bytesWorld_size]; omega, fun j hj => Lib.bytesWorld_at_old w 5 (tx l) j hj⟩
/-- What stands behind All: the bytes, and the iterator's own box. -/
def AllAt (l : Bs) (w : World) (e : Ending) (w' : World) : Prop := ∃ p q cap, e = .returned (.func (.func 140) #[] #[.pointer (some ⟨p, 0, none⟩)]) ∧ w'.heap[p]? = some (.cells #[.slice (some ⟨q, 0, none⟩) l.length cap] 37 (0, 0)) ∧ l.length ≤ cap ∧ BytesAt w' q 0 l ∧ q < w'.heap.size ∧ w.heap.size ≤ p ∧ w.heap.size ≤ q ∧ Below w.heap.size w w'
theorem wall (l : Bs) (w : World) : Calls Tryz.prog 95 #[.string (tx l)] w (AllAt l w) := by
  obtain ⟨cap, W1, hcv, hcap, hby, hbl, hsz⟩ := conv_bytes w l
  have HBY := Lib.hid hby
  have HBL := Lib.hid hbl
  have HSZ := Lib.hid hsz
  obtain ⟨T, hT⟩ : ∃ T, T = tx l := ⟨_, rfl⟩
  rw [← hT] at hcv ⊢
  clear hT hby hbl hsz
  go_enter Tryz.func95, Tryz.ntmps95
  go_wp2_with (first | (go_at_call 125; fail))
  go_at_call 125
  refine (weach _ _ _ _).mono ?_
  rintro e w2 ⟨rfl, rfl⟩
  have hsz := HSZ.out
  go_wp2
  go_ret
  exact ⟨w.heap.size + 1, w.heap.size, cap, rfl, by rw [← hsz]; exact heap_alloc_new _ _, hcap, HBY.out.kept (n := W1.heap.size) (by omega) ((Below.refl _ _).alloc (Nat.le_refl _) _), by simp; omega, by omega, Nat.le_refl _, HBL.out.alloc (by omega) _⟩
theorem tl_len : ∀ (k lo hi : Nat) (t : Bs) (r r' : Int), tl k lo hi t r = some (some r') → k ≤ t.length
  | 0, _, _, _, _, _, _ => Nat.zero_le _
  | _ + 1, _, _, [], _, _, h => by cases h
  | k + 1, lo, hi, c :: t, r, r', h => by
    unfold tl at h
    split at h
    · cases h
    · have := tl_len k _ _ t _ r' h
      simp
      omega
theorem stp_n (b : Bs) (h : b ≠ []) : 1 ≤ (stp b).2 ∧ (stp b).2 ≤ b.length := by
  obtain ⟨c, t, rfl⟩ := List.exists_cons_of_ne_nil h
  have hx : nxt (c :: t) = if (shp c.toNat).m = 0 then (65533, 1, false) else nxtT (shp c.toNat).m (tl ((shp c.toNat).m - 1) (shp c.toNat).lo (shp c.toNat).hi t (shp c.toNat).r) := rfl
  unfold stp
  rw [hx]
  by_cases hm : (shp c.toNat).m = 0
  · simp [hm]
  · rw [if_neg hm]
    generalize ht : tl _ _ _ _ _ = T
    cases T with
    | none => simp [nxtT]
    | some o =>
      cases o with
      | none => simp [nxtT]
      | some r =>
        have := tl_len _ _ _ _ _ _ ht
        simp [nxtT]
        omega
/-- What All tells: the places and the runes. -/
def itmN : Nat → Nat → Bs → List (Nat × Int)
  | 0, _, _ => []
  | _ + 1, _, [] => []
  | f + 1, a, b@(_ :: _) => (a, (stp b).1) :: itmN f (a + (stp b).2) (b.drop (stp b).2)
def itm (l : Bs) : List (Nat × Int) := itmN l.length 0 l
theorem itmN_nil (f a : Nat) : itmN f a [] = [] := by cases f <;> rfl
theorem itmN_cons (f a : Nat) (b : Bs) (h : b ≠ []) : itmN (f + 1) a b = (a, (stp b).1) :: itmN f (a + (stp b).2) (b.drop (stp b).2) := by
  obtain ⟨c, t, rfl⟩ := List.exists_cons_of_ne_nil h
  rfl
def encE (x : Nat × Int) : Array Value := #[.int .i64 x.1, .int .i32 x.2]
set_option maxRecDepth 100000 in
set_option maxHeartbeats 4000000 in
theorem each_in (l p q cap : Nat) (L : Bs) (hL : L.length ≤ 4611686018427387904) (hcap : L.length ≤ cap) (W : World) (hp : W.heap[p]? = some (.cells #[.slice (some ⟨q, 0, none⟩) L.length cap] 37 (0, 0))) (hq : BytesAt W q 0 L) (hql : q < W.heap.size)
    (J Jx : List (Nat × Int) → World → Prop) (hA : AbidesFrom W.heap.size J)
    (hY : ∀ pre x W1, J pre W1 → pre ++ [x] <+: itm L → YieldAt Fence.wide 4 Tryz.prog l (encE x) W1 fun e W' =>
      (e = .returned (.bool true) ∧ J (pre ++ [x]) W' ∧ KeepP p q W1 W') ∨ (e = .returned (.bool false) ∧ Jx (pre ++ [x]) W'))
    (hJ0 : J [] W) :
    CallsIn Fence.wide 5 Tryz.prog 140 #[.func (.yield l) #[] #[], .pointer (some ⟨p, 0, none⟩)] W fun e W' => (∃ v, e = .returned v) ∧
      ((∃ xs, xs = itm L ∧ J xs W') ∨ (∃ pre, (pre ≠ [] ∧ pre <+: itm L) ∧ Jx pre W')) := by
  have HY := Lib.hid hY
  have HA := Lib.hid hA
  have HP := Lib.hid hp
  have HQ := Lib.hid hq
  have HQL := Lib.hid hql
  have hpl : p < W.heap.size := (Array.getElem?_eq_some_iff.1 hp).1
  have HPL := Lib.hid hpl
  clear hY hA hp hq hql hpl
  obtain ⟨n, hn⟩ : ∃ n, n = L.length := ⟨_, rfl⟩
  have HN := Lib.hid hn
  rw [← hn] at HP hL hcap
  clear hn
  refine callsIn_of_wp Tryz.func140 rfl trivial ?_ rfl
  simp only [Tryz.ntmps140, List.size_toArray, List.length_cons, List.length_nil, Nat.reduceAdd, Nat.reduceSub, Array.replicate_succ, Array.replicate_zero, List.push_toArray, List.append_toArray, List.nil_append, List.cons_append]
  gi_wp2
  gi_loopw [3] (fun i wy => ∃ (pre : List (Nat × Int)) (a f : Nat), i = .int .i64 a ∧ a ≤ n ∧ n - a ≤ f ∧ Hid (itm L = pre ++ itmN f a (L.drop a)) ∧ J pre wy ∧ Hid (KeepP p q W wy)) (fun i _ => n - (intOf i).toNat)
  case atStart => exact ⟨[], 0, n, rfl, by omega, by omega, Lib.hid (by rw [HN.out]; rfl), hJ0, Lib.hid (KeepP.refl _ _ _)⟩
  case round =>
    obtain ⟨pre, a, f, rfl, ha, hf, HI, hJ2, HK⟩ := hrel
    have cp : wr.cell? ⟨p, 0, none⟩ = some (.slice (some ⟨q, 0, none⟩) n cap) := by
      have := HK.out.bp.trans HP.out
      simp [World.cell?, this]
    by_cases hlt : a < n
    · have hne : L.drop a ≠ [] := by
        intro h
        have := congrArg List.length h
        have h2 := HN.out
        simp at this
        omega
      have hby : BytesAt wr q a (L.drop a) := fun j hj => by
        have h1 := (HQ.out.drop a) j hj
        rw [Nat.zero_add] at h1
        have h2 := HK.out.bq
        rw [World.cell?_of_block (a := ⟨q, a + j, none⟩) h2]
        exact h1
      obtain ⟨s1, s2⟩ := stp_n _ hne
      obtain ⟨f', rfl⟩ : ∃ f', f = f' + 1 := ⟨f - 1, by omega⟩
      have hit := HI.out
      rw [itmN_cons _ _ _ hne] at hit
      have HS := Lib.hid (wstep q a (cap - a) (L.drop a) (by simp; have := HN.out; omega) (by simp; have := HN.out; omega) hne wr (by have := HK.out.size; have := HQL.out; omega) hby)
      have hlen : (L.drop a).length = n - a := by have := HN.out; simp; omega
      rw [hlen] at HS s2
      have HIT := Lib.hid hit
      obtain ⟨R, hR⟩ : ∃ R, R = (stp (L.drop a)).1 := ⟨_, rfl⟩
      obtain ⟨S, hS⟩ : ∃ R, R = (stp (L.drop a)).2 := ⟨_, rfl⟩
      rw [← hR, ← hS] at HS HIT
      rw [← hS] at s1 s2
      clear hit hR hS hby hlen
      have i1 : (0 : Int) ≤ (a : Int) := by omega
      have i2 : (a : Int) ≤ (n : Int) := by omega
      have i3 : (n : Int) ≤ (cap : Int) := by omega
      gi_wp2_with (first | (refine ⟨trivial, ?_⟩; gi_at_call 141; fail))
      refine ⟨trivial, ?_⟩
      refine (callsIn_wide.2 HS.out).mono ?_
      rintro e w2 ⟨rfl, hb2⟩
      have hJ3 := HA.out _ wr w2 none hJ2 ⟨hb2.os, hb2.tape, hb2.output, hb2.size, fun i hi _ => hb2.block i hi⟩ (fun r e => by cases e)
      have hpr : pre ++ [(a, R)] <+: itm L := ⟨itmN f' (a + S) (List.drop S (List.drop a L)), by rw [HIT.out]; simp⟩
      have HK3 : Hid (KeepP p q wr w2) := Lib.hid ⟨hb2.size, hb2.block _ (by have := HK.out.size; have := HPL.out; omega), hb2.block _ (by have := HK.out.size; have := HQL.out; omega)⟩
      obtain ⟨fn, tmps, assign, body, hy, hR⟩ := HY.out pre (a, R) w2 hJ3 hpr
      unfold encE at hy
      simp only [] at hy
      have HRR := Lib.hid hR
      clear hR hb2 hJ2 hJ3 hpr cp
      gi_wp2
      refine HRR.out.mono ?_
      rintro e W3 (⟨rfl, hJ4, hk4⟩ | ⟨rfl, hJx4⟩)
      · gi_wp2
        go_roundw
        case rel => exact ⟨pre ++ [(a, R)], a + S, f', by go_num, by omega, by omega, Lib.hid (by have := HIT.out; rw [this, List.drop_drop]; simp), hJ4, Lib.hid ((HK.out.trans HK3.out).trans hk4)⟩
        case measure => simp [intOf]; omega
      · have HPX : Hid (pre ++ [(a, R)] ≠ [] ∧ pre ++ [(a, R)] <+: itm L) := Lib.hid ⟨by simp, ⟨itmN f' (a + S) (List.drop S (List.drop a L)), by rw [HIT.out]; simp⟩⟩
        gi_wp2
        refine bodyPost_ret (results_none rfl _ _ _) rfl ?_
        exact ⟨⟨_, rfl⟩, .inr ⟨_, HPX.out, hJx4⟩⟩
    · have he : itm L = pre := by
        have := HI.out
        rw [List.drop_eq_nil_of_le (by have := HN.out; omega), itmN_nil, List.append_nil] at this
        exact this
      have HE := Lib.hid he
      clear he
      gi_wp2
      go_end0
      first | exact ⟨⟨_, rfl⟩, .inl ⟨_, rfl, (by rw [HE.out]; exact hJ2)⟩⟩ | exact ⟨⟨_, rfl⟩, .inl (by rw [HE.out]; exact hJ2)⟩
end Go.Proofs.YtdomglkcfecnnaaGreat
