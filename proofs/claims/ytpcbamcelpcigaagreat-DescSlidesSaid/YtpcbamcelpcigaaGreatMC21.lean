/- Own texts, merged. -/
import Derived.WalkKit
import Derived.Test.YtpcbamcelpcigaaGreatMC15
import Derived.Test.YtpcbamcelpcigaaGreatMC20
import Derived.Test.YtpcbamcelpcigaaGreatMC00
set_option maxRecDepth 100000
set_option maxHeartbeats 32000000
open Go.Lib (hid)
namespace Go.Proofs.YtpcbamcelpcigaaGreat
open Go.RowKit Go.Shelf
attribute [local go_sem] run_store_float
theorem rtruth_cmp (B n : Nat) (H : RC B 83 2 .sum 6 n) (ts : List Tok) (hq : isTok ts 2 wnot = false) (a : Tree) (t : Tok) (r1 : List Tok) (ht4 : t.k = 4) (hcm : isCmp t.s = true) (hx : P valV true n .sum ts = some (a, t :: r1)) (v : Value) (w : World) (hn : 12 * ts.length + 7 ≤ n + 1) (hl : ts.length ≤ 1000000) (hB : B ≤ w.heap.size) (hK : KOk ts) (hv : TokV B w v ts) :
    Calls Tryz.prog 146 #[v] w (REnd B (P valV true (n + 1) .not ts) w) := by
  have HB := hid hB
  have HT := hid hv
  have HIS := hid (fun W (h : TokV B W v ts) => ris B v ts 2 (.inl rfl) wnot hK hl W h)
  have HC := hid (fun W (hb : B ≤ W.heap.size) ht => H ts v W (by omega) hl hb hK ht)
  have hcr : cmpR n (some (a, t :: r1)) = (match P valV true n .sum r1 with | none => none | some (b, r') => some (two t.s a b, r')) := if_pos ⟨ht4, hcm⟩
  have hlen := (P_len valV true n .sum ts a (t :: r1) hx).1
  obtain ⟨res2, hres2⟩ : ∃ y, y = P valV true n .sum r1 := ⟨_, rfl⟩
  obtain ⟨RR, hRR⟩ : ∃ y, y = (match res2 with | none => none | some (b, r') => some (two t.s a b, r')) := ⟨_, rfl⟩
  rw [P_not_no n ts hq, hx, hcr, ← hres2, ← hRR]
  have HRR := hid hRR
  clear hRR
  have HC2 : Hid (∀ (W : World) v1, B ≤ W.heap.size → KOk r1 → TokV B W v1 r1 → Calls Tryz.prog 83 #[v1, .int .i64 2] W (REnd B res2 W)) := hid (fun W v1 hb hk ht => by
    rw [hres2]
    exact H r1 v1 W (by rw [List.length_cons] at hlen; omega) (by rw [List.length_cons] at hlen; omega) hb hk ht)
  rw [hx] at HC
  rw [hq] at HIS
  obtain ⟨x, tn, tc, rfl⟩ := hv.agg
  clear hn hl hB hK hv H hq hx hres2 hlen
  go_enter Tryz.func146, Tryz.ntmps146
  go_wp2_with (first | (go_at_call 148; refine (HIS.out _ (HT.out.below ((Below.refl _ _).alloc (Nat.le_refl _) _) HB.out)).mono ?_; rintro e w5 ⟨rfl, rfl⟩) | (go_at_call 83; fail))
  go_at_call 83
  refine (HC.out _ (by have := HB.out; simp; omega) (HT.out.below ((Below.refl _ _).alloc (Nat.le_refl _) _) HB.out)).mono ?_
  rintro e w2 ⟨hb2, v2, rfl, o, nn, s, x2, l, c, y, m, d, bad, ta, rfl, hnode, hcase⟩
  obtain ⟨rfl, hta, htv, hk⟩ : bad = false ∧ ta = a ∧ TokV B w2 (.slice y m d) (t :: r1) ∧ KOk (t :: r1) := by
    rcases hcase with ⟨_, h3⟩ | ⟨h3, ts, h4, htv, hk⟩
    · cases h3
    · cases h4; exact ⟨h3, rfl, htv, hk⟩
  subst hta
  clear hcase
  obtain ⟨hm, ad, rfl, hab, g2, g3⟩ : 0 < m ∧ ∃ ad, y = some ad ∧ ad.block < B ∧ w2.cell? ad = some (.int .u8 (kd t.k)) ∧ w2.cell? ⟨ad.block, ad.off + 1, none⟩ = some (.string (tx t.s)) := by
    obtain ⟨x', cap, h5, hcap, hx', hc⟩ := htv
    cases h5
    cases y with
    | none => have := hx' rfl; cases this
    | some ad =>
      obtain ⟨p1, p2, p3⟩ := hc ad rfl 0 t rfl
      exact ⟨by simp, ad, rfl, p1, p2, by simpa [Addr.add] using p3⟩
  rw [ht4, show kd 4 = 115 from rfl] at g2
  obtain ⟨y2, m2, d2, hsl, hts2⟩ := tok_slice htv
  have hsz : (w.alloc (.cells #[.string ⟨#[]⟩, .float .f64 0, .string ⟨#[]⟩, .slice none 0 0, .slice none 0 0, .bool false] 121)).heap.size = w.heap.size + 1 := by simp
  have hr0 : RB (w.alloc (.cells #[.string ⟨#[]⟩, .float .f64 0, .string ⟨#[]⟩, .slice none 0 0, .slice none 0 0, .bool false] 121)) w.heap.size _ _ _ _ _ _ := heap_alloc_new _ _
  have hz := hr0.below hb2
  rw [hsz] at hb2 hnode
  have hlt := hz.lt
  have hab2 : ad.block < w2.heap.size := by have := HB.out; omega
  have q3 : ((m : Int) == 0) = false := by simp; omega
  have hal : Below w2.heap.size w2 (w2.alloc (.cells #[.string o, .float .f64 nn, .string s, .slice x2 l c, .slice (some ad) m d, .bool false] 121)) := (Below.refl _ _).alloc (Nat.le_refl _) _
  have HBW4 : Hid (Below w.heap.size w (w2.alloc (.cells #[.string o, .float .f64 nn, .string s, .slice x2 l c, .slice (some ad) m d, .bool false] 121))) := hid (((bel1 w _).trans (below_le hb2 (by omega))).trans (below_le hal (by omega)))
  have HZ4 := hid (hz.below hal)
  have HG4 : Hid (RB (w2.alloc (.cells #[.string o, .float .f64 nn, .string s, .slice x2 l c, .slice (some ad) m d, .bool false] 121)) w2.heap.size _ _ _ _ _ _) := hid (heap_alloc_new _ _)
  have HND4 := hid (hnode.below hal)
  have HTS4 := hid (hts2.below hal (by have := HB.out; omega))
  have HK1 := hid hk.tail
  have hg6 : t.s = [61] ∨ t.s = [33, 61] ∨ t.s = [60] ∨ t.s = [60, 61] ∨ t.s = [62] ∨ t.s = [62, 61] := by simpa [isCmp] using hcm
  have hT : (((tx t.s).toList == [61]) = true) ∨ (((tx t.s).toList == [61]) = false ∧ ((tx t.s).toList == [33, 61]) = true) ∨ (((tx t.s).toList == [61]) = false ∧ ((tx t.s).toList == [33, 61]) = false ∧ ((tx t.s).toList == [60]) = true) ∨ (((tx t.s).toList == [61]) = false ∧ ((tx t.s).toList == [33, 61]) = false ∧ ((tx t.s).toList == [60]) = false ∧ ((tx t.s).toList == [60, 61]) = true) ∨ (((tx t.s).toList == [61]) = false ∧ ((tx t.s).toList == [33, 61]) = false ∧ ((tx t.s).toList == [60]) = false ∧ ((tx t.s).toList == [60, 61]) = false ∧ ((tx t.s).toList == [62]) = true) ∨ (((tx t.s).toList == [61]) = false ∧ ((tx t.s).toList == [33, 61]) = false ∧ ((tx t.s).toList == [60]) = false ∧ ((tx t.s).toList == [60, 61]) = false ∧ ((tx t.s).toList == [62]) = false ∧ ((tx t.s).toList == [62, 61]) = true) := by
    rcases hg6 with h | h | h | h | h | h <;> rw [h]
    · exact .inl (tx_same _)
    · exact .inr (.inl (⟨tx_ne (by decide), tx_same _⟩))
    · exact .inr (.inr (.inl (⟨tx_ne (by decide), tx_ne (by decide), tx_same _⟩)))
    · exact .inr (.inr (.inr (.inl (⟨tx_ne (by decide), tx_ne (by decide), tx_ne (by decide), tx_same _⟩))))
    · exact .inr (.inr (.inr (.inr (.inl (⟨tx_ne (by decide), tx_ne (by decide), tx_ne (by decide), tx_ne (by decide), tx_same _⟩)))))
    · exact .inr (.inr (.inr (.inr (.inr (⟨tx_ne (by decide), tx_ne (by decide), tx_ne (by decide), tx_ne (by decide), tx_ne (by decide), tx_same _⟩)))))
  clear hz hr0 hsz hb2 hnode htv hk hts2 hal hcm hg6 ht4 hcr HC HT HIS hab
  rcases hT with h1 | ⟨h1, h2⟩ | ⟨h1, h2, h3⟩ | ⟨h1, h2, h3, h4⟩ | ⟨h1, h2, h3, h4, h5⟩ | ⟨h1, h2, h3, h4, h5, h6⟩
  all_goals
    go_wp2_with (first | (go_at_call 83; fail))
    generalize (w2.alloc (.cells #[.string o, .float .f64 nn, .string s, .slice x2 l c, .slice (some ad) m d, .bool false] 121)) = W4 at HBW4 HZ4 HG4 HND4 HTS4 ⊢
    generalize w2.heap.size = g4 at HG4 hlt ⊢
    refine (HC2.out W4 _ (by have := HB.out; have := HBW4.out.size; omega) HK1.out HTS4.out).mono ?_
    rintro e w5 ⟨hb5, v5, rfl, o5, n5, s5, x5, l5, c5, y5, m5, d5, bad5, tb, rfl, hnode5, hcase5⟩
    have hal5 : Below w5.heap.size w5 (w5.alloc (.cells #[.string o5, .float .f64 n5, .string s5, .slice x5 l5 c5, .slice y5 m5 d5, .bool bad5] 121)) := (Below.refl _ _).alloc (Nat.le_refl _) _
    have hle5 := hb5.size
    have hle4 := HG4.out.lt
    have HZ7 := hid ((HZ4.out.below hb5).below hal5)
    have HG47 := hid ((HG4.out.below hb5).below hal5)
    have HG7 : Hid (RB (w5.alloc (.cells #[.string o5, .float .f64 n5, .string s5, .slice x5 l5 c5, .slice y5 m5 d5, .bool bad5] 121)) w5.heap.size _ _ _ _ _ _) := hid (heap_alloc_new _ _)
    have HND47 := hid ((HND4.out.below hb5).below hal5)
    have HND7 := hid ((hnode5.sub (B := fun b => w.heap.size + 1 ≤ b) (fun b h1 _ => by have h3 : W4.heap.size ≤ b := h1; show w.heap.size + 1 ≤ b; omega)).below hal5)
    have HBW7 : Hid (Below w.heap.size w (w5.alloc (.cells #[.string o5, .float .f64 n5, .string s5, .slice x5 l5 c5, .slice y5 m5 d5, .bool bad5] 121))) := hid ((HBW4.out.trans (below_le hb5 (by omega))).trans (below_le hal5 (by omega)))
    have HCS7 := hid (show (bad5 = true ∧ res2 = none) ∨ (bad5 = false ∧ ∃ ts, res2 = some (tb, ts) ∧ TokV B (w5.alloc (.cells #[.string o5, .float .f64 n5, .string s5, .slice x5 l5 c5, .slice y5 m5 d5, .bool bad5] 121)) (.slice y5 m5 d5) ts ∧ KOk ts) from by
      rcases hcase5 with h1 | ⟨h1, ts, h2, h3, h4⟩
      · exact .inl h1
      · exact .inr ⟨h1, ts, h2, h3.below hal5 (by have := HB.out; omega), h4⟩)
    have hg45 : g4 < w5.heap.size := by omega
    clear HZ4 HG4 HND4 HTS4 HC2 hb5 hnode5 hcase5 hal5
    go_wp2_with fail
    generalize (w5.alloc (.cells #[.string o5, .float .f64 n5, .string s5, .slice x5 l5 c5, .slice y5 m5 d5, .bool bad5] 121)) = W7 at HBW7 HZ7 HG47 HND47 HG7 HND7 HCS7 ⊢
    generalize w5.heap.size = g7 at HG7 hg45 ⊢
    have HSS : Hid (∀ W, RB W g4 (.string o) (.float .f64 nn) (.string s) (.slice x2 l c) (.slice (some ad) m d) (.bool false) → RB W g7 (.string o5) (.float .f64 n5) (.string s5) (.slice x5 l5 c5) (.slice y5 m5 d5) (.bool bad5) → W.cell? ⟨g4, 0, none⟩ = some (.string o) ∧ W.cell? ⟨g4, 1, none⟩ = some (.float .f64 nn) ∧ W.cell? ⟨g4, 2, none⟩ = some (.string s) ∧ W.cell? ⟨g4, 3, none⟩ = some (.slice x2 l c) ∧ W.cell? ⟨g7, 0, none⟩ = some (.string o5) ∧ W.cell? ⟨g7, 1, none⟩ = some (.float .f64 n5) ∧ W.cell? ⟨g7, 2, none⟩ = some (.string s5) ∧ W.cell? ⟨g7, 3, none⟩ = some (.slice x5 l5 c5) ∧ W.cell? ⟨g7, 4, none⟩ = some (.slice y5 m5 d5) ∧ W.cell? ⟨g7, 5, none⟩ = some (.bool bad5)) := hid (fun W h1 h2 => by
      obtain ⟨a0, a1, a2, a3, _, _⟩ := h1.cells
      exact ⟨a0, a1, a2, a3, h2.cells⟩)
    have HS0 := hid (HSS.out W7.drew HG47.out HG7.out)
    clear g2 g3
    refine wp_region_held (S := (fun w' => w'.cell? ⟨g4, 0, none⟩ = some (.string o) ∧ w'.cell? ⟨g4, 1, none⟩ = some (.float .f64 nn) ∧ w'.cell? ⟨g4, 2, none⟩ = some (.string s) ∧ w'.cell? ⟨g4, 3, none⟩ = some (.slice x2 l c) ∧ w'.cell? ⟨g7, 0, none⟩ = some (.string o5) ∧ w'.cell? ⟨g7, 1, none⟩ = some (.float .f64 n5) ∧ w'.cell? ⟨g7, 2, none⟩ = some (.string s5) ∧ w'.cell? ⟨g7, 3, none⟩ = some (.slice x5 l5 c5) ∧ w'.cell? ⟨g7, 4, none⟩ = some (.slice y5 m5 d5) ∧ w'.cell? ⟨g7, 5, none⟩ = some (.bool bad5))) (by kernel_rfl) ?_
    change wpAnyH _ _ _ _ _ _ _ _ (World.drew _)
    refine tkH (i := 0) HS0.out ?_
    try simp only [Act.put]
    refine tkH (i := 1) HS0.out ?_
    try simp only [Act.put]
    refine tkH (i := 2) HS0.out ?_
    try simp only [Act.put]
    refine tkH (i := 3) HS0.out ?_
    try simp only [Act.put]
    refine tkH (i := 4) HS0.out ?_
    try simp only [Act.put]
    refine tkH (i := 6) HS0.out ?_
    try simp only [Act.put]
    refine tkH (i := 7) HS0.out ?_
    try simp only [Act.put]
    refine tkH (i := 8) HS0.out ?_
    try simp only [Act.put]
    refine tkH (i := 9) HS0.out ?_
    try simp only [Act.put]
    refine wpAnyH_ready (rs := [5]) (by kernel_rfl) (by simp) ?_
    refine AllReadyH.cons rfl (fun K hK => ?_) AllReadyH.nil
    go_simp
    go_wp2_with (first | (go_at_call 111; fail))
    refine (rtwo (fun b => w.heap.size + 1 ≤ b) t.s _ _ ta tb _ (fun b hb => ?_) HND47.out.drew HND7.out.drew).mono ?_
    · have h1 := HBW7.out.size; have h2 := HZ7.out.lt; have h3 : W7.heap.size ≤ b := hb; show w.heap.size + 1 ≤ b; omega
    rintro e w6 ⟨v6, rfl, hv6, hb6⟩
    obtain ⟨o6, n6, s6, x6, l6, c6, rfl⟩ := hv6.agg
    have HB6 : Hid (Below W7.heap.size W7 w6) := hid ((Below.refl _ _).drew.trans hb6)
    have HZ6 := hid (HZ7.out.below HB6.out)
    have HG46 := hid (HG47.out.below HB6.out)
    have HG6 := hid (HG7.out.below HB6.out)
    have HS6 := hid (HSS.out w6 HG46.out HG6.out)
    have HS8 := hid (HSS.out (putR w6 w.heap.size (.string o6) (.float .f64 n6) (.string s6) (.slice x6 l6 c6) (.slice y5 m5 d5) (.bool bad5)) ((putR_other (by omega)).trans HG46.out) ((putR_other (by omega)).trans HG6.out))
    have HE : Hid (REnd B RR w (.returned (.agg #[.string o6, .float .f64 n6, .string s6, .slice x6 l6 c6, .slice y5 m5 d5, .bool bad5])) (putR w6 w.heap.size (.string o6) (.float .f64 n6) (.string s6) (.slice x6 l6 c6) (.slice y5 m5 d5) (.bool bad5))) := hid (by
      rw [HRR.out]
      have h7 := HBW7.out.size
      refine ⟨below_putR (HBW7.out.trans (below_le HB6.out h7)) (Nat.le_refl _), _, rfl, _, _, _, _, _, _, _, _, _, _, _, rfl, (hv6.putR (fun hh => by have h3 : w.heap.size + 1 ≤ w.heap.size := hh; omega)).sub (fun b h1 _ => by have h3 : w.heap.size + 1 ≤ b := h1; show w.heap.size ≤ b; omega), ?_⟩
      rcases HCS7.out with ⟨h1, h2⟩ | ⟨h1, ts, h2, h3, h4⟩
      · subst h2; exact .inl ⟨h1, rfl⟩
      · subst h2; exact .inr ⟨h1, ts, rfl, (h3.below HB6.out (by have := HB.out; omega)).putR HB.out, h4⟩)
    obtain ⟨k0, k1, k2, k3, k4, k5⟩ := HZ6.out.cells
    have f0 := HZ6.out.fr 0
    have f1 := HZ6.out.fr 1
    have f2 := HZ6.out.fr 2
    have f3 := HZ6.out.fr 3
    have f4 := HZ6.out.fr 4
    have f5 := HZ6.out.fr 5
    clear hv6 hb6
    refine hK.out _ _ HS6.out (fun _ => ?_)
    clear hK K
    try simp only [Act.put, zz1]
    refine tkH (i := 10) HS6.out ?_
    try simp only [Act.put]
    refine wpAnyH_ready (rs := [11]) (by kernel_rfl) (by simp) ?_
    refine AllReadyH.cons rfl (fun K hK => ?_) AllReadyH.nil
    go_simp
    refine hK.out _ _ HS8.out (fun _ => ?_)
    clear hK K
    refine wpAnyH_done (by kernel_rfl) ?_ _
    go_wp2
    exact bodyPost_ret (read_node _ rfl _ _ w.heap.size _ _ _ _ _ _ rfl HZ6.out.put) rfl HE.out
end Go.Proofs.YtpcbamcelpcigaaGreat
namespace Go.Proofs.YtpcbamcelpcigaaGreat
open Go.RowKit Go.Shelf
theorem rtruth_step (B n:Nat) (H:RT B 146 .not 7 n) (HR:RC B 83 2 .sum 6 n):RT B 146 .not 7 (n + 1):=by
 intro ts v w hn hl hB hK hv
 cases hq:isTok ts 2 wnot
 ·rcases hx:P valV true n .sum ts with _ | ⟨a,_ | ⟨t,r1⟩⟩
  ·exact rtruth_bad B n HR ts hq hx v w hn hl hB hK hv
  ·exact rtruth_end B n HR ts hq a hx v w hn hl hB hK hv
  ·by_cases h4:t.k = 4
   ·cases hc:isCmp t.s
    ·exact rtruth_sign B n HR ts hq a t r1 h4 hc hx v w hn hl hB hK hv
    ·exact rtruth_cmp B n HR ts hq a t r1 h4 hc hx v w hn hl hB hK hv
   ·exact rtruth_kind B n HR ts hq a t r1 h4 hx v w hn hl hB hK hv
 ·cases ts with
  | nil=>cases hq
  | cons t r=>exact rtruth_not B n H t r hq v w hn hl hB hK hv
end Go.Proofs.YtpcbamcelpcigaaGreat
namespace Go.Proofs.YtpcbamcelpcigaaGreat
open Go.RowKit Go.Shelf
attribute [local go_sem] run_store_float
def BndV (w:World) (v:Value) (L:List Bnd):Prop:=∃ x cap,v = .slice x L.length cap∧L.length≤cap∧(x = none→L = [])∧∀ a,x = some a→(L≠[]→a.block < w.heap.size)∧∀ i b,L[i]? = some b→
 w.cell? (a.add (i * 5)) = some (.string (tx b.nm))∧w.cell? (a.add (i * 5 + 1)) = some (.int .i64 b.v.t)∧w.cell? (a.add (i * 5 + 2)) = some (.float .f64 b.v.n)∧w.cell? (a.add (i * 5 + 3)) = some (.string (tx b.v.s))∧w.cell? (a.add (i * 5 + 4)) = some (.bool b.v.b)
theorem BndV.agg {w:World} {v:Value} {L:List Bnd} (h:BndV w v L):∃ x n c,v = .slice x n c:=by
 obtain ⟨x,cap,rfl,_⟩:=h;exact ⟨_,_,_,rfl⟩
theorem BndV.kept {w w':World} {v:Value} {L:List Bnd} (h:BndV w v L) (hz:w.heap.size≤w'.heap.size) (hk:∀ b,b < w.heap.size→w'.heap[b]? = w.heap[b]?):BndV w' v L:=by
 obtain ⟨x,cap,hv,h1,h2,h3⟩:=h
 refine ⟨x,cap,hv,h1,h2,fun a ha=>?_⟩
 obtain ⟨g0,g⟩:=h3 a ha
 refine ⟨fun e=>Nat.lt_of_lt_of_le (g0 e) hz,fun i b hi=>?_⟩
 replace g0:=g0 (nil_not (List.getElem?_eq_some_iff.1 hi).1)
 obtain ⟨g1,g2,g3,g4,g5⟩:=g i b hi
 have hs:∀ j,w'.heap[(a.add j).block]? = w.heap[(a.add j).block]?:=fun j=>by rw [add_block];exact hk _ g0
 exact ⟨cell_same (hs _) g1,cell_same (hs _) g2,cell_same (hs _) g3,cell_same (hs _) g4,cell_same (hs _) g5⟩
theorem BndV.below {w w':World} {v:Value} {L:List Bnd} (h:BndV w v L) (hb:Below w.heap.size w w'):BndV w' v L:=h.kept hb.size hb.block
theorem BndV.nil (w:World):BndV w (.slice none 0 0) []:=⟨none,0,rfl,Nat.le_refl _,fun _=>rfl,fun a ha=>by cases ha⟩
def VB (w:World) (g:Nat) (v0 v1 v2 v3:Value):Prop:=w.heap[g]? = some (.cells #[v0,v1,v2,v3] 56 (0,0))
theorem VB.cells {w:World} {g:Nat} {v0 v1 v2 v3:Value} (h:VB w g v0 v1 v2 v3):w.cell? ⟨g,0,none⟩ = some v0∧w.cell? ⟨g,1,none⟩ = some v1∧w.cell? ⟨g,2,none⟩ = some v2∧w.cell? ⟨g,3,none⟩ = some v3:=by
 unfold VB at h
 exact ⟨by simp [World.cell?,h],by simp [World.cell?,h],by simp [World.cell?,h],by simp [World.cell?,h]⟩
theorem VB.fr {w:World} {g:Nat} {v0 v1 v2 v3:Value} (h:VB w g v0 v1 v2 v3) (j:Nat):w.frozen? ⟨g,j,none⟩ = false:=by unfold VB at h;simp [World.frozen?,h]
theorem VB.lt {w:World} {g:Nat} {v0 v1 v2 v3:Value} (h:VB w g v0 v1 v2 v3):g < w.heap.size:=(Array.getElem?_eq_some_iff.1 h).1
theorem VB.below {w w':World} {g:Nat} {v0 v1 v2 v3:Value} (h:VB w g v0 v1 v2 v3) (hb:Below w.heap.size w w'):VB w' g v0 v1 v2 v3:=(hb.block g h.lt).trans h
theorem VB.put {w:World} {g:Nat} {u0 u1 u2 u3 v0 v1 v2 v3:Value} (h:VB w g u0 u1 u2 u3):VB (putN w g v0 v1 v2 v3) g v0 v1 v2 v3:=by
 unfold putN VB
 rw [set_block (set_block (set_block (set_block h _) _) _) _]
 rfl
def bvV (o:Option Vl):Value:=match o with
 | none=>.agg #[.int .i64 0,.float .f64 0,.string (tx []),.bool false]
 | some v=>.agg #[.int .i64 v.t,.float .f64 v.n,.string (tx v.s),.bool v.b]
theorem firstB_step {s:Bs} {L:List Bnd} {j:Nat} (h:j < L.length):firstB s (L.drop j) = if L[j].nm = s then some L[j] else firstB s (L.drop (j + 1)):=by
 rw [List.drop_eq_getElem_cons h]
 rfl
theorem firstB_end {s:Bs} {L:List Bnd} {j:Nat} (h:L.length≤j):firstB s (L.drop j) = none:=by
 rw [List.drop_eq_nil_of_le h]
 rfl
theorem wbound (s:Bs) (v:Value) (L:List Bnd) (hL:L.length≤1000000) (w:World) (h:BndV w v L):Calls Tryz.prog 98 #[.string (tx s),v] w fun e w'=>e = .returned (.tuple #[bvV (boundV L s),.bool (boundV L s).isSome])∧Below w.heap.size w w':=by
 obtain ⟨x,cap,rfl,hcap,hx,hc⟩:=h
 have HC:=hid hc
 have HX:=hid hx
 obtain ⟨res,hres⟩:∃ y,y = boundV L s:=⟨_,rfl⟩
 rw [←hres]
 have HR:Hid (res = match firstB s (L.drop 0) with | none=>none | some b=>plainV b.v):=hid hres
 obtain ⟨N,hN⟩:∃ N,N = L.length:=⟨_,rfl⟩
 have HN:=hid hN
 have HZ0:Hid (VB (w.alloc (.cells #[.int .i64 0,.float .f64 0,.string ⟨#[]⟩,.bool false] 56)) w.heap.size (.int .i64 0) (.float .f64 0) (.string ⟨#[]⟩) (.bool false)):=hid (heap_alloc_new _ _)
 have HB0:=hid (bel1 w (.cells #[.int .i64 0,.float .f64 0,.string ⟨#[]⟩,.bool false] 56))
 rw [←hN] at hL hcap ⊢
 clear hc hx hN hres
 go_enter Tryz.func98,Tryz.ntmps98
 go_wp2_with fail
 generalize w.alloc (.cells #[.int .i64 0,.float .f64 0,.string ⟨#[]⟩,.bool false] 56) = W0 at HZ0 HB0 ⊢
 go_loopg [10] N (fun gh i wr=>∃ j:Nat,j + gh = N∧i = .int .i64 j∧Hid (res = match firstB s (L.drop j) with | none=>none | some b=>plainV b.v)∧Hid (VB wr w.heap.size (.int .i64 0) (.float .f64 0) (.string ⟨#[]⟩) (.bool false))∧Hid (Below w.heap.size w wr))
 case atStart=>exact ⟨0,by omega,rfl,HR,HZ0,HB0⟩
 case round=>
  obtain ⟨j,hj,rfl,HR1,HZ,HB⟩:=hrel
  clear HR HZ0 HB0
  have hlt:=HZ.out.lt
  by_cases q:j < N
  ·have hjl:j < L.length:=by have:=HN.out;omega
   obtain ⟨a,rfl⟩:∃ a,x = some a:=by
    cases x with
    | none=>have:=HX.out rfl;rw [this] at hjl;cases hjl
    | some a=>exact ⟨a,rfl⟩
   obtain ⟨e0,e1,e2,e3,e4⟩:=(HC.out a rfl).2 j L[j] (List.getElem?_eq_getElem hjl)
   have hab:a.block < w.heap.size:=(HC.out a rfl).1 (nil_not hjl)
   have hs:∀ k,wr.heap[(a.add k).block]? = w.heap[(a.add k).block]?:=fun k=>by rw [add_block];exact HB.out.block _ hab
   have d0:=cell_same (hs _) e0
   have d1:=cell_same (hs _) e1
   have d2:=cell_same (hs _) e2
   have d3:=cell_same (hs _) e3
   have d4:=cell_same (hs _) e4
   rw [add_lit _ _ _ (by decide)] at d1 d2 d3 d4
   clear e0 e1 e2 e3 e4 hs
   have HST:=hid (firstB_step (s:=s) hjl)
   obtain ⟨bb,hbb⟩:∃ bb,bb = L[j]:=⟨_,rfl⟩
   rw [←hbb] at d0 d1 d2 d3 d4 HST
   clear hbb
   obtain ⟨nm,t,fn,sv,bv⟩:=bb
   simp only at d0 d1 d2 d3 d4
   by_cases q1:nm = s
   ·subst q1
    have HRV:Hid (res = plainV ⟨t,fn,sv,bv⟩):=hid (by rw [HR1.out,HST.out,if_pos rfl])
    have b0:((tx nm).toList != (tx nm).toList) = false:=bne_self_eq_false _
    obtain ⟨k0,k1,k2,k3⟩:=HZ.out.cells
    have f0:=HZ.out.fr 0
    have f1:=HZ.out.fr 1
    have f2:=HZ.out.fr 2
    have f3:=HZ.out.fr 3
    have HPUT:Hid (∀ (u0 u1 u2 u3:Value) (c:Obj),VB ((putN wr w.heap.size u0 u1 u2 u3).alloc c) w.heap.size u0 u1 u2 u3∧Below w.heap.size w ((putN wr w.heap.size u0 u1 u2 u3).alloc c)):=hid (fun u0 u1 u2 u3 c=>by
     have h1:=below_put (v0:=u0) (v1:=u1) (v2:=u2) (v3:=u3) HB.out (Nat.le_refl w.heap.size)
     have h2:=HZ.out.put (v0:=u0) (v1:=u1) (v2:=u2) (v3:=u3)
     exact ⟨h2.below ((Below.refl _ _).alloc (Nat.le_refl _) _),h1.alloc (by have:=HB.out.size;rw [putN_size];exact this) _⟩)
    clear HR1 HST HZ
    by_cases t1:t = 1
    ·subst t1
     go_wp2
     refine bodyPost_ret (results_cell_tmp rfl _ _ w.heap.size 56 _ _ _ rfl (HPUT.out _ _ _ _ _).1 Tryz.underlying56 rfl (by kernel_rfl)) rfl ?_
     rw [HRV.out]
     exact ⟨rfl,(HPUT.out _ _ _ _ _).2⟩
    ·have i1:(t == 1) = false:=by simpa using t1
     by_cases t2:t = 2
     ·subst t2
      go_wp2
      refine bodyPost_ret (results_cell_tmp rfl _ _ w.heap.size 56 _ _ _ rfl (HPUT.out _ _ _ _ _).1 Tryz.underlying56 rfl (by kernel_rfl)) rfl ?_
      rw [HRV.out]
      exact ⟨rfl,(HPUT.out _ _ _ _ _).2⟩
     ·have i2:(t == 2) = false:=by simpa using t2
      by_cases t3:t = 3
      ·subst t3
       go_wp2
       refine bodyPost_ret (results_cell_tmp rfl _ _ w.heap.size 56 _ _ _ rfl (HPUT.out _ _ _ _ _).1 Tryz.underlying56 rfl (by kernel_rfl)) rfl ?_
       rw [HRV.out]
       exact ⟨rfl,(HPUT.out _ _ _ _ _).2⟩
      ·have i3:(t == 3) = false:=by simpa using t3
       have HRN:Hid (res = none):=hid (by rw [HRV.out];unfold plainV;rw [if_neg t1,if_neg t2,if_neg t3])
       clear HRV
       go_wp2
       refine bodyPost_ret (results_cell_tmp rfl _ _ w.heap.size 56 _ _ _ rfl (HPUT.out _ _ _ _ _).1 Tryz.underlying56 rfl (by kernel_rfl)) rfl ?_
       rw [HRN.out]
       exact ⟨rfl,(HPUT.out _ _ _ _ _).2⟩
   ·have b0:((tx nm).toList == (tx s).toList) = false:=by rw [tx_toList,tx_toList];simpa using q1
    have HR2:Hid (res = match firstB s (L.drop (j + 1)) with | none=>none | some b=>plainV b.v):=hid (by rw [HR1.out,HST.out,if_neg q1])
    have HZ2:=hid (fun c=>HZ.out.below ((Below.refl wr.heap.size wr).alloc (Nat.le_refl _) c))
    have HB2:=hid (fun c=>HB.out.alloc HB.out.size c)
    clear q1 HR1 HST HZ HB
    go_wp2
    go_roundg (gk - 1)
    case measure=>omega
    case rel=>exact ⟨j + 1,by omega,by go_num,HR2,hid (HZ2.out _),hid (HB2.out _)⟩
  ·have HRN:Hid (res = none):=hid (by rw [HR1.out,firstB_end (by have:=HN.out;omega)])
   obtain ⟨k0,k1,k2,k3⟩:=HZ.out.cells
   have f0:=HZ.out.fr 0
   have f1:=HZ.out.fr 1
   have f2:=HZ.out.fr 2
   have f3:=HZ.out.fr 3
   have HPUT:Hid (∀ (u0 u1 u2 u3:Value) (_:Obj),VB ((putN wr w.heap.size u0 u1 u2 u3)) w.heap.size u0 u1 u2 u3∧Below w.heap.size w ((putN wr w.heap.size u0 u1 u2 u3))):=hid (fun u0 u1 u2 u3 _=>by
    have h1:=below_put (v0:=u0) (v1:=u1) (v2:=u2) (v3:=u3) HB.out (Nat.le_refl w.heap.size)
    have h2:=HZ.out.put (v0:=u0) (v1:=u1) (v2:=u2) (v3:=u3)
    exact ⟨h2,h1⟩)
   clear HZ HR1
   go_wp2
   refine bodyPost_ret (results_cell_tmp rfl _ _ w.heap.size 56 _ _ _ rfl (HPUT.out _ _ _ _ (.cells #[] 0)).1 Tryz.underlying56 rfl (by kernel_rfl)) rfl ?_
   rw [HRN.out]
   exact ⟨rfl,(HPUT.out _ _ _ _ (.cells #[] 0)).2⟩
end Go.Proofs.YtpcbamcelpcigaaGreat
namespace Go.Proofs.YtpcbamcelpcigaaGreat
open Go.RowKit Go.Shelf
def argsP (R : List Tok → Option (Tree × List Tok)) : Nat → Bs → List Tok → Option (List Tree × List Tok)
  | 0, _, ts => some ([], ts)
  | k + 1, o, ts => if isTok ts 4 o = true then (match R ts.tail with
      | none => none
      | some (a, r) => match argsP R k [44] r with
        | none => none
        | some (l, r') => some (a :: l, r')) else none
def closeP (op:Bs) (D:List Tree) (x:Option (List Tree × List Tok)):Option (Tree × List Tok):=match x with
 | none=>none
 | some (l,r)=>if isTok r 4 [41] = true then some (.mk op 0 [] (D ++ l),r.tail) else none
theorem must_true (s:Bs) (ts:List Tok):must true s ts = if isTok ts 4 s = true then some ts.tail else none:=by
 unfold must
 cases ts with
 | nil=>rfl
 | cons t r=>rw [adv_true];rfl
theorem close_no (op:Bs) (D:List Tree) (R:List Tok→Option (Tree × List Tok)) (k:Nat) (o:Bs) (ts:List Tok) (h:isTok ts 4 o = false):closeP op D (argsP R (k + 1) o ts) = none:=by
 simp only [argsP]
 rw [h]
 rfl
theorem close_bad (op:Bs) (D:List Tree) (R:List Tok→Option (Tree × List Tok)) (k:Nat) (o:Bs) (ts:List Tok) (h:R ts.tail = none):closeP op D (argsP R (k + 1) o ts) = none:=by
 simp only [argsP]
 rw [h]
 split <;> rfl
theorem close_step (op:Bs) (D:List Tree) (R:List Tok→Option (Tree × List Tok)) (k:Nat) (o:Bs) (ts:List Tok) (a:Tree) (r:List Tok) (h:isTok ts 4 o = true) (hr:R ts.tail = some (a,r)) :
  closeP op D (argsP R (k + 1) o ts) = closeP op (D ++ [a]) (argsP R k [44] r):=by
 simp only [argsP]
 rw [if_pos h,hr]
 simp only
 cases argsP R k [44] r with
 | none=>rfl
 | some x=>simp [closeP]
theorem close_end (op:Bs) (D:List Tree) (R:List Tok→Option (Tree × List Tok)) (o:Bs) (ts:List Tok):closeP op D (argsP R 0 o ts) = if isTok ts 4 [41] = true then some (.mk op 0 [] D,ts.tail) else none:=by
 simp [argsP,closeP]
theorem close_one (op : Bs) (R : List Tok → Option (Tree × List Tok)) (ts : List Tok) : closeP op [] (argsP R 1 [40] ts) = under op (inside true R ts) := by
  unfold inside
  rw [must_true]
  cases h : isTok ts 4 [40]
  · rw [close_no _ _ _ _ _ _ h]; rfl
  · rw [if_pos rfl]
    simp only
    cases hr : R ts.tail with
    | none => rw [close_bad _ _ _ _ _ _ hr]; rfl
    | some x =>
      obtain ⟨a, r⟩ := x
      rw [close_step _ _ _ _ _ _ _ _ h hr, close_end]
      simp only [must_true]
      cases isTok r 4 [41] <;> rfl
theorem close_two (R : List Tok → Option (Tree × List Tok)) (ts : List Tok) : closeP whas [] (argsP R 2 [40] ts) = hasP true R ts := by
  unfold hasP
  rw [must_true]
  cases h : isTok ts 4 [40]
  · rw [close_no _ _ _ _ _ _ h]; rfl
  · rw [if_pos rfl]
    simp only
    cases hr : R ts.tail with
    | none => rw [close_bad _ _ _ _ _ _ hr]
    | some x =>
      obtain ⟨a, r⟩ := x
      rw [close_step _ _ _ _ _ _ _ _ h hr]
      simp only [must_true]
      cases h2 : isTok r 4 [44]
      · rw [close_no _ _ _ _ _ _ h2]; rfl
      · rw [if_pos rfl]
        simp only
        cases hr2 : R r.tail with
        | none => rw [close_bad _ _ _ _ _ _ hr2]
        | some x =>
          obtain ⟨b, r2⟩ := x
          rw [close_step _ _ _ _ _ _ _ _ h2 hr2, close_end]
          simp only
          cases isTok r2 4 [41] <;> rfl
theorem atom_nil (n:Nat):P valV true (n + 1) .atom [] = none:=by simp only [P]
theorem atom_num (n:Nat) (t:Tok) (r:List Tok) (h:t.k = 1):P valV true (n + 1) .atom (t :: r) = some (.mk wnum (valV t.s) [] [],r):=by
 rw [P_atom,if_pos h,adv_true]
theorem atom_text (n:Nat) (t:Tok) (r:List Tok) (h:t.k = 3):P valV true (n + 1) .atom (t :: r) = some (.mk wtext 0 t.s [],r):=by
 rw [P_atom,if_neg (by omega),if_pos h,adv_true]
theorem atom_in (n:Nat) (t:Tok) (r:List Tok) (h:t.k = 4):P valV true (n + 1) .atom (t :: r) = inside true (P valV true n .or) (t :: r):=by
 rw [P_atom,if_neg (by omega),if_neg (by omega),if_neg (by omega)]
theorem atom_word (n:Nat) (t:Tok) (r:List Tok) (h:t.k = 2):P valV true (n + 1) .atom (t :: r) = if t.s = wor∨t.s = wand∨t.s = wnot then none
  else if t.s = wlen∨t.s = wabs then closeP t.s [] (argsP (P valV true n .or) 1 [40] r)
  else if t.s = whas then closeP whas [] (argsP (P valV true n .or) 2 [40] r) else some (.mk wname 0 t.s [],r):=by
 rw [P_atom,if_neg (by omega),if_neg (by omega),if_pos h]
 unfold namedP
 rw [adv_true,close_one,close_two]
 rfl
def CellsT (A:Nat→Prop) (w:World):List Value→List Tree→Prop
 | cs,[]=>cs = []
 | cs,t :: r=>∃ v0 v1 v2 v3 cs',cs = v0 :: v1 :: v2 :: v3 :: cs'∧NodeV A w (.agg #[v0,v1,v2,v3]) t∧CellsT A w cs' r
theorem CellsT.snoc {A : Nat → Prop} {w : World} {v0 v1 v2 v3 : Value} {t : Tree} (hn : NodeV A w (.agg #[v0, v1, v2, v3]) t) : ∀ (D : List Tree) (cs : List Value), CellsT A w cs D → CellsT A w (cs ++ [v0, v1, v2, v3]) (D ++ [t])
  | [], cs, h => by
    have e : cs = [] := h
    subst e
    exact ⟨v0, v1, v2, v3, [], rfl, hn, rfl⟩
  | u :: r, cs, h => by
    obtain ⟨a0, a1, a2, a3, cs', e, h1, h2⟩ := h
    subst e
    exact ⟨a0, a1, a2, a3, cs' ++ [v0, v1, v2, v3], rfl, h1, CellsT.snoc hn r cs' h2⟩
theorem CellsT.kept {A B : Nat → Prop} {w w' : World} (hz : w.heap.size ≤ w'.heap.size) (hk : ∀ b, A b → b < w.heap.size → B b ∧ w'.heap[b]? = w.heap[b]?) : ∀ (D : List Tree) (cs : List Value), CellsT A w cs D → CellsT B w' cs D
  | [], cs, h => h
  | u :: r, cs, h => by
    obtain ⟨a0, a1, a2, a3, cs', e, h1, h2⟩ := h
    exact ⟨a0, a1, a2, a3, cs', e, NodeV.kept hz hk _ _ h1, CellsT.kept hz hk r cs' h2⟩
theorem CellsT.nodes {A : Nat → Prop} {w : World} {g : Nat} : ∀ (D : List Tree) (cs : List Value) (i : Nat), CellsT A w cs D → (∀ j u, cs[j]? = some u → w.cell? ⟨g, i * 4 + j, none⟩ = some u) → NodesV A w ⟨g, 0, none⟩ i D
  | [], _, _, _, _ => trivial
  | u :: r, cs, i, h, hc => by
    obtain ⟨a0, a1, a2, a3, cs', e, h1, h2⟩ := h
    subst e
    refine ⟨⟨a0, a1, a2, a3, ?_, ?_, ?_, ?_, h1⟩, CellsT.nodes r cs' (i + 1) h2 (fun j u hu => ?_)⟩
    · rw [addr_add]; exact hc 0 _ rfl
    · rw [addr_add]; exact hc 1 _ rfl
    · rw [addr_add]; exact hc 2 _ rfl
    · rw [addr_add]; exact hc 3 _ rfl
    · have := hc (j + 4) u (by simpa using hu)
      rw [show (i + 1) * 4 + j = i * 4 + (j + 4) by omega]
      exact this
def TreeRow (B:Nat) (w:World) (v:Value) (D:List Tree):Prop:=∃ cs,w.ownsRow B 87 4 v D.length cs∧CellsT (fun b=>B≤b∧v.ownBlock≠some b) w cs D
theorem TreeRow.nil (B:Nat) (w:World):TreeRow B w (.slice none 0 0) []:=⟨[],World.ownsRow_nil _ _ _ _,rfl⟩
theorem TreeRow.kept {B:Nat} {w w':World} {v:Value} {D:List Tree} (h:TreeRow B w v D) (hz:w.heap.size≤w'.heap.size) (hk:∀ b,B≤b→b < w.heap.size→w'.heap[b]? = w.heap[b]?):TreeRow B w' v D:=by
 obtain ⟨cs,h1,h2⟩:=h
 refine ⟨cs,row_kept h1 (fun j hj=>?_),CellsT.kept hz (fun b hb hl=>⟨hb,hk b hb.1 hl⟩) D cs h2⟩
 have:=h1.lt j hj
 exact hk j this.1 this.2
theorem TreeRow.below {B:Nat} {w w':World} {v:Value} {D:List Tree} (h:TreeRow B w v D) (hb:Below w.heap.size w w'):TreeRow B w' v D:=h.kept hb.size (fun b _ hl=>hb.block b hl)
theorem TreeRow.node {B:Nat} {w:World} {v:Value} {D:List Tree} (h:TreeRow B w v D) (op:Bs):NodeV (fun b=>B≤b) w (.agg #[.string (tx op),.float .f64 0,.string ⟨#[]⟩,v]) (.mk op 0 [] D):=by
 obtain ⟨cs,h1,h2⟩:=h
 have hc:=fun g (hg:v.ownBlock = some g)=>h1.cells hg
 rcases h1.2 with ⟨rfl,h3⟩ | ⟨g,cap,cur,rfl,hb,hg,hcap,_⟩
 ·have:D = []:=List.length_eq_zero_iff.1 h3
  subst this
  exact ⟨none,0,rfl,Nat.le_refl _,fun _=>rfl,fun a ha=>by cases ha⟩
 ·refine ⟨some ⟨g,0,none⟩,cap,rfl,hcap,(fun e=>by cases e),fun a ha=>?_⟩
  cases ha
  refine ⟨fun _=>⟨hb,(Array.getElem?_eq_some_iff.1 hg).1⟩,CellsT.nodes D cs 0 (CellsT.kept (Nat.le_refl _) (fun b hb _=>⟨hb.1,rfl⟩) D cs h2) (fun j u hu=>?_)⟩
  have:=hc g rfl j u hu
  rw [addr_add] at this
  rw [Nat.zero_mul,Nat.zero_add]
  exact this
theorem TreeRow.app {B:Nat} {w w':World} {v v' v0 v1 v2 v3:Value} {D:List Tree} {t:Tree} {cs:List Value} (h2:CellsT (fun b=>B≤b∧v.ownBlock≠some b) w cs D) (hn:NodeV (fun b=>B≤b∧v.ownBlock≠some b) w (.agg #[v0,v1,v2,v3]) t)
  (h3:w'.ownsRow B 87 4 v' (D.length + 1) (cs ++ [v0,v1,v2,v3])) (hg:w.grownBy w' v.ownBlock) (ho:v'.ownBlock = v.ownBlock∨v'.ownBlock = some w.heap.size):TreeRow B w' v' (D ++ [t]):=by
 refine ⟨cs ++ [v0,v1,v2,v3],by rw [List.length_append];exact h3,CellsT.kept hg.size (fun b hb hl=>⟨⟨hb.1,fun e=>?_⟩,hg.block b hl (fun e=>hb.2 e.symm)⟩) _ _ (CellsT.snoc hn D cs h2)⟩
 rcases ho with ho | ho
 ·exact hb.2 (by rw [←ho];exact e)
 ·rw [ho] at e
  cases e
  omega
theorem info_node:∃ i0,Tryz.prog.info? 87 = some i0∧i0.zero = some (.agg #[.string ⟨#[]⟩,.float .f64 0,.string ⟨#[]⟩,.slice none 0 0])∧i0.size = 4∧i0.bytes = 64:=
 info_parts (show (Tryz.prog.info? 87).map (fun i=>(i.zero,i.size,i.bytes)) = some (some (.agg #[.string ⟨#[]⟩,.float .f64 0,.string ⟨#[]⟩,.slice none 0 0]),4,64) by kernel_rfl)
theorem four_cells (w:World) (a b c d:Value) (T:TypeId):∀ j x,[a,b,c,d][j]? = some x→(w.alloc (.cells #[a,b,c,d] T)).cell? ((⟨w.heap.size,0,none⟩:Addr).add j) = some x:=fun j x h=>by
 rw [addr_add]
 have hh:=heap_alloc_new w (.cells #[a,b,c,d] T)
 match j,h with
 | 0,h=>cases h;unfold World.cell?;simp only;rw [hh];rfl
 | 1,h=>cases h;unfold World.cell?;simp only;rw [hh];rfl
 | 2,h=>cases h;unfold World.cell?;simp only;rw [hh];rfl
 | 3,h=>cases h;unfold World.cell?;simp only;rw [hh];rfl
 | j + 4,h=>cases h
theorem rpass {B : Nat} {res : Option (Tree × List Tok)} {w wr w5 : World} {v : Value} {z0 z1 z2 z3 z4 z5 : Value} (hB : B ≤ w.heap.size) (hz : RB wr w.heap.size z0 z1 z2 z3 z4 z5) (hbel : Below w.heap.size w wr)
    (hb : Below wr.heap.size wr w5) (hv : RVal (fun b => wr.heap.size ≤ b) B w5 v res) :
    RB w5 w.heap.size z0 z1 z2 z3 z4 z5 ∧
    ∃ o n s x l c y m d bad, v = .agg #[.string o, .float .f64 n, .string s, .slice x l c, .slice y m d, .bool bad] ∧
      REnd B res w (.returned (.agg #[.string o, .float .f64 n, .string s, .slice x l c, .slice y m d, .bool bad])) (putR w5 w.heap.size (.string o) (.float .f64 n) (.string s) (.slice x l c) (.slice y m d) (.bool bad)) := by
  have hlt := hz.lt
  refine ⟨hz.below hb, ?_⟩
  obtain ⟨o, n, s, x, l, c, y, m, d, bad, t, rfl, hn, hc⟩ := hv
  refine ⟨o, n, s, x, l, c, y, m, d, bad, rfl, below_putR (hbel.trans (below_le hb (by omega))) (Nat.le_refl _), _, rfl, o, n, s, x, l, c, y, m, d, bad, t, rfl, ?_, ?_⟩
  · exact (hn.putR (fun hh => by have h3 : wr.heap.size ≤ w.heap.size := hh; omega)).sub (fun b h1 _ => by have h3 : wr.heap.size ≤ b := h1; show w.heap.size ≤ b; omega)
  · rcases hc with h1 | ⟨h1, ts, h2, h3, h4⟩
    · exact .inl h1
    · exact .inr ⟨h1, ts, h2, h3.putR hB, h4⟩
end Go.Proofs.YtpcbamcelpcigaaGreat
