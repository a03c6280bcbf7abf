/- Plain words: styles, their words, and the style of words. No program. -/
import Derived.Lib.Split
import Derived.Lib.SplitLaws
import Derived.Lib.Join
import Derived.Lib.Strings
import Derived.Lib.IndexBytes
namespace Go.Proofs.YtlhfdpeidlbomaaDoor
abbrev Bs := List UInt8
/-- A text of bytes. -/
def tx (l : Bs) : ByteArray := ⟨l.toArray⟩
theorem tx_list (l : Bs) : (tx l).data.toList = l := rfl
theorem tx_of (s : ByteArray) : tx s.data.toList = s := rfl
structure Sty where
  b : Bool
  u : Bool
  i : Bool
  f : Int
  g : Int
deriving DecidableEq
def sty0 : Sty := ⟨false, false, false, 0, 0⟩
def Sty.may (y : Sty) : Prop := 0 ≤ y.f ∧ y.f ≤ 8 ∧ 0 ≤ y.g ∧ y.g ≤ 8
instance (y : Sty) : Decidable y.may := by unfold Sty.may; infer_instance
def boldL : Bs := [98, 111, 108, 100]
def underL : Bs := [117, 110, 100, 101, 114]
def inverseL : Bs := [105, 110, 118, 101, 114, 115, 101]
def plainL : Bs := [112, 108, 97, 105, 110]
def fgL : Bs := [102, 103, 45]
def bgL : Bs := [98, 103, 45]
def colsL : List Bs := [[98, 108, 97, 99, 107], [114, 101, 100], [103, 114, 101, 101, 110], [121, 101, 108, 108, 111, 119], [98, 108, 117, 101], [109, 97, 103, 101, 110, 116, 97], [99, 121, 97, 110], [119, 104, 105, 116, 101]]
/-- The word of a colour. -/
def colL (n : Int) : Bs := colsL.getD (n - 1).toNat []
/-- A style's words. -/
def wl (y : Sty) : List Bs :=
  (if y.b then [boldL] else []) ++ (if y.u then [underL] else []) ++ (if y.i then [inverseL] else []) ++ (if 0 < y.f then [fgL ++ colL y.f] else []) ++ (if 0 < y.g then [bgL ++ colL y.g] else [])
def wordsL (y : Sty) : Bs := if wl y = [] then plainL else Lib.join (wl y) [32]
/-- One word more behind. -/
def withR (s w : Bs) : Bs := if s = [] then w else s ++ [32] ++ w
theorem withR_nil (w : Bs) : withR [] w = w := rfl
theorem join_snoc (ws : List Bs) (h : ws ≠ []) (w : Bs) : Lib.join (ws ++ [w]) [32] = Lib.join ws [32] ++ [32] ++ w := by
  induction ws with
  | nil => exact absurd rfl h
  | cons a t ih =>
    cases t with
    | nil => simp [Lib.join, List.intercalate]
    | cons b t =>
      have := ih (by simp)
      simp only [Lib.join, List.intercalate, List.cons_append, List.intersperse_cons_cons, List.flatten_cons] at this ⊢
      rw [this]
      simp
theorem join_ne (ws : List Bs) (h : ws ≠ []) (hw : ∀ w ∈ ws, w ≠ []) : Lib.join ws [32] ≠ [] := by
  cases ws with
  | nil => exact absurd rfl h
  | cons a t =>
    have ha := hw a (by simp)
    cases t with
    | nil => simpa [Lib.join, List.intercalate] using ha
    | cons b t => simp [Lib.join, List.intercalate, ha]
/-- The words one by one, as the reference puts them together. -/
theorem withR_join (ws : List Bs) (hw : ∀ w ∈ ws, w ≠ []) (w : Bs) : withR (Lib.join ws [32]) w = Lib.join (ws ++ [w]) [32] := by
  by_cases h : ws = []
  · subst h; simp [withR, Lib.join, List.intercalate]
  · rw [join_snoc ws h, withR, if_neg (join_ne ws h hw)]
/-! ### cut at the blanks -/
def sp : Bs → List Bs
  | [] => [[]]
  | c :: l => if c = 32 then [] :: sp l else match sp l with
    | [] => [[c]]
    | h :: t => (c :: h) :: t
theorem sp_ne (l : Bs) : sp l ≠ [] := by
  induction l with
  | nil => simp [sp]
  | cons c l ih =>
    unfold sp
    split
    · simp
    · split <;> simp
theorem sp_one (a : Bs) (h : (32 : UInt8) ∉ a) : sp a = [a] := by
  induction a with
  | nil => rfl
  | cons c l ih =>
    have hc : c ≠ 32 := fun e => h (by simp [e])
    rw [sp, if_neg hc, ih (fun m => h (by simp [m]))]
theorem sp_app (a r : Bs) (h : (32 : UInt8) ∉ a) : sp (a ++ 32 :: r) = a :: sp r := by
  induction a with
  | nil => simp [sp]
  | cons c l ih =>
    have hc : c ≠ 32 := fun e => h (by simp [e])
    rw [List.cons_append, sp, if_neg hc, ih (fun m => h (by simp [m]))]
theorem sp_join (ws : List Bs) (h : ws ≠ []) (hw : ∀ w ∈ ws, (32 : UInt8) ∉ w) : sp (Lib.join ws [32]) = ws := by
  induction ws with
  | nil => exact absurd rfl h
  | cons a t ih =>
    cases t with
    | nil => simpa [Lib.join, List.intercalate] using sp_one a (hw a (by simp))
    | cons b t =>
      have e : Lib.join (a :: b :: t) [32] = a ++ 32 :: Lib.join (b :: t) [32] := by simp [Lib.join, List.intercalate]
      rw [e, sp_app a _ (hw a (by simp)), ih (by simp) (fun w m => hw w (by simp [m]))]
theorem occ_one (s : Bs) (c : UInt8) (i : Nat) : Lib.occAt s [c] i = true ↔ s[i]? = some c := by
  unfold Lib.occAt
  rw [← List.head?_drop]
  cases hd : s.drop i with
  | nil => simp
  | cons x t =>
    simp only [List.isPrefixOf, List.head?_cons, Bool.and_true, beq_iff_eq, Option.some.injEq]
    exact eq_comm
theorem splitK_sp : ∀ (k : Nat) (s : Bs), Lib.count s [32] = k → Lib.splitK [32] 0 k s = sp s
  | 0, s, hk => by
    rcases Lib.index_spec s [32] with ⟨h1, h2⟩ | ⟨i, h1, h2, h3, h4⟩
    · have hn : (32 : UInt8) ∉ s := fun hm => by
        obtain ⟨j, hj, e⟩ := List.getElem_of_mem hm
        have := h2 j (by omega)
        rw [(occ_one s 32 j).2 (by rw [List.getElem?_eq_getElem hj, e])] at this
        cases this
      rw [sp_one s hn]; rfl
    · rw [Lib.count_hit (by decide) h1] at hk
      omega
  | k + 1, s, hk => by
    rcases Lib.index_spec s [32] with ⟨h1, h2⟩ | ⟨i, h1, h2, h3, h4⟩
    · rw [Lib.count_miss h1] at hk
      omega
    · rw [Lib.count_hit (by decide) h1] at hk
      have hi := (occ_one s 32 i).1 h3
      obtain ⟨hlt, he⟩ := List.getElem?_eq_some_iff.1 hi
      have hn : (32 : UInt8) ∉ s.take i := fun hm => by
        obtain ⟨j, hj, e⟩ := List.getElem_of_mem hm
        have hji : j < i := by simp at hj; omega
        have := h4 j hji
        rw [(occ_one s 32 j).2 (by rw [List.getElem?_eq_getElem (by omega)]; simpa using e)] at this
        cases this
      have es : s = s.take i ++ 32 :: s.drop (i + 1) := by
        conv => lhs; rw [← List.take_append_drop i s, List.drop_eq_getElem_cons hlt, he]
      unfold Lib.splitK
      have hne : (Lib.index s [32] == -1) = false := by rw [beq_eq_false_iff_ne]; omega
      have hin : (Lib.index s [32]).toNat = i := by omega
      rw [hne, hin]
      simp only [Bool.false_eq_true, if_false, List.length_singleton, Nat.add_zero]
      rw [splitK_sp k _ (by simp only [List.length_singleton] at hk; omega)]
      conv => rhs; rw [es]
      rw [sp_app _ _ hn]
/-- strings.Split at a blank. -/
theorem splitB_sp (s : ByteArray) : Lib.splitB (tx [32]) 0 (Lib.countB s (tx [32])) s = (sp s.data.toList).map tx := by
  have h := Lib.splitB_data (tx [32]) 0 (Lib.countB s (tx [32])) s
  have h2 := splitK_sp _ s.data.toList rfl
  have h3 : (Lib.splitB (tx [32]) 0 (Lib.countB s (tx [32])) s).map (·.data.toList) = sp s.data.toList := h.trans h2
  rw [← h3, List.map_map]
  conv => lhs; rw [← List.map_id (Lib.splitB _ _ _ _)]
  rfl
end Go.Proofs.YtlhfdpeidlbomaaDoor
