/- Walks: cut, may, colour, colours, number, and the reference's with. -/
import Derived.Test.YtlhfdpeidlbomaaDoorTB
import Derived.Test.YtlhfdpeidlbomaaDoorShelf
namespace Go.Proofs.YtlhfdpeidlbomaaDoor
open Go.RowKit Go.Shelf
def styCells (y : Sty) : Array Value := #[.bool y.b, .bool y.u, .bool y.i, .int .i64 y.f, .int .i64 y.g]
def Sty.v (y : Sty) : Value := .agg #[.bool y.b, .bool y.u, .bool y.i, .int .i64 y.f, .int .i64 y.g]
/-- A block that holds a style. -/
def StyAt (w : World) (b : Nat) (y : Sty) : Prop := w.heap[b]? = some (.cells (styCells y) 23 (0, 0))
theorem StyAt.get {w : World} {b : Nat} {y : Sty} (h : StyAt w b y) : w.cell? ⟨b, 0, none⟩ = some (.bool y.b) ∧ w.cell? ⟨b, 1, none⟩ = some (.bool y.u) ∧ w.cell? ⟨b, 2, none⟩ = some (.bool y.i) ∧ w.cell? ⟨b, 3, none⟩ = some (.int .i64 y.f) ∧ w.cell? ⟨b, 4, none⟩ = some (.int .i64 y.g) ∧ (∀ o, w.frozen? ⟨b, o, none⟩ = false) ∧ b < w.heap.size := by
  unfold StyAt styCells at h
  exact ⟨by simp [World.cell?, h], by simp [World.cell?, h], by simp [World.cell?, h], by simp [World.cell?, h], by simp [World.cell?, h], fun o => by simp [World.frozen?, h], (Array.getElem?_eq_some_iff.1 h).1⟩
theorem StyAt.kept {w w' : World} {b n : Nat} {y : Sty} (h : StyAt w b y) (hb : b < n) (hB : Below n w w') : StyAt w' b y := (hB.block b hb).trans h
/-- The numbers of a style are of Go's int. -/
structure Sty.Wide (y : Sty) : Prop where
  f : -9223372036854775808 ≤ y.f ∧ y.f ≤ 9223372036854775807
  g : -9223372036854775808 ≤ y.g ∧ y.g ≤ 9223372036854775807
def mayB (y : Sty) : Bool := decide y.may
set_option maxHeartbeats 400000 in
theorem wmay (y : Sty) (w : World) : Calls Tryd.prog 22 #[y.v] w fun e w' => e = .returned (.bool (mayB y)) ∧ Below w.heap.size w w' := by
  obtain ⟨b, u, i, f, g⟩ := y
  unfold Sty.v
  simp only []
  have he : mayB ⟨b, u, i, f, g⟩ = (((decide (0 ≤ f) && decide (f ≤ 8)) && decide (0 ≤ g)) && decide (g ≤ 8)) := by
    unfold mayB
    rw [Bool.eq_iff_iff]
    simp only [Bool.and_eq_true, decide_eq_true_eq, and_assoc]
    exact Iff.rfl
  rw [he]
  clear he
  cases h1 : decide (0 ≤ f) <;> cases h2 : decide (f ≤ 8) <;> cases h3 : decide (0 ≤ g) <;> cases h4 : decide (g ≤ 8) <;> simp only [Bool.and_true, Bool.and_false]
  all_goals (
    go_enter Tryd.func22, Tryd.ntmps22
    go_wp2
    go_ret
    exact ⟨rfl, (Below.refl _ _).alloc (Nat.le_refl _) _⟩)
def cutTo (n : Nat) (s : ByteArray) : ByteArray := if n < s.size then s.extract 0 n else s
theorem cut_size (n : Nat) (s : ByteArray) : (cutTo n s).size ≤ n := by
  unfold cutTo
  split
  · rw [ByteArray.size_extract]; omega
  · omega
set_option maxHeartbeats 400000 in
theorem wcut (s : ByteArray) (hs : s.size ≤ maxLen) (w : World) : Calls Tryd.prog 6 #[.string s] w fun e w' => e = .returned (.string (cutTo 600 s)) ∧ w = w' := by
  unfold maxLen at hs
  by_cases h : 600 < s.size
  · have e : cutTo 600 s = s.extract 0 600 := by rw [cutTo, if_pos h]
    rw [e]
    clear e
    have hm : min (s.size : Int) 600 = 600 := by omega
    go_enter Tryd.func6, Tryd.ntmps6
    go_wp2
    go_ret
    exact ⟨rfl, rfl⟩
  · have e : cutTo 600 s = s := by rw [cutTo, if_neg h]
    rw [e]
    clear e
    have hm : min (s.size : Int) 600 = s.size := by omega
    go_enter Tryd.func6, Tryd.ntmps6
    go_wp2
    go_ret
    exact ⟨rfl, rfl⟩
set_option maxRecDepth 100000 in
set_option maxHeartbeats 1000000 in
theorem wcolour (n : Int) (h : 1 ≤ n ∧ n ≤ 8) (w : World) : Calls Tryd.prog 23 #[.int .i64 n] w fun e w' => e = .returned (.string (tx (colL n))) ∧ w = w' := by
  rcases c8 h with e | e | e | e | e | e | e | e <;> subst e <;> clear h
  · have hi : ∀ w, (Instr.index 87 (.agg #[.string ⟨#[98, 108, 97, 99, 107]⟩, .string ⟨#[114, 101, 100]⟩, .string ⟨#[103, 114, 101, 101, 110]⟩, .string ⟨#[121, 101, 108, 108, 111, 119]⟩, .string ⟨#[98, 108, 117, 101]⟩, .string ⟨#[109, 97, 103, 101, 110, 116, 97]⟩, .string ⟨#[99, 121, 97, 110]⟩, .string ⟨#[119, 104, 105, 116, 101]⟩]) (.int .i64 0)).run Tryd.prog w = .ok (.string ⟨#[98, 108, 97, 99, 107]⟩) w := fun _ => by kernel_rfl
    go_enter Tryd.func23, Tryd.ntmps23
    go_wp2
    go_ret
    exact ⟨rfl, rfl⟩
  · have hi : ∀ w, (Instr.index 87 (.agg #[.string ⟨#[98, 108, 97, 99, 107]⟩, .string ⟨#[114, 101, 100]⟩, .string ⟨#[103, 114, 101, 101, 110]⟩, .string ⟨#[121, 101, 108, 108, 111, 119]⟩, .string ⟨#[98, 108, 117, 101]⟩, .string ⟨#[109, 97, 103, 101, 110, 116, 97]⟩, .string ⟨#[99, 121, 97, 110]⟩, .string ⟨#[119, 104, 105, 116, 101]⟩]) (.int .i64 1)).run Tryd.prog w = .ok (.string ⟨#[114, 101, 100]⟩) w := fun _ => by kernel_rfl
    go_enter Tryd.func23, Tryd.ntmps23
    go_wp2
    go_ret
    exact ⟨rfl, rfl⟩
  · have hi : ∀ w, (Instr.index 87 (.agg #[.string ⟨#[98, 108, 97, 99, 107]⟩, .string ⟨#[114, 101, 100]⟩, .string ⟨#[103, 114, 101, 101, 110]⟩, .string ⟨#[121, 101, 108, 108, 111, 119]⟩, .string ⟨#[98, 108, 117, 101]⟩, .string ⟨#[109, 97, 103, 101, 110, 116, 97]⟩, .string ⟨#[99, 121, 97, 110]⟩, .string ⟨#[119, 104, 105, 116, 101]⟩]) (.int .i64 2)).run Tryd.prog w = .ok (.string ⟨#[103, 114, 101, 101, 110]⟩) w := fun _ => by kernel_rfl
    go_enter Tryd.func23, Tryd.ntmps23
    go_wp2
    go_ret
    exact ⟨rfl, rfl⟩
  · have hi : ∀ w, (Instr.index 87 (.agg #[.string ⟨#[98, 108, 97, 99, 107]⟩, .string ⟨#[114, 101, 100]⟩, .string ⟨#[103, 114, 101, 101, 110]⟩, .string ⟨#[121, 101, 108, 108, 111, 119]⟩, .string ⟨#[98, 108, 117, 101]⟩, .string ⟨#[109, 97, 103, 101, 110, 116, 97]⟩, .string ⟨#[99, 121, 97, 110]⟩, .string ⟨#[119, 104, 105, 116, 101]⟩]) (.int .i64 3)).run Tryd.prog w = .ok (.string ⟨#[121, 101, 108, 108, 111, 119]⟩) w := fun _ => by kernel_rfl
    go_enter Tryd.func23, Tryd.ntmps23
    go_wp2
    go_ret
    exact ⟨rfl, rfl⟩
  · have hi : ∀ w, (Instr.index 87 (.agg #[.string ⟨#[98, 108, 97, 99, 107]⟩, .string ⟨#[114, 101, 100]⟩, .string ⟨#[103, 114, 101, 101, 110]⟩, .string ⟨#[121, 101, 108, 108, 111, 119]⟩, .string ⟨#[98, 108, 117, 101]⟩, .string ⟨#[109, 97, 103, 101, 110, 116, 97]⟩, .string ⟨#[99, 121, 97, 110]⟩, .string ⟨#[119, 104, 105, 116, 101]⟩]) (.int .i64 4)).run Tryd.prog w = .ok (.string ⟨#[98, 108, 117, 101]⟩) w := fun _ => by kernel_rfl
    go_enter Tryd.func23, Tryd.ntmps23
    go_wp2
    go_ret
    exact ⟨rfl, rfl⟩
  · have hi : ∀ w, (Instr.index 87 (.agg #[.string ⟨#[98, 108, 97, 99, 107]⟩, .string ⟨#[114, 101, 100]⟩, .string ⟨#[103, 114, 101, 101, 110]⟩, .string ⟨#[121, 101, 108, 108, 111, 119]⟩, .string ⟨#[98, 108, 117, 101]⟩, .string ⟨#[109, 97, 103, 101, 110, 116, 97]⟩, .string ⟨#[99, 121, 97, 110]⟩, .string ⟨#[119, 104, 105, 116, 101]⟩]) (.int .i64 5)).run Tryd.prog w = .ok (.string ⟨#[109, 97, 103, 101, 110, 116, 97]⟩) w := fun _ => by kernel_rfl
    go_enter Tryd.func23, Tryd.ntmps23
    go_wp2
    go_ret
    exact ⟨rfl, rfl⟩
  · have hi : ∀ w, (Instr.index 87 (.agg #[.string ⟨#[98, 108, 97, 99, 107]⟩, .string ⟨#[114, 101, 100]⟩, .string ⟨#[103, 114, 101, 101, 110]⟩, .string ⟨#[121, 101, 108, 108, 111, 119]⟩, .string ⟨#[98, 108, 117, 101]⟩, .string ⟨#[109, 97, 103, 101, 110, 116, 97]⟩, .string ⟨#[99, 121, 97, 110]⟩, .string ⟨#[119, 104, 105, 116, 101]⟩]) (.int .i64 6)).run Tryd.prog w = .ok (.string ⟨#[99, 121, 97, 110]⟩) w := fun _ => by kernel_rfl
    go_enter Tryd.func23, Tryd.ntmps23
    go_wp2
    go_ret
    exact ⟨rfl, rfl⟩
  · have hi : ∀ w, (Instr.index 87 (.agg #[.string ⟨#[98, 108, 97, 99, 107]⟩, .string ⟨#[114, 101, 100]⟩, .string ⟨#[103, 114, 101, 101, 110]⟩, .string ⟨#[121, 101, 108, 108, 111, 119]⟩, .string ⟨#[98, 108, 117, 101]⟩, .string ⟨#[109, 97, 103, 101, 110, 116, 97]⟩, .string ⟨#[99, 121, 97, 110]⟩, .string ⟨#[119, 104, 105, 116, 101]⟩]) (.int .i64 7)).run Tryd.prog w = .ok (.string ⟨#[119, 104, 105, 116, 101]⟩) w := fun _ => by kernel_rfl
    go_enter Tryd.func23, Tryd.ntmps23
    go_wp2
    go_ret
    exact ⟨rfl, rfl⟩
def colVs : List Value := .string ⟨#[]⟩ :: colsL.map (fun l => .string (tx l))
theorem wcolours (w : World) : Calls Tryd.prog 25 #[] w fun e w' => e = .returned (.slice (some ⟨w.heap.size, 0, none⟩) 9 9) ∧ w' = w.alloc (.cells colVs.toArray 9) := by
  go_enter Tryd.func25, Tryd.ntmps25
  go_wp2
  go_ret
  exact ⟨rfl, rfl⟩
theorem wwithR (s t : Bs) (hs : s.length + t.length ≤ 1000000) (w : World) : Calls Tryd.prog 26 #[.string (tx s), .string (tx t)] w fun e w' => e = .returned (.string (tx (withR s t))) ∧ w = w' := by
  by_cases h : s = []
  · subst h
    rw [withR_nil, show tx [] = ⟨#[]⟩ from rfl]
    go_enter Tryd.func26, Tryd.ntmps26
    go_wp2
    go_ret
    exact ⟨rfl, rfl⟩
  · have e : tx (withR s t) = tx s ++ ⟨#[32]⟩ ++ tx t := by rw [withR, if_neg h]; apply ByteArray.ext; simp [tx]
    rw [e]
    clear e
    have h1 : (tx s).toList.isEmpty = false := by
      rw [ByteArray.toList_eq]
      simpa [tx] using h
    have h2 : (tx s).size = s.length := by simp [tx, ByteArray.size]
    have h3 : (tx t).size = t.length := by simp [tx, ByteArray.size]
    have h4 : (tx s).size ≤ 1000000 := by omega
    have h5 : (tx t).size ≤ 1000000 := by omega
    clear h2 h3 h hs
    generalize tx s = S at *
    generalize tx t = T at *
    have h6 : ¬ S.toList = [] := fun q => by rw [q] at h1; cases h1
    go_enter Tryd.func26, Tryd.ntmps26
    go_wp2
    go_ret
    exact ⟨rfl, rfl⟩
theorem tx_inj {a b : Bs} (h : tx a = tx b) : a = b := by simpa [tx] using h
set_option maxHeartbeats 1000000 in
theorem wnumber (s : Bs) (w : World) : Calls Tryd.prog 43 #[.string (tx s)] w fun e w' => e = .returned (.int .i64 (num s)) ∧ w = w' := by
  go_enter Tryd.func43, Tryd.ntmps43
  go_wp2
  go_loop [3] (fun i => ∃ k : Nat, 1 ≤ k ∧ k ≤ 9 ∧ i = .int .i64 k ∧ ∀ j : Int, 1 ≤ j ∧ j < k → colL j ≠ s) (fun i => 9 - (intOf i).toNat)
  case atStart => exact ⟨1, by omega, by omega, rfl, fun j hj => by omega⟩
  case round =>
    obtain ⟨k, h1, h9, rfl, hn⟩ := hrel
    have HN := Lib.hid hn
    clear hn
    by_cases h8 : k ≤ 8
    · by_cases e : colL k = s
      · have hr : num s = k := by rw [← e]; exact num_at k ⟨by omega, by omega⟩
        have HR := Lib.hid hr
        clear hr
        have he : ((tx (colL k)).toList == (tx s).toList) = true := by rw [beq_bytes, e]; simp
        generalize tx (colL k) = c at he
        go_wp2_with (go_at_call 23; refine (wcolour _ ⟨by omega, by omega⟩ _).mono ?_; rintro e w' ⟨rfl, rfl⟩)
        all_goals (go_ret; exact ⟨ret_int (HR.out).symm, rfl⟩)
      · have he : ((tx (colL k)).toList == (tx s).toList) = false := by rw [beq_bytes]; exact decide_eq_false (fun q => e (tx_inj q))
        go_wp2_with (go_at_call 23; refine (wcolour _ ⟨by omega, by omega⟩ _).mono ?_; rintro e w' ⟨rfl, rfl⟩)
        all_goals (
          go_round
          case rel => exact ⟨k + 1, by omega, by omega, by go_num, fun j hj => by
            by_cases hjk : j = k
            · rw [hjk]; exact e
            · exact HN.out j ⟨hj.1, by omega⟩⟩
          case measure => simp [intOf]; omega)
    · have h0 : num s = 0 := num_none s (fun j hj => HN.out j ⟨hj.1, by omega⟩)
      have H0 := Lib.hid h0
      clear h0
      go_wp2
      go_ret
      exact ⟨ret_int H0.out.symm, rfl⟩
theorem wjoin (g n cap : Nat) (ws : List Bs) (hn : n = ws.length) (w : World) (hcells : ∀ j, j < n → w.cell? ⟨g, j, none⟩ = some (.string (tx (ws.getD j [])))) (hg : g < w.heap.size) (hc : n ≤ cap) (hf : n ≤ 5) (hw : ∀ x ∈ ws, x.length ≤ 20) :
    Calls Tryd.prog 24 #[.slice (some ⟨g, 0, none⟩) n cap, .string ⟨#[32]⟩] w fun e w' => e = .returned (.string (tx (Lib.join ws [32]))) ∧ Below w.heap.size w w' := by
  subst hn
  have hm : (ws.map tx).map (·.data.toList) = ws := by
    rw [List.map_map]
    exact List.map_id ws
  have h := Tryd.strings_Join g 0 cap (ws.map tx) (tx [32]) w (fun j x hx => ?_) hg (by simp; omega) (by simpa using hc) ?_
  · rw [hm, List.length_map] at h
    exact h
  · rw [List.getElem?_map] at hx
    obtain ⟨l, hl, rfl⟩ := Option.map_eq_some_iff.1 hx
    have hj : j < ws.length := (List.getElem?_eq_some_iff.1 hl).1
    have := hcells j hj
    rw [List.getD_eq_getElem?_getD, hl] at this
    simpa using this
  · rw [hm]
    have := join_len ws hw
    show (Lib.join ws [32]).length ≤ _
    omega
end Go.Proofs.YtlhfdpeidlbomaaDoor
