/- Runs: the reference's Note, whole; the calls as they lie in memory. -/
import Derived.Test.YtcbdmaffcjdnbaaS15
import Derived.Test.YtcbdmaffcjdnbaaX1
namespace Go.Proofs.Ytcbdmaffcjdnbaa
open Go.ChangeShapes Go.WideShapes Go.ChangeAt Go.RowKit Go.Deep Go.Shelf
theorem rnote_any (S : TS) (x : Option Addr) (cap : Nat) (w : World) (n0 m : Nat) (hn0 : n0 ≤ w.heap.size) (hok : TOk m S) (hm : m ≤ 100) (hr : w.ownsRow n0 56 4 (.slice x S.ks.length cap) S.ks.length (rflat S.ks)) (s : ByteArray) (n : Int) (hs : s.size ≤ maxLen) : Calls Try.prog 22 #[rT S (.slice x S.ks.length cap), .string s, .int .i64 n] w (RNoteEnd w n0 S s n) := by
  cases hb : badNote s n
  case true => exact rnote_bad S x cap w n0 hr s n hb hs
  case false =>
  by_cases hp : plc S.ks s < S.ks.length
  · exact rnote_there S x cap w n0 m hn0 hok hm hr s n hb hp
  · rcases hr.2 with ⟨h1, h2⟩ | ⟨g, cp, cur, h1, _⟩
    · have hks : S.ks = [] := List.length_eq_zero_iff.1 h2
      have e : (Value.slice x S.ks.length cap) = .slice none 0 0 := h1
      rw [e]
      exact rnote_new_nil S w n0 m hn0 hok hm hks s n hb hp
    · obtain ⟨rfl, rfl⟩ : x = some ⟨g, 0, none⟩ ∧ cap = cp := by simpa using h1
      by_cases hf : S.ks.length < 100
      · exact rnote_new_some S g cap w n0 m hn0 hok hm hr s n hb hp hf
      · exact rnote_full_some S g cap w n0 m hn0 hok hm hr s n hb hp (by omega)
structure OpD where
  size : Bool
  kind : ByteArray
  n : Int
  h : Int
def opz : OpD := ⟨false, ByteArray.empty, 0, 0⟩
def OpOk (o : OpD) : Prop := o.kind.size ≤ maxLen ∧ (-9223372036854775808 ≤ o.n ∧ o.n ≤ 9223372036854775807) ∧ (-9223372036854775808 ≤ o.h ∧ o.h ≤ 9223372036854775807)
def OpAt (w : World) (b off : Nat) (o : OpD) : Prop := w.cell? ⟨b, off, none⟩ = some (.bool o.size) ∧ w.cell? ⟨b, off + 1, none⟩ = some (.string o.kind) ∧ w.cell? ⟨b, off + 2, none⟩ = some (.int .i64 o.n) ∧ w.cell? ⟨b, off + 3, none⟩ = some (.int .i64 o.h)
def OpsV (w : World) (a : Option Addr) (n : Nat) (os : List OpD) : Prop :=
  n = os.length ∧ n ≤ 9223372036854775807 ∧ (∀ i, OpOk (os.getD i opz)) ∧ (0 < n → ∃ b off, a = some ⟨b, off, none⟩ ∧ b < w.heap.size ∧ ∀ i, i < n → OpAt w b (off + i * 4) (os.getD i opz))
section
variable {H : Type} {enc : TypeId × Value → H} {w : World} {base : Nat} {spare : Nat → Bool} {held : Bool}
theorem int_bd {n : Int} (h : (Lit.int .i64 n).wf = true) : -9223372036854775808 ≤ n ∧ n ≤ 9223372036854775807 := by
  simp [Lit.wf, IntKind.min, IntKind.max, IntKind.signed, IntKind.bits] at h; omega
theorem op_of_trod {fuel : Nat} {cs : List Value} {x : DataW H × List MemPlace} (h : DataW.trod enc Try.prog w base spare held fuel 62 cs = some x) :
    ∃ o : OpD, OpOk o ∧ cs = [.bool o.size, .string o.kind, .int .i64 o.n, .int .i64 o.h] := by
  obtain ⟨xs, n, _, _, hl, hn, hf⟩ := DataW.trod_struct Try.underlying62 h
  have hc : Try.prog.cellsOf 62 = 4 := by kernel_rfl
  have c9 : Try.prog.cellsOf 9 = 1 := by kernel_rfl
  have c3 : Try.prog.cellsOf 3 = 1 := by kernel_rfl
  have c4 : Try.prog.cellsOf 4 = 1 := by kernel_rfl
  rw [hc] at hl
  match cs, hl with
  | [v0, v1, v2, v3], _ =>
    have h0 := hf 0 _ rfl
    have h1 := hf 1 _ rfl
    have h2 := hf 2 _ rfl
    have h3 := hf 3 _ rfl
    simp only [List.size_toArray, List.length_cons, List.length_nil] at hn
    rw [List.getElem?_eq_getElem (by omega)] at h0 h1 h2 h3
    obtain ⟨a, ha, _⟩ := DataW.trod_bool Try.underlying4 h0
    obtain ⟨b, hb, hb2⟩ := DataW.trod_string Try.underlying9 h1
    obtain ⟨c, hc', hc2⟩ := DataW.trod_int Try.underlying3 h2
    obtain ⟨d, hd, hd2⟩ := DataW.trod_int Try.underlying3 h3
    simp [c9, c3, c4] at ha hb hc' hd
    exact ⟨⟨a, b, c, d⟩, ⟨hb2.2, int_bd hc2.2, int_bd hd2.2⟩, by simp [ha, hb, hc', hd]⟩
theorem ops_of_trod {fuel : Nat} {v : Value} {x : DataW H × List MemPlace} (h : DataW.trod enc Try.prog w base spare held fuel 52 [v] = some x) :
    ∃ a n cap os, v = .slice a n cap ∧ OpsV w a n os := by
  have hc : Try.prog.cellsOf 62 = 4 := by kernel_rfl
  have okz : OpOk opz := ⟨by simp [opz, maxLen], by simp [opz], by simp [opz]⟩
  rcases open_slice Try.underlying52 h with ⟨hcs, _⟩ | ⟨a, len, cap, m, n, D, Pl, hcs, _, hl, hm, hmm, _, hx⟩
  · simp at hcs; subst hcs; exact ⟨none, 0, 0, [], rfl, rfl, by omega, fun i => by simpa using okz, fun h => absurd h (by omega)⟩
  · simp at hcs; subst hcs
    rw [hc] at hx
    have hlm : len ≤ m := by rw [hmm]; split <;> omega
    have one : ∀ i, i < len → ∃ o : OpD, OpOk o ∧ w.cells? base (a.add (i * 4)) 4 = some [.bool o.size, .string o.kind, .int .i64 o.n, .int .i64 o.h] := fun i hi => by
      obtain ⟨cs', h1, h2⟩ := hx i (by omega)
      obtain ⟨o, ho, rfl⟩ := op_of_trod h2
      exact ⟨o, ho, h1⟩
    haveI : Inhabited OpD := ⟨opz⟩
    obtain ⟨F, hF⟩ := choose_lt one
    refine ⟨some a, len, cap, (List.range len).map F, rfl, by simp, by unfold maxLen at hm; omega, fun i => ?_, fun hp => ?_⟩
    · rcases Nat.lt_or_ge i len with q | q
      · have hg : ((List.range len).map F).getD i opz = F i := by simp [List.getD, q]
        rw [hg]; exact (hF i q).1
      · have hg : ((List.range len).map F).getD i opz = opz := by simp [List.getD, List.getElem?_eq_none (show ((List.range len).map F).length ≤ i by simpa using q)]
        rw [hg]; exact okz
    · obtain ⟨b, off, ha⟩ := addr_plain (hF 0 hp).2 (by omega)
      have e0 : a.add (0 * 4) = a := by simp [Addr.add]
      rw [e0] at ha
      subst ha
      refine ⟨b, off, rfl, ?_, fun i hi => ?_⟩
      · obtain ⟨_, _, hc0⟩ := World.cells?_some (hF 0 hp).2
        rw [e0] at hc0
        have := hc0 0 (by omega)
        exact World.block_lt_of_cell? w _ (this.trans rfl)
      · have hg : ((List.range len).map F).getD i opz = F i := by simp [List.getD, hi]
        rw [hg]
        obtain ⟨_, _, hc0⟩ := World.cells?_some (hF i hi).2
        simp only [add_plain] at hc0
        exact ⟨hc0 0 (by omega), hc0 1 (by omega), hc0 2 (by omega), hc0 3 (by omega)⟩
end
end Go.Proofs.Ytcbdmaffcjdnbaa
