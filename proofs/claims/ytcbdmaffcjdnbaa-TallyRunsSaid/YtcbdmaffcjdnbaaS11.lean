/- Runs: the reference's Sum. -/
import Derived.Test.YtcbdmaffcjdnbaaS10
namespace Go.Proofs.Ytcbdmaffcjdnbaa
open Go.RowKit Go.Shelf Go.Maps Go.ChangeMaps
def RSumEnd (w : World) (k : Kd) (e : Ending) (w' : World) : Prop := e = .returned (.agg #[.string k.s, .int .i64 k.c, .int .i64 k.a, .int .i64 k.t]) ∧ Below w.heap.size w w'
set_option maxHeartbeats 1000000 in
theorem rsum_any (S : TS) (x : Option Addr) (cap : Nat) (w : World) (n0 : Nat) (hlen : S.ks.length ≤ 100) (hr : w.ownsRow n0 56 4 (.slice x S.ks.length cap) S.ks.length (rflat S.ks)) (s : ByteArray) : Calls Try.prog 23 #[rT S (.slice x S.ks.length cap), .string s] w (RSumEnd w (kof S.ks s)) := by
  unfold rT
  have HR := Lib.hid hr
  clear hr
  obtain ⟨N, hN⟩ : ∃ N, S.ks.length = N := ⟨_, rfl⟩
  have HN := Lib.hid hN
  rw [hN] at HR hlen ⊢
  have hle := plc_le S.ks s
  rw [hN] at hle
  have HLE := Lib.hid hle
  clear hN hle
  go_enter Try.func23, Try.ntmps23
  go_wp2
  go_loop [5] (fun i => ∃ k : Nat, k ≤ plc S.ks s ∧ i = .int .i64 (k : Int)) (fun i => N - (intOf i).toNat)
  case atStart => exact ⟨0, Nat.zero_le _, rfl⟩
  case round =>
    obtain ⟨k, hk, rfl⟩ := hrel
    by_cases hlt : k < N
    · obtain ⟨g, rfl, hg0, hg1, hg2, hg3, hcs⟩ := rrow_cells HR.out HN.out.symm (by omega)
      obtain ⟨q0, q1, q2, q3⟩ := hcs k hlt
      have e0 : ∀ o v, w.cell? ⟨g, o, none⟩ = some v → ((w.alloc (.cells #[.int .i64 S.bound, .int .i64 S.over, .slice (some ⟨g, 0, none⟩) N cap, .string ByteArray.empty, .int .i64 S.c, .int .i64 S.a, .int .i64 S.t] 58)).alloc (.cells #[.string ⟨#[]⟩, .int .i64 0, .int .i64 0, .int .i64 0] 56)).cell? ⟨g, o, none⟩ = some v := fun o v hv => by
        rw [← hv]
        exact (((Below.refl w.heap.size w).alloc (Nat.le_refl _) _).alloc (by simp) _).cell hg1
      have r0 := e0 _ _ q0
      have r1 := e0 _ _ q1
      have r2 := e0 _ _ q2
      have r3 := e0 _ _ q3
      clear hcs q0 q1 q2 q3 e0 hg2 hg3
      by_cases he : (kn S.ks k).s = s
      · have t1 : ((kn S.ks k).s.toList == s.toList) = true := by rw [beq_bytes]; exact decide_eq_true he
        have hpk : plc S.ks s = k := by
          rcases Nat.lt_or_ge k (plc S.ks s) with q | q
          · exact absurd he (plc_before _ _ _ q)
          · omega
        have HP := Lib.hid (show kof S.ks s = kn S.ks k by unfold kof; rw [hpk, if_pos (by have := HN.out; omega)])
        clear he hpk
        go_wp2
        refine bodyPost_ret (v := .agg #[.string (kn S.ks k).s, .int .i64 (kn S.ks k).c, .int .i64 (kn S.ks k).a, .int .i64 (kn S.ks k).t]) (by simp [results, Try.results23, go_sem]) rfl ⟨by rw [HP.out], ?_⟩
        exact ((Below.refl _ _).alloc (Nat.le_refl _) _).alloc (by simp) _
      · have t1 : ((kn S.ks k).s.toList == s.toList) = false := by rw [beq_bytes]; exact decide_eq_false he
        have HK : Hid (k < plc S.ks s) := Lib.hid (by
          rcases Nat.lt_or_ge k (plc S.ks s) with q | q
          · exact q
          · have hk2 : k = plc S.ks s := by omega
            exact absurd (by rw [hk2]; exact plc_at S.ks s (by have := HN.out; omega)) he)
        clear he
        go_wp2
        go_round
        case rel => exact ⟨k + 1, by have := HK.out; omega, by go_num⟩
        case measure => simp [intOf]; omega
    · have HP := Lib.hid (show kof S.ks s = kz by unfold kof; rw [if_neg (by have := HN.out; omega)])
      go_wp2
      refine bodyPost_ret (v := .agg #[.string ⟨#[]⟩, .int .i64 0, .int .i64 0, .int .i64 0]) (by simp [results, Try.results23, go_sem]) rfl ⟨by rw [HP.out]; rfl, ?_⟩
      exact ((Below.refl _ _).alloc (Nat.le_refl _) _).alloc (by simp) _
end Go.Proofs.Ytcbdmaffcjdnbaa
