/- Own texts, merged. -/
import Derived.WalkKit
import Derived.WalkMore
import Derived.Test.YtpcbamcelpcigaaGreatMC04
import Derived.Test.YtpcbamcelpcigaaGreatMC09
import Derived.Test.YtpcbamcelpcigaaGreatMC14
import Derived.Test.YtpcbamcelpcigaaGreatMC00
set_option maxRecDepth 100000
set_option maxHeartbeats 32000000
open Go.Lib (hid)
namespace Go.Proofs.YtpcbamcelpcigaaGreat
open Go.RowKit Go.Shelf
attribute [local go_sem] run_store_float
theorem TyV.agg {w:World} {v:Value} {L:List Nat} (h:TyV w v L):∃ x n c,v = .slice x n c:=by
 obtain ⟨x,cap,rfl,_⟩:=h;exact ⟨_,_,_,rfl⟩
theorem wmade (op:Bs) (v:Value) (L:List Nat) (hL:L.length≤1000000) (h2:op = weq∨op = wne→L.length = 2) (w:World) (h:TyV w v L):Calls Tryz.prog 99 #[.string (tx op),v] w fun e w'=>e = .returned (.int .i64 (madeT op L:Nat))∧Below w.heap.size w w':=by
 have HA1:Hid (Calls Tryz.prog 136 #[v,.int .i64 1] w fun e w'=>e = .returned (.bool (allT 1 L))∧w = w'):=hid (wallT v L 1 hL w h)
 have HA2:Hid (Calls Tryz.prog 136 #[v,.int .i64 2] w fun e w'=>e = .returned (.bool (allT 2 L))∧w = w'):=hid (wallT v L 2 hL w h)
 have HA3:Hid (Calls Tryz.prog 136 #[v,.int .i64 3] w fun e w'=>e = .returned (.bool (allT 3 L))∧w = w'):=hid (wallT v L 3 hL w h)
 have HG1:Hid (∀ c W,Calls Tryz.prog 135 #[.int .i64 1,.bool c] W fun e w'=>e = .returned (.int .i64 (giv 1 c:Nat))∧W = w'):=hid (fun c W=>wgiven 1 c W)
 have HG3:Hid (∀ c W,Calls Tryz.prog 135 #[.int .i64 3,.bool c] W fun e w'=>e = .returned (.int .i64 (giv 3 c:Nat))∧W = w'):=hid (fun c W=>wgiven 3 c W)
 have HV:=hid h
 have HH2:=hid h2
 obtain ⟨x,n,cp,rfl⟩:=h.agg
 clear h h2 hL
 rcases opcases op with ⟨ho,b0,b1,b2,b3,b4,b5,b6,b7,b8,b9,b10,b11,b12,b13,b14,b15,b16,b17,b18,b19⟩ | ⟨ho,b0,b1,b2,b3,b4,b5,b6,b7,b8,b9,b10,b11,b12,b13,b14,b15,b16,b17,b18,b19⟩ | ⟨ho,b0,b1,b2,b3,b4,b5,b6,b7,b8,b9,b10,b11,b12,b13,b14,b15,b16,b17,b18,b19⟩ | ⟨ho,b0,b1,b2,b3,b4,b5,b6,b7,b8,b9,b10,b11,b12,b13,b14,b15,b16,b17,b18,b19⟩ | ⟨ho,b0,b1,b2,b3,b4,b5,b6,b7,b8,b9,b10,b11,b12,b13,b14,b15,b16,b17,b18,b19⟩ | ⟨ho,b0,b1,b2,b3,b4,b5,b6,b7,b8,b9,b10,b11,b12,b13,b14,b15,b16,b17,b18,b19⟩ | ⟨ho,b0,b1,b2,b3,b4,b5,b6,b7,b8,b9,b10,b11,b12,b13,b14,b15,b16,b17,b18,b19⟩ | ⟨ho,b0,b1,b2,b3,b4,b5,b6,b7,b8,b9,b10,b11,b12,b13,b14,b15,b16,b17,b18,b19⟩ | ⟨ho,b0,b1,b2,b3,b4,b5,b6,b7,b8,b9,b10,b11,b12,b13,b14,b15,b16,b17,b18,b19⟩ | ⟨ho,b0,b1,b2,b3,b4,b5,b6,b7,b8,b9,b10,b11,b12,b13,b14,b15,b16,b17,b18,b19⟩ | ⟨ho,b0,b1,b2,b3,b4,b5,b6,b7,b8,b9,b10,b11,b12,b13,b14,b15,b16,b17,b18,b19⟩ | ⟨ho,b0,b1,b2,b3,b4,b5,b6,b7,b8,b9,b10,b11,b12,b13,b14,b15,b16,b17,b18,b19⟩ | ⟨ho,b0,b1,b2,b3,b4,b5,b6,b7,b8,b9,b10,b11,b12,b13,b14,b15,b16,b17,b18,b19⟩ | ⟨ho,b0,b1,b2,b3,b4,b5,b6,b7,b8,b9,b10,b11,b12,b13,b14,b15,b16,b17,b18,b19⟩ | ⟨ho,b0,b1,b2,b3,b4,b5,b6,b7,b8,b9,b10,b11,b12,b13,b14,b15,b16,b17,b18,b19⟩ | ⟨ho,b0,b1,b2,b3,b4,b5,b6,b7,b8,b9,b10,b11,b12,b13,b14,b15,b16,b17,b18,b19⟩ | ⟨ho,b0,b1,b2,b3,b4,b5,b6,b7,b8,b9,b10,b11,b12,b13,b14,b15,b16,b17,b18,b19⟩ | ⟨ho,b0,b1,b2,b3,b4,b5,b6,b7,b8,b9,b10,b11,b12,b13,b14,b15,b16,b17,b18,b19⟩ | ⟨ho,b0,b1,b2,b3,b4,b5,b6,b7,b8,b9,b10,b11,b12,b13,b14,b15,b16,b17,b18,b19⟩ | ⟨ho,b0,b1,b2,b3,b4,b5,b6,b7,b8,b9,b10,b11,b12,b13,b14,b15,b16,b17,b18,b19⟩ | ⟨ho,b0,b1,b2,b3,b4,b5,b6,b7,b8,b9,b10,b11,b12,b13,b14,b15,b16,b17,b18,b19⟩
 ·have hM:madeT op L = giv 3 (allT 3 L):=by subst ho;unfold madeT;rw [if_neg (by decide),if_neg (by decide),if_neg (by decide),if_neg (by decide),if_neg (by decide)]
  rw [hM]
  clear ho hM HH2 HV
  generalize tx op = T at *
  go_enter Tryz.func99,Tryz.ntmps99
  go_wp2_with (first | (go_at_call 136;refine (HA3.out).mono ?_;rintro e w1 ⟨rfl,rfl⟩) | (go_at_call 135;refine (HG3.out _ _).mono ?_;rintro e w1 ⟨rfl,rfl⟩))
  go_ret
  exact ⟨rfl,Below.refl _ _⟩
 ·have hM:madeT op L = giv 3 (allT 3 L):=by subst ho;unfold madeT;rw [if_neg (by decide),if_neg (by decide),if_neg (by decide),if_neg (by decide),if_neg (by decide)]
  rw [hM]
  clear ho hM HH2 HV
  generalize tx op = T at *
  go_enter Tryz.func99,Tryz.ntmps99
  go_wp2_with (first | (go_at_call 136;refine (HA3.out).mono ?_;rintro e w1 ⟨rfl,rfl⟩) | (go_at_call 135;refine (HG3.out _ _).mono ?_;rintro e w1 ⟨rfl,rfl⟩))
  go_ret
  exact ⟨rfl,Below.refl _ _⟩
 ·have hM:madeT op L = giv 3 (allT 3 L):=by subst ho;unfold madeT;rw [if_neg (by decide),if_neg (by decide),if_neg (by decide),if_neg (by decide),if_neg (by decide)]
  rw [hM]
  clear ho hM HH2 HV
  generalize tx op = T at *
  go_enter Tryz.func99,Tryz.ntmps99
  go_wp2_with (first | (go_at_call 136;refine (HA3.out).mono ?_;rintro e w1 ⟨rfl,rfl⟩) | (go_at_call 135;refine (HG3.out _ _).mono ?_;rintro e w1 ⟨rfl,rfl⟩))
  go_ret
  exact ⟨rfl,Below.refl _ _⟩
 ·have hM:madeT op L = giv 3 (allT 3 L):=by subst ho;unfold madeT;rw [if_neg (by decide),if_neg (by decide),if_neg (by decide),if_neg (by decide),if_neg (by decide)]
  rw [hM]
  clear ho hM HH2 HV
  generalize tx op = T at *
  go_enter Tryz.func99,Tryz.ntmps99
  go_wp2_with (first | (go_at_call 136;refine (HA3.out).mono ?_;rintro e w1 ⟨rfl,rfl⟩) | (go_at_call 135;refine (HG3.out _ _).mono ?_;rintro e w1 ⟨rfl,rfl⟩))
  go_ret
  exact ⟨rfl,Below.refl _ _⟩
 ·have hM:madeT op L = giv 1 (allT 1 L):=by subst ho;unfold madeT;rw [if_pos (by decide)]
  rw [hM]
  clear ho hM HH2 HV
  generalize tx op = T at *
  go_enter Tryz.func99,Tryz.ntmps99
  go_wp2_with (first | (go_at_call 136;refine (HA1.out).mono ?_;rintro e w1 ⟨rfl,rfl⟩) | (go_at_call 135;refine (HG1.out _ _).mono ?_;rintro e w1 ⟨rfl,rfl⟩))
  go_ret
  exact ⟨rfl,Below.refl _ _⟩
 ·have hM:madeT op L = giv 1 (allT 2 L):=by subst ho;unfold madeT;rw [if_neg (by decide),if_pos (by decide)]
  rw [hM]
  clear ho hM HH2 HV
  generalize tx op = T at *
  go_enter Tryz.func99,Tryz.ntmps99
  go_wp2_with (first | (go_at_call 136;refine (HA2.out).mono ?_;rintro e w1 ⟨rfl,rfl⟩) | (go_at_call 135;refine (HG1.out _ _).mono ?_;rintro e w1 ⟨rfl,rfl⟩))
  go_ret
  exact ⟨rfl,Below.refl _ _⟩
 ·have hM:madeT op L = giv 1 (allT 1 L):=by subst ho;unfold madeT;rw [if_pos (by decide)]
  rw [hM]
  clear ho hM HH2 HV
  generalize tx op = T at *
  go_enter Tryz.func99,Tryz.ntmps99
  go_wp2_with (first | (go_at_call 136;refine (HA1.out).mono ?_;rintro e w1 ⟨rfl,rfl⟩) | (go_at_call 135;refine (HG1.out _ _).mono ?_;rintro e w1 ⟨rfl,rfl⟩))
  go_ret
  exact ⟨rfl,Below.refl _ _⟩
 ·have hM:madeT op L = giv 3 (allT 3 L):=by subst ho;unfold madeT;rw [if_neg (by decide),if_neg (by decide),if_neg (by decide),if_neg (by decide),if_neg (by decide)]
  rw [hM]
  clear ho hM HH2 HV
  generalize tx op = T at *
  go_enter Tryz.func99,Tryz.ntmps99
  go_wp2_with (first | (go_at_call 136;refine (HA3.out).mono ?_;rintro e w1 ⟨rfl,rfl⟩) | (go_at_call 135;refine (HG3.out _ _).mono ?_;rintro e w1 ⟨rfl,rfl⟩))
  go_ret
  exact ⟨rfl,Below.refl _ _⟩
 ·have hM:madeT op L = giv 3 (allT 3 L):=by subst ho;unfold madeT;rw [if_neg (by decide),if_neg (by decide),if_neg (by decide),if_neg (by decide),if_neg (by decide)]
  rw [hM]
  clear ho hM HH2 HV
  generalize tx op = T at *
  go_enter Tryz.func99,Tryz.ntmps99
  go_wp2_with (first | (go_at_call 136;refine (HA3.out).mono ?_;rintro e w1 ⟨rfl,rfl⟩) | (go_at_call 135;refine (HG3.out _ _).mono ?_;rintro e w1 ⟨rfl,rfl⟩))
  go_ret
  exact ⟨rfl,Below.refl _ _⟩
 ·have hM:madeT op L = giv 3 (allT 2 L):=by subst ho;unfold madeT;rw [if_neg (by decide),if_neg (by decide),if_neg (by decide),if_neg (by decide),if_pos (by decide)]
  rw [hM]
  clear ho hM HH2 HV
  generalize tx op = T at *
  go_enter Tryz.func99,Tryz.ntmps99
  go_wp2_with (first | (go_at_call 136;refine (HA2.out).mono ?_;rintro e w1 ⟨rfl,rfl⟩) | (go_at_call 135;refine (HG3.out _ _).mono ?_;rintro e w1 ⟨rfl,rfl⟩))
  go_ret
  exact ⟨rfl,Below.refl _ _⟩
 ·have hM:madeT op L = giv 3 (L.getD 0 0 == L.getD 1 0):=by subst ho;unfold madeT;rw [if_neg (by decide),if_neg (by decide),if_neg (by decide),if_pos (by decide)]
  rw [hM]
  have hl:L.length = 2:=HH2.out (by subst ho;decide)
  obtain ⟨t0,t1,rfl⟩:∃ t0 t1,L = [t0,t1]:=by
   match L,hl with
   | [t0,t1],_=>exact ⟨t0,t1,rfl⟩
  obtain ⟨x',cap,hv',hcap,hx,hc⟩:=HV.out
  cases hv'
  obtain ⟨a,rfl⟩:∃ a,x = some a:=by
   cases x with
   | none=>have:=hx rfl;cases this
   | some a=>exact ⟨a,rfl⟩
  have c0:=hc a rfl 0 t0 rfl
  have c1:=hc a rfl 1 t1 rfl
  rw [show a.add 0 = a from rfl] at c0
  have c1':w.cell? ⟨a.block,a.off + 1,none⟩ = some (.int .i64 (t1:Nat)):=by simpa [Addr.add] using c1
  have HEQ:((t0:Int) == (t1:Int)) = (t0 == t1):=Bool.eq_iff_iff.2 (by rw [beq_iff_eq,beq_iff_eq];omega)
  have HG4:Hid (∀ W,Calls Tryz.prog 135 #[.int .i64 3,.bool ((t0:Int) == (t1:Int))] W fun e w'=>e = .returned (.int .i64 (giv 3 (t0 == t1):Nat))∧W = w'):=hid (fun W=>by rw [HEQ];exact wgiven 3 _ W)
  have HL2:Hid (madeT op [t0,t1] = giv 3 (t0 == t1)):=hid hM
  show Calls Tryz.prog 99 #[.string (tx op),.slice (some a) 2 cp] w fun e w'=>e = .returned (.int .i64 (giv 3 (t0 == t1):Nat))∧Below w.heap.size w w'
  clear ho hM hc hx c1 hl HEQ HV HH2 HA1 HA2 HA3 HG1 HG3 HL2 hcap
  generalize tx op = T at *
  go_enter Tryz.func99,Tryz.ntmps99
  go_wp2
  go_quiet ((go_at_call 135;exact quiet_eq (HG4.out _)))
  go_wp2
  go_ret
  exact ⟨rfl,⟨rfl,rfl,rfl,Nat.le_refl _,fun _ _=>rfl⟩⟩
 ·have hM:madeT op L = giv 3 (L.getD 0 0 == L.getD 1 0):=by subst ho;unfold madeT;rw [if_neg (by decide),if_neg (by decide),if_neg (by decide),if_pos (by decide)]
  rw [hM]
  have hl:L.length = 2:=HH2.out (by subst ho;decide)
  obtain ⟨t0,t1,rfl⟩:∃ t0 t1,L = [t0,t1]:=by
   match L,hl with
   | [t0,t1],_=>exact ⟨t0,t1,rfl⟩
  obtain ⟨x',cap,hv',hcap,hx,hc⟩:=HV.out
  cases hv'
  obtain ⟨a,rfl⟩:∃ a,x = some a:=by
   cases x with
   | none=>have:=hx rfl;cases this
   | some a=>exact ⟨a,rfl⟩
  have c0:=hc a rfl 0 t0 rfl
  have c1:=hc a rfl 1 t1 rfl
  rw [show a.add 0 = a from rfl] at c0
  have c1':w.cell? ⟨a.block,a.off + 1,none⟩ = some (.int .i64 (t1:Nat)):=by simpa [Addr.add] using c1
  have HEQ:((t0:Int) == (t1:Int)) = (t0 == t1):=Bool.eq_iff_iff.2 (by rw [beq_iff_eq,beq_iff_eq];omega)
  have HG4:Hid (∀ W,Calls Tryz.prog 135 #[.int .i64 3,.bool ((t0:Int) == (t1:Int))] W fun e w'=>e = .returned (.int .i64 (giv 3 (t0 == t1):Nat))∧W = w'):=hid (fun W=>by rw [HEQ];exact wgiven 3 _ W)
  have HL2:Hid (madeT op [t0,t1] = giv 3 (t0 == t1)):=hid hM
  show Calls Tryz.prog 99 #[.string (tx op),.slice (some a) 2 cp] w fun e w'=>e = .returned (.int .i64 (giv 3 (t0 == t1):Nat))∧Below w.heap.size w w'
  clear ho hM hc hx c1 hl HEQ HV HH2 HA1 HA2 HA3 HG1 HG3 HL2 hcap
  generalize tx op = T at *
  go_enter Tryz.func99,Tryz.ntmps99
  go_wp2
  go_quiet ((go_at_call 135;exact quiet_eq (HG4.out _)))
  go_wp2
  go_ret
  exact ⟨rfl,⟨rfl,rfl,rfl,Nat.le_refl _,fun _ _=>rfl⟩⟩
 ·have hM:madeT op L = giv 3 (allT 1 L):=by subst ho;unfold madeT;rw [if_neg (by decide),if_neg (by decide),if_pos (by decide)]
  rw [hM]
  clear ho hM HH2 HV
  generalize tx op = T at *
  go_enter Tryz.func99,Tryz.ntmps99
  go_wp2_with (first | (go_at_call 136;refine (HA1.out).mono ?_;rintro e w1 ⟨rfl,rfl⟩) | (go_at_call 135;refine (HG3.out _ _).mono ?_;rintro e w1 ⟨rfl,rfl⟩))
  go_ret
  exact ⟨rfl,Below.refl _ _⟩
 ·have hM:madeT op L = giv 3 (allT 1 L):=by subst ho;unfold madeT;rw [if_neg (by decide),if_neg (by decide),if_pos (by decide)]
  rw [hM]
  clear ho hM HH2 HV
  generalize tx op = T at *
  go_enter Tryz.func99,Tryz.ntmps99
  go_wp2_with (first | (go_at_call 136;refine (HA1.out).mono ?_;rintro e w1 ⟨rfl,rfl⟩) | (go_at_call 135;refine (HG3.out _ _).mono ?_;rintro e w1 ⟨rfl,rfl⟩))
  go_ret
  exact ⟨rfl,Below.refl _ _⟩
 ·have hM:madeT op L = giv 3 (allT 1 L):=by subst ho;unfold madeT;rw [if_neg (by decide),if_neg (by decide),if_pos (by decide)]
  rw [hM]
  clear ho hM HH2 HV
  generalize tx op = T at *
  go_enter Tryz.func99,Tryz.ntmps99
  go_wp2_with (first | (go_at_call 136;refine (HA1.out).mono ?_;rintro e w1 ⟨rfl,rfl⟩) | (go_at_call 135;refine (HG3.out _ _).mono ?_;rintro e w1 ⟨rfl,rfl⟩))
  go_ret
  exact ⟨rfl,Below.refl _ _⟩
 ·have hM:madeT op L = giv 3 (allT 1 L):=by subst ho;unfold madeT;rw [if_neg (by decide),if_neg (by decide),if_pos (by decide)]
  rw [hM]
  clear ho hM HH2 HV
  generalize tx op = T at *
  go_enter Tryz.func99,Tryz.ntmps99
  go_wp2_with (first | (go_at_call 136;refine (HA1.out).mono ?_;rintro e w1 ⟨rfl,rfl⟩) | (go_at_call 135;refine (HG3.out _ _).mono ?_;rintro e w1 ⟨rfl,rfl⟩))
  go_ret
  exact ⟨rfl,Below.refl _ _⟩
 ·have hM:madeT op L = giv 1 (allT 1 L):=by subst ho;unfold madeT;rw [if_pos (by decide)]
  rw [hM]
  clear ho hM HH2 HV
  generalize tx op = T at *
  go_enter Tryz.func99,Tryz.ntmps99
  go_wp2_with (first | (go_at_call 136;refine (HA1.out).mono ?_;rintro e w1 ⟨rfl,rfl⟩) | (go_at_call 135;refine (HG1.out _ _).mono ?_;rintro e w1 ⟨rfl,rfl⟩))
  go_ret
  exact ⟨rfl,Below.refl _ _⟩
 ·have hM:madeT op L = giv 1 (allT 1 L):=by subst ho;unfold madeT;rw [if_pos (by decide)]
  rw [hM]
  clear ho hM HH2 HV
  generalize tx op = T at *
  go_enter Tryz.func99,Tryz.ntmps99
  go_wp2_with (first | (go_at_call 136;refine (HA1.out).mono ?_;rintro e w1 ⟨rfl,rfl⟩) | (go_at_call 135;refine (HG1.out _ _).mono ?_;rintro e w1 ⟨rfl,rfl⟩))
  go_ret
  exact ⟨rfl,Below.refl _ _⟩
 ·have hM:madeT op L = giv 1 (allT 1 L):=by subst ho;unfold madeT;rw [if_pos (by decide)]
  rw [hM]
  clear ho hM HH2 HV
  generalize tx op = T at *
  go_enter Tryz.func99,Tryz.ntmps99
  go_wp2_with (first | (go_at_call 136;refine (HA1.out).mono ?_;rintro e w1 ⟨rfl,rfl⟩) | (go_at_call 135;refine (HG1.out _ _).mono ?_;rintro e w1 ⟨rfl,rfl⟩))
  go_ret
  exact ⟨rfl,Below.refl _ _⟩
 ·have hM:madeT op L = giv 1 (allT 1 L):=by subst ho;unfold madeT;rw [if_pos (by decide)]
  rw [hM]
  clear ho hM HH2 HV
  generalize tx op = T at *
  go_enter Tryz.func99,Tryz.ntmps99
  go_wp2_with (first | (go_at_call 136;refine (HA1.out).mono ?_;rintro e w1 ⟨rfl,rfl⟩) | (go_at_call 135;refine (HG1.out _ _).mono ?_;rintro e w1 ⟨rfl,rfl⟩))
  go_ret
  exact ⟨rfl,Below.refl _ _⟩
 ·have hM:madeT op L = giv 3 (allT 3 L):=made_else L ho
  rw [hM]
  clear ho hM HH2 HV
  generalize tx op = T at *
  go_enter Tryz.func99,Tryz.ntmps99
  go_wp2_with (first | (go_at_call 136;refine (HA3.out).mono ?_;rintro e w1 ⟨rfl,rfl⟩) | (go_at_call 135;refine (HG3.out _ _).mono ?_;rintro e w1 ⟨rfl,rfl⟩))
  go_ret
  exact ⟨rfl,Below.refl _ _⟩
theorem wnamed_one (V:Bs→Nat) (s:Bs) (ok:Bool) (hs:s.length≤1000000) (n:Nat) (H:∀ k,k≤n→PC V s ok 96 .or 11 k) (x:Bs) (hx:x = wlen∨x = wabs) (r:Nat) (ts:List Tok) (w:World) (hn:12 * ts.length≤n + 1) (hne:ts≠[]) (hst:St r s ok ts w) :
  Calls Tryz.prog 212 #[.pointer (some ⟨r,0,none⟩),.string (tx x)] w (PEnd r s ok (namedP ok (P V ok n .or) ts x) w):=by
 have HI:=hid (RI.start (v0:=.string ⟨#[]⟩) (v1:=.float .f64 0) (v2:=.string ⟨#[]⟩) (v3:=.slice none 0 0) hst)
 have HV:Hid (namedP ok (P V ok n .or) ts x = match adv ok ts with | none=>none | some r=>match inside ok (P V ok n .or) r with | none=>none | some (a,r')=>some (one x a,r')):=hid (by
  unfold namedP
  rw [if_neg (by rcases hx with rfl | rfl <;> decide)]
  cases adv ok ts with
  | none=>rfl
  | some r=>simp only;rw [if_pos hx];rfl)
 obtain ⟨res,hres⟩:∃ y,y = namedP ok (P V ok n .or) ts x:=⟨_,rfl⟩
 rw [←hres] at HV ⊢
 have HA:=hid (fun W h=>wadv r s ok ts hs hne W h)
 have HIN:=hid (fun t1 (W:World) h1 h=>winside_step V s ok hs n H r t1 W h1 h)
 have HN:=hid hn
 have HX:=hid hx
 have b1:((tx x).toList == [111,114]) = false:=tx_ne (by rcases hx with rfl | rfl <;> decide)
 have b2:((tx x).toList == [97,110,100]) = false:=tx_ne (by rcases hx with rfl | rfl <;> decide)
 have b3:((tx x).toList == [110,111,116]) = false:=tx_ne (by rcases hx with rfl | rfl <;> decide)
 have hb:((tx x).toList == [108,101,110]) = true∨(((tx x).toList == [108,101,110]) = false∧((tx x).toList == [97,98,115]) = true):=by
  rcases hx with rfl | rfl
  ·exact .inl (tx_same wlen)
  ·exact .inr ⟨tx_ne (by decide),tx_same wabs⟩
 clear hst hres hx hne hs H hn
 go_enter Tryz.func212,Tryz.ntmps212
 have hq:∀ K:Prop,((((tx x).toList == [108,101,110]) = true→K)→(((tx x).toList == [108,101,110]) = false→((tx x).toList == [97,98,115]) = true→K)→K):=fun K h1 h2=>hb.elim h1 (fun h=>h2 h.1 h.2)
 clear hb
 refine hq _ (fun b4=>?_) (fun b4 b5=>?_)
 all_goals
  clear hq
  go_wp2_with (first | (go_at_call 95;fail))
  clear b1 b2 b3 b4
  try clear b5
  generalize w.alloc (.cells #[.string ⟨#[]⟩,.float .f64 0,.string ⟨#[]⟩,.slice none 0 0] 87) = W0 at HI ⊢
  refine (HA.out W0 HI.out.st).mono ?_
  rintro e w3 ⟨hb3,⟨h1,rfl⟩ | ⟨t1,h1,rfl,hst3⟩⟩
  ·have HB:=hid (And.intro hb3 h1)
   clear hb3 h1
   go_wp2
   exact ⟨rfl,HI.out.bt.trans HB.out.1,.inl ⟨by rw [HV.out,HB.out.2],rfl⟩⟩
  have HI3:=hid (HI.out.but hb3 hst3)
  have HT:=hid h1
  have HLT:=hid (adv_len h1).1
  clear hb3 h1 hst3
  go_wp2_with (first | (go_at_call 213;fail))
  refine (HIN.out t1 _ (by have:=HN.out;have:=HLT.out;omega) HI3.out.st).mono ?_
  rintro e w2 ⟨hb2,⟨h1,rfl⟩ | ⟨a,ts1,v,h1,rfl,hv,hst1⟩⟩
  ·have HB:=hid (And.intro hb2 h1)
   clear hb2 h1
   go_wp2
   exact ⟨rfl,HI3.out.bt.trans HB.out.1,.inl ⟨by rw [HV.out,HT.out];simp only;rw [HB.out.2],rfl⟩⟩
  have HI2:=hid (HI3.out.but hb2 hst1)
  have HB:=hid (And.intro hv h1)
  have HL0:=hid HI3.out.lt0
  clear hb2 h1 hv hst1
  go_wp2_with (first | (go_at_call 189;fail))
  refine (wsingle (fun b=>w.heap.size≤b∧b≠w.heap.size) x v a _ ?_ ?_).mono ?_
  ·intro b hb;have h1:=HI2.out.lt0;have h2:=HI2.out.bt.size;show _∧_;omega
  ·exact HB.out.1.sub (fun b h _=>by have h1:=HI3.out.bt.size;have h2:=HL0.out;have h3:w3.heap.size≤b:=h;show _∧_;omega)
  rintro e w6 ⟨v6,rfl,hv6,hb6⟩
  have HI6:=hid (HI2.out.below hb6)
  have HV6:=hid hv6
  obtain ⟨o1,n1,s1,x1,l1,c1,rfl⟩:=hv6.agg
  obtain ⟨z0,z1,z2,z3,hz⟩:=HI6.out.res
  have HZ:=hid hz
  obtain ⟨b0,b1,b2,b3,bf⟩:=hz.cells
  have f0:=bf 0
  have f1:=bf 1
  have f2:=bf 2
  have f3:=bf 3
  clear hz bf hv6 hb6
  go_wp2
  rw [HV.out,HT.out]
  simp only
  rw [HB.out.2]
  exact bodyPost_ret (node_res rfl _ _ w.heap.size _ _ _ _ rfl HZ.out.put.heap) rfl (RI.done HI6.out HV6.out)
theorem wnamed_has (V:Bs→Nat) (s:Bs) (ok:Bool) (hs:s.length≤1000000) (n:Nat) (H:∀ k,k≤n→PC V s ok 96 .or 11 k) (r:Nat) (ts:List Tok) (w:World) (hn:12 * ts.length≤n + 1) (hne:ts≠[]) (hst:St r s ok ts w) :
  Calls Tryz.prog 212 #[.pointer (some ⟨r,0,none⟩),.string (tx whas)] w (PEnd r s ok (namedP ok (P V ok n .or) ts whas) w):=by
 have HI:=hid (RI.start (v0:=.string ⟨#[]⟩) (v1:=.float .f64 0) (v2:=.string ⟨#[]⟩) (v3:=.slice none 0 0) hst)
 have HV:Hid (namedP ok (P V ok n .or) ts whas = match adv ok ts with | none=>none | some r=>hasP ok (P V ok n .or) r):=hid (by
  unfold namedP
  rw [if_neg (by decide)]
  cases adv ok ts with
  | none=>rfl
  | some r=>simp only;rw [if_neg (by decide),if_pos trivial])
 unfold hasP at HV
 obtain ⟨res,hres⟩:∃ y,y = namedP ok (P V ok n .or) ts whas:=⟨_,rfl⟩
 rw [←hres] at HV ⊢
 have HA:=hid (fun W h=>wadv r s ok ts hs hne W h)
 have HH:=hid H
 have HM1:Hid (MustC r s ok ⟨#[40]⟩ [40]):=hid (fun ts W h=>wmust r s ok ts [40] hs W h)
 have HM2:Hid (MustC r s ok ⟨#[44]⟩ [44]):=hid (fun ts W h=>wmust r s ok ts [44] hs W h)
 have HM3:Hid (MustC r s ok ⟨#[41]⟩ [41]):=hid (fun ts W h=>wmust r s ok ts [41] hs W h)
 have HN:=hid hn
 have b1:((tx whas).toList == [111,114]) = false:=tx_ne (by decide)
 have b2:((tx whas).toList == [97,110,100]) = false:=tx_ne (by decide)
 have b3:((tx whas).toList == [110,111,116]) = false:=tx_ne (by decide)
 have b4:((tx whas).toList == [108,101,110]) = false:=tx_ne (by decide)
 have b5:((tx whas).toList == [97,98,115]) = false:=tx_ne (by decide)
 have b6:=tx_same whas
 clear hst hres hne hs H hn
 obtain ⟨wh,hwh⟩:∃ y,y = whas:=⟨_,rfl⟩
 rw [←hwh] at HV b1 b2 b3 b4 b5 b6 ⊢
 have HWH:=hid hwh
 have b7:((tx wh).toList == [104,97,115]) = true:=by rw [←b6,hwh];rfl
 clear hwh b6
 go_enter Tryz.func212,Tryz.ntmps212
 go_wp2_with (first | (go_at_call 95;fail))
 clear b1 b2 b3 b4 b5 b7
 generalize w.alloc (.cells #[.string ⟨#[]⟩,.float .f64 0,.string ⟨#[]⟩,.slice none 0 0] 87) = W0 at HI ⊢
 refine (HA.out W0 HI.out.st).mono ?_
 rintro e w3 ⟨hb3,⟨h1,rfl⟩ | ⟨t1,h1,rfl,hst3⟩⟩
 ·have HB:=hid (And.intro hb3 h1)
  clear hb3 h1
  go_wp2
  exact ⟨rfl,HI.out.bt.trans HB.out.1,.inl ⟨by rw [HV.out,HB.out.2],rfl⟩⟩
 have HI3:=hid (HI.out.but hb3 hst3)
 have HV3:=hid HV.out
 rw [h1] at HV3
 have HLT:=hid (adv_len h1).1
 clear hb3 h1 hst3 HV
 go_wp2_with (first | (go_at_call 214;fail))
 refine (HM1.out t1 _ HI3.out.st).mono ?_
 rintro e w4 ⟨hb3,⟨h1,rfl⟩ | ⟨t2,h1,rfl,hst3⟩⟩
 ·have HB:=hid (And.intro hb3 h1)
  clear hb3 h1
  go_wp2
  exact ⟨rfl,HI3.out.bt.trans HB.out.1,.inl ⟨by rw [HV3.out,HB.out.2],rfl⟩⟩
 have HI4:=hid (HI3.out.but hb3 hst3)
 have HV4:=hid HV3.out
 simp only [h1] at HV4
 have HLT4:=hid (must_len h1).1
 clear hb3 h1 hst3 HV3
 go_wp2_with (first | (go_at_call 96;fail))
 refine (HH.out n (Nat.le_refl _) r t2 _ (by have:=HN.out;have:=HLT.out;have:=HLT4.out;omega) HI4.out.st).mono ?_
 rintro e w5 ⟨hb2,⟨h1,rfl⟩ | ⟨a,t3,v,h1,rfl,hv,hst1⟩⟩
 ·have HB:=hid (And.intro hb2 h1)
  clear hb2 h1
  go_wp2
  exact ⟨rfl,HI4.out.bt.trans HB.out.1,.inl ⟨by rw [HV4.out,HB.out.2],rfl⟩⟩
 have HI5:=hid (HI4.out.but hb2 hst1)
 have HL0:=hid HI4.out.lt0
 have HV5:=hid HV4.out
 simp only [h1] at HV5
 have HLT5:=hid (P_len V ok n .or t2 a t3 h1).1
 have HND:=hid (hv.sub (B:=fun b=>w.heap.size≤b∧b≠w.heap.size∧b < w5.heap.size) (fun b h h0=>by have h1:=HI4.out.bt.size;have h2:=HL0.out;have h3:w4.heap.size≤b:=h;show _∧_∧_;omega))
 obtain ⟨o1,n1,s1,x1,l1,c1,rfl⟩:=hv.agg
 clear hb2 h1 hv hst1 HV4
 go_wp2_with (first | (go_at_call 214;fail))
 have HI6:Hid (RI w r s ok w.heap.size t3 (w5.alloc (.cells #[.string o1,.float .f64 n1,.string s1,.slice x1 l1 c1] 87))):=hid (HI5.out.below ((Below.refl _ _).alloc (Nat.le_refl _) _))
 have HND6:=hid (HND.out.below ((Below.refl _ _).alloc (Nat.le_refl _) (.cells #[.string o1,.float .f64 n1,.string s1,.slice x1 l1 c1] 87)))
 have HG6:Hid (NB (w5.alloc (.cells #[.string o1,.float .f64 n1,.string s1,.slice x1 l1 c1] 87)) w5.heap.size (.agg #[.string o1,.float .f64 n1,.string s1,.slice x1 l1 c1])):=hid ⟨_,_,_,_,rfl,heap_alloc_new _ _⟩
 have HLG:=hid (show r < w5.heap.size from HI5.out.st.lt)
 have HL5:=hid HI5.out.lt0
 generalize w5.alloc (.cells #[.string o1,.float .f64 n1,.string s1,.slice x1 l1 c1] 87) = W6 at HI6 HND6 HG6 ⊢
 generalize w5.heap.size = g1 at HND6 HG6 HLG HL5 ⊢
 refine (HM2.out t3 W6 HI6.out.st).mono ?_
 rintro e w7 ⟨hb3,⟨h1,rfl⟩ | ⟨t4,h1,rfl,hst3⟩⟩
 ·have HB:=hid (And.intro hb3 h1)
  clear hb3 h1
  go_wp2
  exact ⟨rfl,HI6.out.bt.trans HB.out.1,.inl ⟨by rw [HV5.out,HB.out.2],rfl⟩⟩
 have HI7:=hid (HI6.out.but hb3 hst3)
 have HND7:=hid (HND6.out.but (by have:=HI6.out.lt;intro h;omega) hb3)
 have HG7:=hid (HG6.out.but hb3 (by have:=HLG.out;omega))
 have HV7:=hid HV5.out
 simp only [h1] at HV7
 have HLT7:=hid (must_len h1).1
 clear hb3 h1 hst3 HV5
 go_wp2_with (first | (go_at_call 96;fail))
 refine (HH.out n (Nat.le_refl _) r t4 _ (by have:=HN.out;have:=HLT.out;have:=HLT4.out;have:=HLT5.out;have:=HLT7.out;omega) HI7.out.st).mono ?_
 rintro e w8 ⟨hb2,⟨h1,rfl⟩ | ⟨b,t5,v,h1,rfl,hv,hst1⟩⟩
 ·have HB:=hid (And.intro hb2 h1)
  clear hb2 h1
  go_wp2
  exact ⟨rfl,HI7.out.bt.trans HB.out.1,.inl ⟨by rw [HV7.out,HB.out.2],rfl⟩⟩
 have HI8:=hid (HI7.out.but hb2 hst1)
 have HL07:=hid HI7.out.lt0
 have HG7l:=hid HG7.out.lt
 have HND8:=hid ((HND7.out.but (by have:=HI6.out.lt;intro h;omega) hb2).sub (B:=fun b=>w.heap.size≤b∧b≠w.heap.size) (fun b h _=>⟨h.1,h.2.1⟩))
 have HG8:=hid (HG7.out.but hb2 (by have:=HLG.out;omega))
 have HV8:=hid HV7.out
 simp only [h1] at HV8
 have HNE8:=hid (hv.sub (B:=fun b=>w.heap.size≤b∧b≠w.heap.size) (fun b h h0=>by have h1:=HI7.out.bt.size;have h2:=HL07.out;have h3:w7.heap.size≤b:=h;show _∧_;omega))
 obtain ⟨o2,n2,s2,x2,l2,c2,rfl⟩:=hv.agg
 clear hb2 h1 hv hst1 HV7
 go_wp2_with (first | (go_at_call 214;fail))
 have HI9:Hid (RI w r s ok w.heap.size t5 (w8.alloc (.cells #[.string o2,.float .f64 n2,.string s2,.slice x2 l2 c2] 87))):=hid (HI8.out.below ((Below.refl _ _).alloc (Nat.le_refl _) _))
 have HND9:=hid (HND8.out.below ((Below.refl _ _).alloc (Nat.le_refl _) (.cells #[.string o2,.float .f64 n2,.string s2,.slice x2 l2 c2] 87)))
 have HNE9:=hid (HNE8.out.below ((Below.refl _ _).alloc (Nat.le_refl _) (.cells #[.string o2,.float .f64 n2,.string s2,.slice x2 l2 c2] 87)))
 have HG9:=hid (HG8.out.below ((Below.refl _ _).alloc (Nat.le_refl _) (.cells #[.string o2,.float .f64 n2,.string s2,.slice x2 l2 c2] 87)))
 have HGB9:Hid (NB (w8.alloc (.cells #[.string o2,.float .f64 n2,.string s2,.slice x2 l2 c2] 87)) w8.heap.size (.agg #[.string o2,.float .f64 n2,.string s2,.slice x2 l2 c2])):=hid ⟨_,_,_,_,rfl,heap_alloc_new _ _⟩
 have HLG8:=hid (show r < w8.heap.size from HI8.out.st.lt)
 generalize w8.alloc (.cells #[.string o2,.float .f64 n2,.string s2,.slice x2 l2 c2] 87) = W9 at HI9 HND9 HNE9 HG9 HGB9 ⊢
 generalize w8.heap.size = g2 at HGB9 HLG8 ⊢
 refine (HM3.out t5 W9 HI9.out.st).mono ?_
 rintro e wA ⟨hb3,⟨h1,rfl⟩ | ⟨t6,h1,rfl,hst3⟩⟩
 ·have HB:=hid (And.intro hb3 h1)
  clear hb3 h1
  go_wp2
  exact ⟨rfl,HI9.out.bt.trans HB.out.1,.inl ⟨by rw [HV8.out,HB.out.2],rfl⟩⟩
 have HIA:=hid (HI9.out.but hb3 hst3)
 have HNDA:=hid (HND9.out.but (by have:=HI9.out.lt;intro h;omega) hb3)
 have HNEA:=hid (HNE9.out.but (by have:=HI9.out.lt;intro h;omega) hb3)
 have HGA:=HG9.out.but hb3 (by have:=HLG.out;omega)
 have HGBA:=HGB9.out.but hb3 (by have:=HLG8.out;omega)
 have HVA:=hid HV8.out
 simp only [h1] at HVA
 obtain ⟨a0,a1,a2,a3,_⟩:=HGA.cells
 obtain ⟨d0,d1,d2,d3,_⟩:=HGBA.cells
 clear hb3 h1 hst3 HV8 HGA HGBA
 go_wp2_with (first | (go_at_call 133;fail))
 refine (wpair (fun b=>w.heap.size≤b∧b≠w.heap.size) wh _ _ a b _ ?_ HNDA.out HNEA.out).mono ?_
 ·intro b hb;have h1:=HIA.out.lt0;have h2:=HIA.out.bt.size;show _∧_;omega
 rintro e wB ⟨vB,rfl,hvB,hbB⟩
 have HIB:=hid (HIA.out.below hbB)
 have HVB:=hid hvB
 obtain ⟨o3,n3,s3,x3,l3,c3,rfl⟩:=hvB.agg
 obtain ⟨z0,z1,z2,z3,hz⟩:=HIB.out.res
 have HZ:=hid hz
 obtain ⟨b0,b1,b2,b3,bf⟩:=hz.cells
 have f0:=bf 0
 have f1:=bf 1
 have f2:=bf 2
 have f3:=bf 3
 clear hz bf hvB hbB a0 a1 a2 a3 d0 d1 d2 d3
 go_wp2
 rw [HVA.out]
 refine bodyPost_ret (node_res rfl _ _ w.heap.size _ _ _ _ rfl HZ.out.put.heap) rfl (RI.done HIB.out ?_)
 exact HVB.out
end Go.Proofs.YtpcbamcelpcigaaGreat
namespace Go.Proofs.YtpcbamcelpcigaaGreat
open Go.RowKit Go.Shelf
open Ieee (double)
def pw (k:Nat):Nat:=[4607182418800017408,4621819117588971520,4636737291354636288,4652007308841189376,4666723172467343360,4681608360884174848,4696837146684686336].getD k 0
theorem pw_mul (k:Nat) (h:k < 6):double.mul (pw k) 4621819117588971520 = some (pw (k + 1)):=by
 match k,h with
 | 0,_=>decide +kernel
 | 1,_=>decide +kernel
 | 2,_=>decide +kernel
 | 3,_=>decide +kernel
 | 4,_=>decide +kernel
 | 5,_=>decide +kernel
theorem pw_ofI (k:Nat) (h:k≤6):ofI ((10 ^ k:Nat):Int) = pw k:=by
 match k,h with
 | 0,_=>decide +kernel
 | 1,_=>decide +kernel
 | 2,_=>decide +kernel
 | 3,_=>decide +kernel
 | 4,_=>decide +kernel
 | 5,_=>decide +kernel
 | 6,_=>decide +kernel
theorem pw_read (k:Nat) (h:k≤6):∃ m j,double.read (pw k) = .number false m j∧m≠0:=by
 match k,h with
 | 0,_=>exact ⟨2 ^ 52,-52,by decide +kernel,by decide⟩
 | 1,_=>exact ⟨5629499534213120,-49,by decide +kernel,by decide⟩
 | 2,_=>exact ⟨7036874417766400,-46,by decide +kernel,by decide⟩
 | 3,_=>exact ⟨8796093022208000,-43,by decide +kernel,by decide⟩
 | 4,_=>exact ⟨5497558138880000,-39,by decide +kernel,by decide⟩
 | 5,_=>exact ⟨6871947673600000,-36,by decide +kernel,by decide⟩
 | 6,_=>exact ⟨8589934592000000,-33,by decide +kernel,by decide⟩
def valV (l:Bs):Nat:=(double.div (ofI (valF l).1) (pw (valF l).2.1)).getD 0
theorem div_fin (x:Nat) (hx:finB x = true) (k:Nat) (hk:k≤6):∃ p,double.div x (pw k) = some p∧isNan p = false∧p < 2 ^ 64:=by
 obtain ⟨m,i,r,_,_⟩:=read_fin x (by simpa [finB] using hx)
 obtain ⟨n,j,q,hn⟩:=pw_read k hk
 unfold Ieee.Format.div
 rw [r,q]
 simp only [Ieee.Datum.quotient,hn,if_false,Option.map_some]
 exact ⟨_,rfl,nan_nearest _ _ _,lt_nearest _ _ _⟩
theorem valF_snoc (l:Bs) (c:UInt8):valF (l ++ [c]) = valStep (valF l) c:=by simp [valF]
theorem valF_bound (l : Bs) : ∀ (x : Nat × Nat × Bool) (B : Nat), x.1 < B → (∀ c ∈ l, c = 46 ∨ isDig c = true) → (l.foldl valStep x).1 < B * 10 ^ (l.filter (fun c => c != 46)).length := by
  induction l with
  | nil => intro x B h _; simpa using h
  | cons c t ih =>
    intro x B h hc
    rw [List.foldl_cons]
    have ht : ∀ c ∈ t, c = 46 ∨ isDig c = true := fun c h => hc c (by simp [h])
    by_cases h46 : c = 46
    · have e : valStep x c = (x.1, x.2.1, true) := by unfold valStep; rw [if_pos h46]
      rw [e, List.filter_cons_of_neg (by simp [h46])]
      exact ih _ B h ht
    · have hd : c.toNat - 48 ≤ 9 := by
        rcases hc c (by simp) with h1 | h1
        · exact absurd h1 h46
        · rw [digit_dec] at h1; simp at h1; omega
      have e : (valStep x c).1 = 10 * x.1 + (c.toNat - 48) := by unfold valStep; rw [if_neg h46]
      rw [List.filter_cons_of_pos (by simp [h46]), List.length_cons, Nat.pow_succ, Nat.mul_comm (10 ^ _) 10, ← Nat.mul_assoc]
      exact ih _ (B * 10) (by rw [e]; omega) ht
theorem valF_mono (l : Bs) : ∀ x : Nat × Nat × Bool, x.2.1 ≤ (l.foldl valStep x).2.1 := by
  induction l with
  | nil => intro x; exact Nat.le_refl _
  | cons c t ih =>
    intro x
    rw [List.foldl_cons]
    refine Nat.le_trans ?_ (ih _)
    unfold valStep
    split
    · exact Nat.le_refl _
    · simp only; split <;> omega
theorem numT_take {l:Bs} (h:NumT l) (j:Nat):(valF (l.take j)).1 < 10 ^ 15∧(valF (l.take j)).2.1≤6:=by
 obtain ⟨h1,h2,h3,_⟩:=h
 constructor
 ·have hb:=valF_bound (l.take j) (0,0,false) 1 (by decide) (fun c hc=>h1 c (List.mem_of_mem_take hc))
  rw [Nat.one_mul] at hb
  have hl:((l.take j).filter (fun c=>c != 46)).length≤15:=Nat.le_trans (List.Sublist.length_le (List.Sublist.filter _ (List.take_sublist j l))) h3
  exact Nat.lt_of_lt_of_le hb (Nat.pow_le_pow_right (by decide) hl)
 ·have:(valF (l.take j)).2.1≤(valF l).2.1:=by
   have e:valF l = (l.drop j).foldl valStep (valF (l.take j)):=by
    unfold valF
    rw [←List.foldl_append,List.take_append_drop]
   rw [e]
   exact valF_mono _ _
  omega
theorem take_snoc' (l:Bs) (j:Nat) (h:j < l.length):l.take (j + 1) = l.take j ++ [l.getD j 0]:=by
 rw [List.take_succ_eq_append_getElem h,List.getD_eq_getElem?_getD,List.getElem?_eq_getElem h]
 rfl
theorem valV_some {l:Bs} (h:NumT l):double.div (ofI (valF l).1) (pw (valF l).2.1) = some (valV l)∧isNan (valV l) = false∧valV l < 2 ^ 64:=by
 have hb:=numT_take h l.length
 rw [List.take_length] at hb
 obtain ⟨p,h1,h2,h3⟩:=div_fin (ofI (valF l).1) (ofI_fin _ (Nat.lt_of_lt_of_le hb.1 (by decide))) _ hb.2
 unfold valV
 rw [h1]
 exact ⟨rfl,h2,h3⟩
theorem wvalue (l:Bs) (h:NumT l) (w:World):Calls Tryz.prog 211 #[.string (tx l)] w fun e w'=>e = .returned (.float .f64 (valV l))∧w = w':=by
 have HS:=hid (tx_size' l)
 have HN:=hid h
 have HL:=hid h.2.2.2
 have HT:=hid (fun i (hi:i < l.length)=>tx_at l i hi)
 clear h
 go_enter Tryz.func211,Tryz.ntmps211
 go_wp2_with fail
 go_loop [3,4,5,6] (fun n b p i=>∃ j:Nat,j≤l.length∧i = .int .i64 j∧Hid (n = .int .i64 ((valF (l.take j)).1:Nat)∧b = .float .f64 (pw (valF (l.take j)).2.1)∧p = .bool (valF (l.take j)).2.2)) (fun _ _ _ i=>l.length - (intOf i).toNat)
 case atStart=>exact ⟨0,Nat.zero_le _,rfl,hid ⟨rfl,rfl,rfl⟩⟩
 case round=>
  obtain ⟨j,hj,rfl,hh⟩:=hrel
  obtain ⟨rfl,rfl,rfl⟩:=hh.out
  have hb:=numT_take HN.out j
  obtain ⟨N,hN⟩:∃ N,N = (valF (l.take j)).1:=⟨_,rfl⟩
  obtain ⟨K,hK⟩:∃ K,K = (valF (l.take j)).2.1:=⟨_,rfl⟩
  obtain ⟨B,hB⟩:∃ B,B = (valF (l.take j)).2.2:=⟨_,rfl⟩
  rw [←hN,←hK] at hb
  rw [←hN,←hK,←hB]
  have HV:=hid (show valF (l.take j) = (N,K,B) by rw [hN,hK,hB])
  have jl:j≤1000000:=by have:=HL.out;omega
  have n1:N < 1000000000000000:=by have:=hb.1;omega
  have HK:=hid hb.2
  clear hh hb hN hK hB
  by_cases q1:j < (tx l).size
  ·have q1':j < l.length:=by have:=HS.out;omega
   have HX:=hid (HT.out j q1')
   have HTS:=hid (take_snoc' l j q1')
   have HC:=hid (HN.out.1 (l.getD j 0) (by rw [List.getD_eq_getElem?_getD,List.getElem?_eq_getElem q1'];exact List.getElem_mem _))
   by_cases q2:l.getD j 0 = 46
   ·have z:(((tx l)[j]'q1).toNat:Int) = 46:=toNat_of (HX.out.trans q2)
    have HV2:Hid (valF (l.take (j + 1)) = (N,K,true)):=hid (by rw [HTS.out,valF_snoc,HV.out];unfold valStep;rw [if_pos q2])
    clear q2
    go_wp2
    go_round
    case rel=>exact ⟨j + 1,by omega,by go_num,hid (by rw [HV2.out];exact ⟨rfl,rfl,rfl⟩)⟩
    case measure=>simp [intOf];omega
   ·have z:¬ (((tx l)[j]'q1).toNat:Int) = 46:=ne_nat (c:=(tx l)[j]'q1) (v:=46) (by rw [HX.out];exact q2)
    have hd:isDig (l.getD j 0) = true:=by rcases HC.out with h | h;exact absurd h q2;exact h
    have hd2:48≤(((tx l)[j]'q1).toNat:Int)∧(((tx l)[j]'q1).toNat:Int)≤57:=by rw [HX.out];rw [digit_dec] at hd;simpa using hd
    obtain ⟨y1,y2⟩:=hd2
    have HV2:Hid (valF (l.take (j + 1)) = (10 * N + (((tx l)[j]'q1).toNat - 48),if B = true then K + 1 else K,B)):=hid (by rw [HTS.out,valF_snoc,HV.out,HX.out];unfold valStep;rw [if_neg q2])
    have HB2:=hid ((numT_take HN.out (j + 1)).2)
    rw [HV2.out] at HB2
    clear q2 hd
    cases B
    ·go_wp2
     go_round
     case rel=>exact ⟨j + 1,by omega,by go_num,hid (by rw [HV2.out];exact ⟨by go_num,rfl,rfl⟩)⟩
     case measure=>simp [intOf];omega
    ·have hm:∀ W,(binOp BinOp.mul 37 (.float .f64 (pw K)) (.float .f64 4621819117588971520)).run Tryz.prog W = .ok (.float .f64 (pw (K + 1))) W:=fun W=>run_float_arith W .mul 37 .f64 _ _ _ (pw_mul K (by have:=HB2.out;simp at this;omega))
     go_wp2
     go_round
     case rel=>exact ⟨j + 1,by omega,by go_num,hid (by rw [HV2.out];exact ⟨by go_num,rfl,rfl⟩)⟩
     case measure=>simp [intOf];omega
  ·have e:j = l.length:=by have:=HS.out;omega
   have hV:∀ W,(binOp BinOp.quo 37 (.float .f64 (floatOfInt .f64 (N:Int))) (.float .f64 (pw K))).run Tryz.prog W = .ok (.float .f64 (valV l)) W:=fun W=>run_float_arith W .quo 37 .f64 _ _ _ (by
    have h1:=(valV_some HN.out).1
    have h2:=HV.out
    rw [e,List.take_length] at h2
    rw [h2] at h1
    exact h1)
   clear e
   go_wp2
   go_ret
   exact ⟨rfl,rfl⟩
end Go.Proofs.YtpcbamcelpcigaaGreat
