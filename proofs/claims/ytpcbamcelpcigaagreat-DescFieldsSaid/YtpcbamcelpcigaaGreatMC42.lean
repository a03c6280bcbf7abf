/- Own texts, merged. -/
import Derived.WalkKit
import Derived.Test.YtpcbamcelpcigaaGreatMC41
import Derived.Test.YtpcbamcelpcigaaGreatMC00
set_option maxRecDepth 100000
set_option maxHeartbeats 32000000
open Go.Lib (hid)
namespace Go.Proofs.YtpcbamcelpcigaaGreat
open Go.RowKit Go.Shelf
theorem fields_any (f:Fld) (xo:Option Addr) (co:Nat) (xl:Option Addr) (cl:Nat) (v:Vle) (x:Option Addr) (c:Nat) (s:ByteArray) (k:Int) (w:World) (hA:FA w f xo co xl cl) (hI:IntV w (.slice x v.l.length c) v.l) (hf:v.f < 18446744073709551616) :
  Calls Tryz.prog 4 #[(f.fl xo co xl cl).v,v.v x c,.string s,.int .i64 k] w fun e w'=>e = .returned (.bool true)∧Below w.heap.size w w':=by
 have h:=fields_tx f xo co xl cl v x c s.data.toList k w hA hI hf
 rw [txE_of] at h
 exact h
end Go.Proofs.YtpcbamcelpcigaaGreat
