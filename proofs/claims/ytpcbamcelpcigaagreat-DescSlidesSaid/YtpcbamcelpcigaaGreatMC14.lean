/- Own texts, merged. -/
import Derived.WalkKit
import Derived.Laws.FloatArith
import Derived.Test.YtpcbamcelpcigaaGreatMC01
import Derived.Test.YtpcbamcelpcigaaGreatMC09
import Derived.Test.YtpcbamcelpcigaaGreatMC13
import Derived.Test.YtpcbamcelpcigaaGreatMC00
set_option maxRecDepth 100000
set_option maxHeartbeats 32000000
open Go.Lib (hid)
namespace Go.Proofs.YtpcbamcelpcigaaGreat
open Go.RowKit Go.Shelf
theorem opcases (op:Bs):(op = [110,117,109]∧((tx op).toList == [110,117,109]) = true∧((tx op).toList == [116,101,120,116]) = false∧((tx op).toList == [110,97,109,101]) = false∧((tx op).toList == [110,111,116]) = false∧((tx op).toList == [110,101,103]) = false∧((tx op).toList == [108,101,110]) = false∧((tx op).toList == [97,98,115]) = false∧((tx op).toList == [111,114]) = false∧((tx op).toList == [97,110,100]) = false∧((tx op).toList == [104,97,115]) = false∧((tx op).toList == [61]) = false∧((tx op).toList == [33,61]) = false∧((tx op).toList == [60]) = false∧((tx op).toList == [60,61]) = false∧((tx op).toList == [62]) = false∧((tx op).toList == [62,61]) = false∧((tx op).toList == [43]) = false∧((tx op).toList == [45]) = false∧((tx op).toList == [42]) = false∧((tx op).toList == [47]) = false)∨
  (op = [116,101,120,116]∧((tx op).toList == [110,117,109]) = false∧((tx op).toList == [116,101,120,116]) = true∧((tx op).toList == [110,97,109,101]) = false∧((tx op).toList == [110,111,116]) = false∧((tx op).toList == [110,101,103]) = false∧((tx op).toList == [108,101,110]) = false∧((tx op).toList == [97,98,115]) = false∧((tx op).toList == [111,114]) = false∧((tx op).toList == [97,110,100]) = false∧((tx op).toList == [104,97,115]) = false∧((tx op).toList == [61]) = false∧((tx op).toList == [33,61]) = false∧((tx op).toList == [60]) = false∧((tx op).toList == [60,61]) = false∧((tx op).toList == [62]) = false∧((tx op).toList == [62,61]) = false∧((tx op).toList == [43]) = false∧((tx op).toList == [45]) = false∧((tx op).toList == [42]) = false∧((tx op).toList == [47]) = false)∨
  (op = [110,97,109,101]∧((tx op).toList == [110,117,109]) = false∧((tx op).toList == [116,101,120,116]) = false∧((tx op).toList == [110,97,109,101]) = true∧((tx op).toList == [110,111,116]) = false∧((tx op).toList == [110,101,103]) = false∧((tx op).toList == [108,101,110]) = false∧((tx op).toList == [97,98,115]) = false∧((tx op).toList == [111,114]) = false∧((tx op).toList == [97,110,100]) = false∧((tx op).toList == [104,97,115]) = false∧((tx op).toList == [61]) = false∧((tx op).toList == [33,61]) = false∧((tx op).toList == [60]) = false∧((tx op).toList == [60,61]) = false∧((tx op).toList == [62]) = false∧((tx op).toList == [62,61]) = false∧((tx op).toList == [43]) = false∧((tx op).toList == [45]) = false∧((tx op).toList == [42]) = false∧((tx op).toList == [47]) = false)∨
  (op = [110,111,116]∧((tx op).toList == [110,117,109]) = false∧((tx op).toList == [116,101,120,116]) = false∧((tx op).toList == [110,97,109,101]) = false∧((tx op).toList == [110,111,116]) = true∧((tx op).toList == [110,101,103]) = false∧((tx op).toList == [108,101,110]) = false∧((tx op).toList == [97,98,115]) = false∧((tx op).toList == [111,114]) = false∧((tx op).toList == [97,110,100]) = false∧((tx op).toList == [104,97,115]) = false∧((tx op).toList == [61]) = false∧((tx op).toList == [33,61]) = false∧((tx op).toList == [60]) = false∧((tx op).toList == [60,61]) = false∧((tx op).toList == [62]) = false∧((tx op).toList == [62,61]) = false∧((tx op).toList == [43]) = false∧((tx op).toList == [45]) = false∧((tx op).toList == [42]) = false∧((tx op).toList == [47]) = false)∨
  (op = [110,101,103]∧((tx op).toList == [110,117,109]) = false∧((tx op).toList == [116,101,120,116]) = false∧((tx op).toList == [110,97,109,101]) = false∧((tx op).toList == [110,111,116]) = false∧((tx op).toList == [110,101,103]) = true∧((tx op).toList == [108,101,110]) = false∧((tx op).toList == [97,98,115]) = false∧((tx op).toList == [111,114]) = false∧((tx op).toList == [97,110,100]) = false∧((tx op).toList == [104,97,115]) = false∧((tx op).toList == [61]) = false∧((tx op).toList == [33,61]) = false∧((tx op).toList == [60]) = false∧((tx op).toList == [60,61]) = false∧((tx op).toList == [62]) = false∧((tx op).toList == [62,61]) = false∧((tx op).toList == [43]) = false∧((tx op).toList == [45]) = false∧((tx op).toList == [42]) = false∧((tx op).toList == [47]) = false)∨
  (op = [108,101,110]∧((tx op).toList == [110,117,109]) = false∧((tx op).toList == [116,101,120,116]) = false∧((tx op).toList == [110,97,109,101]) = false∧((tx op).toList == [110,111,116]) = false∧((tx op).toList == [110,101,103]) = false∧((tx op).toList == [108,101,110]) = true∧((tx op).toList == [97,98,115]) = false∧((tx op).toList == [111,114]) = false∧((tx op).toList == [97,110,100]) = false∧((tx op).toList == [104,97,115]) = false∧((tx op).toList == [61]) = false∧((tx op).toList == [33,61]) = false∧((tx op).toList == [60]) = false∧((tx op).toList == [60,61]) = false∧((tx op).toList == [62]) = false∧((tx op).toList == [62,61]) = false∧((tx op).toList == [43]) = false∧((tx op).toList == [45]) = false∧((tx op).toList == [42]) = false∧((tx op).toList == [47]) = false)∨
  (op = [97,98,115]∧((tx op).toList == [110,117,109]) = false∧((tx op).toList == [116,101,120,116]) = false∧((tx op).toList == [110,97,109,101]) = false∧((tx op).toList == [110,111,116]) = false∧((tx op).toList == [110,101,103]) = false∧((tx op).toList == [108,101,110]) = false∧((tx op).toList == [97,98,115]) = true∧((tx op).toList == [111,114]) = false∧((tx op).toList == [97,110,100]) = false∧((tx op).toList == [104,97,115]) = false∧((tx op).toList == [61]) = false∧((tx op).toList == [33,61]) = false∧((tx op).toList == [60]) = false∧((tx op).toList == [60,61]) = false∧((tx op).toList == [62]) = false∧((tx op).toList == [62,61]) = false∧((tx op).toList == [43]) = false∧((tx op).toList == [45]) = false∧((tx op).toList == [42]) = false∧((tx op).toList == [47]) = false)∨
  (op = [111,114]∧((tx op).toList == [110,117,109]) = false∧((tx op).toList == [116,101,120,116]) = false∧((tx op).toList == [110,97,109,101]) = false∧((tx op).toList == [110,111,116]) = false∧((tx op).toList == [110,101,103]) = false∧((tx op).toList == [108,101,110]) = false∧((tx op).toList == [97,98,115]) = false∧((tx op).toList == [111,114]) = true∧((tx op).toList == [97,110,100]) = false∧((tx op).toList == [104,97,115]) = false∧((tx op).toList == [61]) = false∧((tx op).toList == [33,61]) = false∧((tx op).toList == [60]) = false∧((tx op).toList == [60,61]) = false∧((tx op).toList == [62]) = false∧((tx op).toList == [62,61]) = false∧((tx op).toList == [43]) = false∧((tx op).toList == [45]) = false∧((tx op).toList == [42]) = false∧((tx op).toList == [47]) = false)∨
  (op = [97,110,100]∧((tx op).toList == [110,117,109]) = false∧((tx op).toList == [116,101,120,116]) = false∧((tx op).toList == [110,97,109,101]) = false∧((tx op).toList == [110,111,116]) = false∧((tx op).toList == [110,101,103]) = false∧((tx op).toList == [108,101,110]) = false∧((tx op).toList == [97,98,115]) = false∧((tx op).toList == [111,114]) = false∧((tx op).toList == [97,110,100]) = true∧((tx op).toList == [104,97,115]) = false∧((tx op).toList == [61]) = false∧((tx op).toList == [33,61]) = false∧((tx op).toList == [60]) = false∧((tx op).toList == [60,61]) = false∧((tx op).toList == [62]) = false∧((tx op).toList == [62,61]) = false∧((tx op).toList == [43]) = false∧((tx op).toList == [45]) = false∧((tx op).toList == [42]) = false∧((tx op).toList == [47]) = false)∨
  (op = [104,97,115]∧((tx op).toList == [110,117,109]) = false∧((tx op).toList == [116,101,120,116]) = false∧((tx op).toList == [110,97,109,101]) = false∧((tx op).toList == [110,111,116]) = false∧((tx op).toList == [110,101,103]) = false∧((tx op).toList == [108,101,110]) = false∧((tx op).toList == [97,98,115]) = false∧((tx op).toList == [111,114]) = false∧((tx op).toList == [97,110,100]) = false∧((tx op).toList == [104,97,115]) = true∧((tx op).toList == [61]) = false∧((tx op).toList == [33,61]) = false∧((tx op).toList == [60]) = false∧((tx op).toList == [60,61]) = false∧((tx op).toList == [62]) = false∧((tx op).toList == [62,61]) = false∧((tx op).toList == [43]) = false∧((tx op).toList == [45]) = false∧((tx op).toList == [42]) = false∧((tx op).toList == [47]) = false)∨
  (op = [61]∧((tx op).toList == [110,117,109]) = false∧((tx op).toList == [116,101,120,116]) = false∧((tx op).toList == [110,97,109,101]) = false∧((tx op).toList == [110,111,116]) = false∧((tx op).toList == [110,101,103]) = false∧((tx op).toList == [108,101,110]) = false∧((tx op).toList == [97,98,115]) = false∧((tx op).toList == [111,114]) = false∧((tx op).toList == [97,110,100]) = false∧((tx op).toList == [104,97,115]) = false∧((tx op).toList == [61]) = true∧((tx op).toList == [33,61]) = false∧((tx op).toList == [60]) = false∧((tx op).toList == [60,61]) = false∧((tx op).toList == [62]) = false∧((tx op).toList == [62,61]) = false∧((tx op).toList == [43]) = false∧((tx op).toList == [45]) = false∧((tx op).toList == [42]) = false∧((tx op).toList == [47]) = false)∨
  (op = [33,61]∧((tx op).toList == [110,117,109]) = false∧((tx op).toList == [116,101,120,116]) = false∧((tx op).toList == [110,97,109,101]) = false∧((tx op).toList == [110,111,116]) = false∧((tx op).toList == [110,101,103]) = false∧((tx op).toList == [108,101,110]) = false∧((tx op).toList == [97,98,115]) = false∧((tx op).toList == [111,114]) = false∧((tx op).toList == [97,110,100]) = false∧((tx op).toList == [104,97,115]) = false∧((tx op).toList == [61]) = false∧((tx op).toList == [33,61]) = true∧((tx op).toList == [60]) = false∧((tx op).toList == [60,61]) = false∧((tx op).toList == [62]) = false∧((tx op).toList == [62,61]) = false∧((tx op).toList == [43]) = false∧((tx op).toList == [45]) = false∧((tx op).toList == [42]) = false∧((tx op).toList == [47]) = false)∨
  (op = [60]∧((tx op).toList == [110,117,109]) = false∧((tx op).toList == [116,101,120,116]) = false∧((tx op).toList == [110,97,109,101]) = false∧((tx op).toList == [110,111,116]) = false∧((tx op).toList == [110,101,103]) = false∧((tx op).toList == [108,101,110]) = false∧((tx op).toList == [97,98,115]) = false∧((tx op).toList == [111,114]) = false∧((tx op).toList == [97,110,100]) = false∧((tx op).toList == [104,97,115]) = false∧((tx op).toList == [61]) = false∧((tx op).toList == [33,61]) = false∧((tx op).toList == [60]) = true∧((tx op).toList == [60,61]) = false∧((tx op).toList == [62]) = false∧((tx op).toList == [62,61]) = false∧((tx op).toList == [43]) = false∧((tx op).toList == [45]) = false∧((tx op).toList == [42]) = false∧((tx op).toList == [47]) = false)∨
  (op = [60,61]∧((tx op).toList == [110,117,109]) = false∧((tx op).toList == [116,101,120,116]) = false∧((tx op).toList == [110,97,109,101]) = false∧((tx op).toList == [110,111,116]) = false∧((tx op).toList == [110,101,103]) = false∧((tx op).toList == [108,101,110]) = false∧((tx op).toList == [97,98,115]) = false∧((tx op).toList == [111,114]) = false∧((tx op).toList == [97,110,100]) = false∧((tx op).toList == [104,97,115]) = false∧((tx op).toList == [61]) = false∧((tx op).toList == [33,61]) = false∧((tx op).toList == [60]) = false∧((tx op).toList == [60,61]) = true∧((tx op).toList == [62]) = false∧((tx op).toList == [62,61]) = false∧((tx op).toList == [43]) = false∧((tx op).toList == [45]) = false∧((tx op).toList == [42]) = false∧((tx op).toList == [47]) = false)∨
  (op = [62]∧((tx op).toList == [110,117,109]) = false∧((tx op).toList == [116,101,120,116]) = false∧((tx op).toList == [110,97,109,101]) = false∧((tx op).toList == [110,111,116]) = false∧((tx op).toList == [110,101,103]) = false∧((tx op).toList == [108,101,110]) = false∧((tx op).toList == [97,98,115]) = false∧((tx op).toList == [111,114]) = false∧((tx op).toList == [97,110,100]) = false∧((tx op).toList == [104,97,115]) = false∧((tx op).toList == [61]) = false∧((tx op).toList == [33,61]) = false∧((tx op).toList == [60]) = false∧((tx op).toList == [60,61]) = false∧((tx op).toList == [62]) = true∧((tx op).toList == [62,61]) = false∧((tx op).toList == [43]) = false∧((tx op).toList == [45]) = false∧((tx op).toList == [42]) = false∧((tx op).toList == [47]) = false)∨
  (op = [62,61]∧((tx op).toList == [110,117,109]) = false∧((tx op).toList == [116,101,120,116]) = false∧((tx op).toList == [110,97,109,101]) = false∧((tx op).toList == [110,111,116]) = false∧((tx op).toList == [110,101,103]) = false∧((tx op).toList == [108,101,110]) = false∧((tx op).toList == [97,98,115]) = false∧((tx op).toList == [111,114]) = false∧((tx op).toList == [97,110,100]) = false∧((tx op).toList == [104,97,115]) = false∧((tx op).toList == [61]) = false∧((tx op).toList == [33,61]) = false∧((tx op).toList == [60]) = false∧((tx op).toList == [60,61]) = false∧((tx op).toList == [62]) = false∧((tx op).toList == [62,61]) = true∧((tx op).toList == [43]) = false∧((tx op).toList == [45]) = false∧((tx op).toList == [42]) = false∧((tx op).toList == [47]) = false)∨
  (op = [43]∧((tx op).toList == [110,117,109]) = false∧((tx op).toList == [116,101,120,116]) = false∧((tx op).toList == [110,97,109,101]) = false∧((tx op).toList == [110,111,116]) = false∧((tx op).toList == [110,101,103]) = false∧((tx op).toList == [108,101,110]) = false∧((tx op).toList == [97,98,115]) = false∧((tx op).toList == [111,114]) = false∧((tx op).toList == [97,110,100]) = false∧((tx op).toList == [104,97,115]) = false∧((tx op).toList == [61]) = false∧((tx op).toList == [33,61]) = false∧((tx op).toList == [60]) = false∧((tx op).toList == [60,61]) = false∧((tx op).toList == [62]) = false∧((tx op).toList == [62,61]) = false∧((tx op).toList == [43]) = true∧((tx op).toList == [45]) = false∧((tx op).toList == [42]) = false∧((tx op).toList == [47]) = false)∨
  (op = [45]∧((tx op).toList == [110,117,109]) = false∧((tx op).toList == [116,101,120,116]) = false∧((tx op).toList == [110,97,109,101]) = false∧((tx op).toList == [110,111,116]) = false∧((tx op).toList == [110,101,103]) = false∧((tx op).toList == [108,101,110]) = false∧((tx op).toList == [97,98,115]) = false∧((tx op).toList == [111,114]) = false∧((tx op).toList == [97,110,100]) = false∧((tx op).toList == [104,97,115]) = false∧((tx op).toList == [61]) = false∧((tx op).toList == [33,61]) = false∧((tx op).toList == [60]) = false∧((tx op).toList == [60,61]) = false∧((tx op).toList == [62]) = false∧((tx op).toList == [62,61]) = false∧((tx op).toList == [43]) = false∧((tx op).toList == [45]) = true∧((tx op).toList == [42]) = false∧((tx op).toList == [47]) = false)∨
  (op = [42]∧((tx op).toList == [110,117,109]) = false∧((tx op).toList == [116,101,120,116]) = false∧((tx op).toList == [110,97,109,101]) = false∧((tx op).toList == [110,111,116]) = false∧((tx op).toList == [110,101,103]) = false∧((tx op).toList == [108,101,110]) = false∧((tx op).toList == [97,98,115]) = false∧((tx op).toList == [111,114]) = false∧((tx op).toList == [97,110,100]) = false∧((tx op).toList == [104,97,115]) = false∧((tx op).toList == [61]) = false∧((tx op).toList == [33,61]) = false∧((tx op).toList == [60]) = false∧((tx op).toList == [60,61]) = false∧((tx op).toList == [62]) = false∧((tx op).toList == [62,61]) = false∧((tx op).toList == [43]) = false∧((tx op).toList == [45]) = false∧((tx op).toList == [42]) = true∧((tx op).toList == [47]) = false)∨
  (op = [47]∧((tx op).toList == [110,117,109]) = false∧((tx op).toList == [116,101,120,116]) = false∧((tx op).toList == [110,97,109,101]) = false∧((tx op).toList == [110,111,116]) = false∧((tx op).toList == [110,101,103]) = false∧((tx op).toList == [108,101,110]) = false∧((tx op).toList == [97,98,115]) = false∧((tx op).toList == [111,114]) = false∧((tx op).toList == [97,110,100]) = false∧((tx op).toList == [104,97,115]) = false∧((tx op).toList == [61]) = false∧((tx op).toList == [33,61]) = false∧((tx op).toList == [60]) = false∧((tx op).toList == [60,61]) = false∧((tx op).toList == [62]) = false∧((tx op).toList == [62,61]) = false∧((tx op).toList == [43]) = false∧((tx op).toList == [45]) = false∧((tx op).toList == [42]) = false∧((tx op).toList == [47]) = true)∨
  ((op≠[110,117,109]∧op≠[116,101,120,116]∧op≠[110,97,109,101]∧op≠[110,111,116]∧op≠[110,101,103]∧op≠[108,101,110]∧op≠[97,98,115]∧op≠[111,114]∧op≠[97,110,100]∧op≠[104,97,115]∧op≠[61]∧op≠[33,61]∧op≠[60]∧op≠[60,61]∧op≠[62]∧op≠[62,61]∧op≠[43]∧op≠[45]∧op≠[42]∧op≠[47])∧((tx op).toList == [110,117,109]) = false∧((tx op).toList == [116,101,120,116]) = false∧((tx op).toList == [110,97,109,101]) = false∧((tx op).toList == [110,111,116]) = false∧((tx op).toList == [110,101,103]) = false∧((tx op).toList == [108,101,110]) = false∧((tx op).toList == [97,98,115]) = false∧((tx op).toList == [111,114]) = false∧((tx op).toList == [97,110,100]) = false∧((tx op).toList == [104,97,115]) = false∧((tx op).toList == [61]) = false∧((tx op).toList == [33,61]) = false∧((tx op).toList == [60]) = false∧((tx op).toList == [60,61]) = false∧((tx op).toList == [62]) = false∧((tx op).toList == [62,61]) = false∧((tx op).toList == [43]) = false∧((tx op).toList == [45]) = false∧((tx op).toList == [42]) = false∧((tx op).toList == [47]) = false):=by
 by_cases q0:op = [110,117,109]
 ·subst q0
  exact .inl (⟨rfl,tx_same _,tx_ne (by decide),tx_ne (by decide),tx_ne (by decide),tx_ne (by decide),tx_ne (by decide),tx_ne (by decide),tx_ne (by decide),tx_ne (by decide),tx_ne (by decide),tx_ne (by decide),tx_ne (by decide),tx_ne (by decide),tx_ne (by decide),tx_ne (by decide),tx_ne (by decide),tx_ne (by decide),tx_ne (by decide),tx_ne (by decide),tx_ne (by decide)⟩)
 by_cases q1:op = [116,101,120,116]
 ·subst q1
  exact .inr (.inl (⟨rfl,tx_ne (by decide),tx_same _,tx_ne (by decide),tx_ne (by decide),tx_ne (by decide),tx_ne (by decide),tx_ne (by decide),tx_ne (by decide),tx_ne (by decide),tx_ne (by decide),tx_ne (by decide),tx_ne (by decide),tx_ne (by decide),tx_ne (by decide),tx_ne (by decide),tx_ne (by decide),tx_ne (by decide),tx_ne (by decide),tx_ne (by decide),tx_ne (by decide)⟩))
 by_cases q2:op = [110,97,109,101]
 ·subst q2
  exact .inr (.inr (.inl (⟨rfl,tx_ne (by decide),tx_ne (by decide),tx_same _,tx_ne (by decide),tx_ne (by decide),tx_ne (by decide),tx_ne (by decide),tx_ne (by decide),tx_ne (by decide),tx_ne (by decide),tx_ne (by decide),tx_ne (by decide),tx_ne (by decide),tx_ne (by decide),tx_ne (by decide),tx_ne (by decide),tx_ne (by decide),tx_ne (by decide),tx_ne (by decide),tx_ne (by decide)⟩)))
 by_cases q3:op = [110,111,116]
 ·subst q3
  exact .inr (.inr (.inr (.inl (⟨rfl,tx_ne (by decide),tx_ne (by decide),tx_ne (by decide),tx_same _,tx_ne (by decide),tx_ne (by decide),tx_ne (by decide),tx_ne (by decide),tx_ne (by decide),tx_ne (by decide),tx_ne (by decide),tx_ne (by decide),tx_ne (by decide),tx_ne (by decide),tx_ne (by decide),tx_ne (by decide),tx_ne (by decide),tx_ne (by decide),tx_ne (by decide),tx_ne (by decide)⟩))))
 by_cases q4:op = [110,101,103]
 ·subst q4
  exact .inr (.inr (.inr (.inr (.inl (⟨rfl,tx_ne (by decide),tx_ne (by decide),tx_ne (by decide),tx_ne (by decide),tx_same _,tx_ne (by decide),tx_ne (by decide),tx_ne (by decide),tx_ne (by decide),tx_ne (by decide),tx_ne (by decide),tx_ne (by decide),tx_ne (by decide),tx_ne (by decide),tx_ne (by decide),tx_ne (by decide),tx_ne (by decide),tx_ne (by decide),tx_ne (by decide),tx_ne (by decide)⟩)))))
 by_cases q5:op = [108,101,110]
 ·subst q5
  exact .inr (.inr (.inr (.inr (.inr (.inl (⟨rfl,tx_ne (by decide),tx_ne (by decide),tx_ne (by decide),tx_ne (by decide),tx_ne (by decide),tx_same _,tx_ne (by decide),tx_ne (by decide),tx_ne (by decide),tx_ne (by decide),tx_ne (by decide),tx_ne (by decide),tx_ne (by decide),tx_ne (by decide),tx_ne (by decide),tx_ne (by decide),tx_ne (by decide),tx_ne (by decide),tx_ne (by decide),tx_ne (by decide)⟩))))))
 by_cases q6:op = [97,98,115]
 ·subst q6
  exact .inr (.inr (.inr (.inr (.inr (.inr (.inl (⟨rfl,tx_ne (by decide),tx_ne (by decide),tx_ne (by decide),tx_ne (by decide),tx_ne (by decide),tx_ne (by decide),tx_same _,tx_ne (by decide),tx_ne (by decide),tx_ne (by decide),tx_ne (by decide),tx_ne (by decide),tx_ne (by decide),tx_ne (by decide),tx_ne (by decide),tx_ne (by decide),tx_ne (by decide),tx_ne (by decide),tx_ne (by decide),tx_ne (by decide)⟩)))))))
 by_cases q7:op = [111,114]
 ·subst q7
  exact .inr (.inr (.inr (.inr (.inr (.inr (.inr (.inl (⟨rfl,tx_ne (by decide),tx_ne (by decide),tx_ne (by decide),tx_ne (by decide),tx_ne (by decide),tx_ne (by decide),tx_ne (by decide),tx_same _,tx_ne (by decide),tx_ne (by decide),tx_ne (by decide),tx_ne (by decide),tx_ne (by decide),tx_ne (by decide),tx_ne (by decide),tx_ne (by decide),tx_ne (by decide),tx_ne (by decide),tx_ne (by decide),tx_ne (by decide)⟩))))))))
 by_cases q8:op = [97,110,100]
 ·subst q8
  exact .inr (.inr (.inr (.inr (.inr (.inr (.inr (.inr (.inl (⟨rfl,tx_ne (by decide),tx_ne (by decide),tx_ne (by decide),tx_ne (by decide),tx_ne (by decide),tx_ne (by decide),tx_ne (by decide),tx_ne (by decide),tx_same _,tx_ne (by decide),tx_ne (by decide),tx_ne (by decide),tx_ne (by decide),tx_ne (by decide),tx_ne (by decide),tx_ne (by decide),tx_ne (by decide),tx_ne (by decide),tx_ne (by decide),tx_ne (by decide)⟩)))))))))
 by_cases q9:op = [104,97,115]
 ·subst q9
  exact .inr (.inr (.inr (.inr (.inr (.inr (.inr (.inr (.inr (.inl (⟨rfl,tx_ne (by decide),tx_ne (by decide),tx_ne (by decide),tx_ne (by decide),tx_ne (by decide),tx_ne (by decide),tx_ne (by decide),tx_ne (by decide),tx_ne (by decide),tx_same _,tx_ne (by decide),tx_ne (by decide),tx_ne (by decide),tx_ne (by decide),tx_ne (by decide),tx_ne (by decide),tx_ne (by decide),tx_ne (by decide),tx_ne (by decide),tx_ne (by decide)⟩))))))))))
 by_cases q10:op = [61]
 ·subst q10
  exact .inr (.inr (.inr (.inr (.inr (.inr (.inr (.inr (.inr (.inr (.inl (⟨rfl,tx_ne (by decide),tx_ne (by decide),tx_ne (by decide),tx_ne (by decide),tx_ne (by decide),tx_ne (by decide),tx_ne (by decide),tx_ne (by decide),tx_ne (by decide),tx_ne (by decide),tx_same _,tx_ne (by decide),tx_ne (by decide),tx_ne (by decide),tx_ne (by decide),tx_ne (by decide),tx_ne (by decide),tx_ne (by decide),tx_ne (by decide),tx_ne (by decide)⟩)))))))))))
 by_cases q11:op = [33,61]
 ·subst q11
  exact .inr (.inr (.inr (.inr (.inr (.inr (.inr (.inr (.inr (.inr (.inr (.inl (⟨rfl,tx_ne (by decide),tx_ne (by decide),tx_ne (by decide),tx_ne (by decide),tx_ne (by decide),tx_ne (by decide),tx_ne (by decide),tx_ne (by decide),tx_ne (by decide),tx_ne (by decide),tx_ne (by decide),tx_same _,tx_ne (by decide),tx_ne (by decide),tx_ne (by decide),tx_ne (by decide),tx_ne (by decide),tx_ne (by decide),tx_ne (by decide),tx_ne (by decide)⟩))))))))))))
 by_cases q12:op = [60]
 ·subst q12
  exact .inr (.inr (.inr (.inr (.inr (.inr (.inr (.inr (.inr (.inr (.inr (.inr (.inl (⟨rfl,tx_ne (by decide),tx_ne (by decide),tx_ne (by decide),tx_ne (by decide),tx_ne (by decide),tx_ne (by decide),tx_ne (by decide),tx_ne (by decide),tx_ne (by decide),tx_ne (by decide),tx_ne (by decide),tx_ne (by decide),tx_same _,tx_ne (by decide),tx_ne (by decide),tx_ne (by decide),tx_ne (by decide),tx_ne (by decide),tx_ne (by decide),tx_ne (by decide)⟩)))))))))))))
 by_cases q13:op = [60,61]
 ·subst q13
  exact .inr (.inr (.inr (.inr (.inr (.inr (.inr (.inr (.inr (.inr (.inr (.inr (.inr (.inl (⟨rfl,tx_ne (by decide),tx_ne (by decide),tx_ne (by decide),tx_ne (by decide),tx_ne (by decide),tx_ne (by decide),tx_ne (by decide),tx_ne (by decide),tx_ne (by decide),tx_ne (by decide),tx_ne (by decide),tx_ne (by decide),tx_ne (by decide),tx_same _,tx_ne (by decide),tx_ne (by decide),tx_ne (by decide),tx_ne (by decide),tx_ne (by decide),tx_ne (by decide)⟩))))))))))))))
 by_cases q14:op = [62]
 ·subst q14
  exact .inr (.inr (.inr (.inr (.inr (.inr (.inr (.inr (.inr (.inr (.inr (.inr (.inr (.inr (.inl (⟨rfl,tx_ne (by decide),tx_ne (by decide),tx_ne (by decide),tx_ne (by decide),tx_ne (by decide),tx_ne (by decide),tx_ne (by decide),tx_ne (by decide),tx_ne (by decide),tx_ne (by decide),tx_ne (by decide),tx_ne (by decide),tx_ne (by decide),tx_ne (by decide),tx_same _,tx_ne (by decide),tx_ne (by decide),tx_ne (by decide),tx_ne (by decide),tx_ne (by decide)⟩)))))))))))))))
 by_cases q15:op = [62,61]
 ·subst q15
  exact .inr (.inr (.inr (.inr (.inr (.inr (.inr (.inr (.inr (.inr (.inr (.inr (.inr (.inr (.inr (.inl (⟨rfl,tx_ne (by decide),tx_ne (by decide),tx_ne (by decide),tx_ne (by decide),tx_ne (by decide),tx_ne (by decide),tx_ne (by decide),tx_ne (by decide),tx_ne (by decide),tx_ne (by decide),tx_ne (by decide),tx_ne (by decide),tx_ne (by decide),tx_ne (by decide),tx_ne (by decide),tx_same _,tx_ne (by decide),tx_ne (by decide),tx_ne (by decide),tx_ne (by decide)⟩))))))))))))))))
 by_cases q16:op = [43]
 ·subst q16
  exact .inr (.inr (.inr (.inr (.inr (.inr (.inr (.inr (.inr (.inr (.inr (.inr (.inr (.inr (.inr (.inr (.inl (⟨rfl,tx_ne (by decide),tx_ne (by decide),tx_ne (by decide),tx_ne (by decide),tx_ne (by decide),tx_ne (by decide),tx_ne (by decide),tx_ne (by decide),tx_ne (by decide),tx_ne (by decide),tx_ne (by decide),tx_ne (by decide),tx_ne (by decide),tx_ne (by decide),tx_ne (by decide),tx_ne (by decide),tx_same _,tx_ne (by decide),tx_ne (by decide),tx_ne (by decide)⟩)))))))))))))))))
 by_cases q17:op = [45]
 ·subst q17
  exact .inr (.inr (.inr (.inr (.inr (.inr (.inr (.inr (.inr (.inr (.inr (.inr (.inr (.inr (.inr (.inr (.inr (.inl (⟨rfl,tx_ne (by decide),tx_ne (by decide),tx_ne (by decide),tx_ne (by decide),tx_ne (by decide),tx_ne (by decide),tx_ne (by decide),tx_ne (by decide),tx_ne (by decide),tx_ne (by decide),tx_ne (by decide),tx_ne (by decide),tx_ne (by decide),tx_ne (by decide),tx_ne (by decide),tx_ne (by decide),tx_ne (by decide),tx_same _,tx_ne (by decide),tx_ne (by decide)⟩))))))))))))))))))
 by_cases q18:op = [42]
 ·subst q18
  exact .inr (.inr (.inr (.inr (.inr (.inr (.inr (.inr (.inr (.inr (.inr (.inr (.inr (.inr (.inr (.inr (.inr (.inr (.inl (⟨rfl,tx_ne (by decide),tx_ne (by decide),tx_ne (by decide),tx_ne (by decide),tx_ne (by decide),tx_ne (by decide),tx_ne (by decide),tx_ne (by decide),tx_ne (by decide),tx_ne (by decide),tx_ne (by decide),tx_ne (by decide),tx_ne (by decide),tx_ne (by decide),tx_ne (by decide),tx_ne (by decide),tx_ne (by decide),tx_ne (by decide),tx_same _,tx_ne (by decide)⟩)))))))))))))))))))
 by_cases q19:op = [47]
 ·subst q19
  exact .inr (.inr (.inr (.inr (.inr (.inr (.inr (.inr (.inr (.inr (.inr (.inr (.inr (.inr (.inr (.inr (.inr (.inr (.inr (.inl (⟨rfl,tx_ne (by decide),tx_ne (by decide),tx_ne (by decide),tx_ne (by decide),tx_ne (by decide),tx_ne (by decide),tx_ne (by decide),tx_ne (by decide),tx_ne (by decide),tx_ne (by decide),tx_ne (by decide),tx_ne (by decide),tx_ne (by decide),tx_ne (by decide),tx_ne (by decide),tx_ne (by decide),tx_ne (by decide),tx_ne (by decide),tx_ne (by decide),tx_same _⟩))))))))))))))))))))
 exact .inr (.inr (.inr (.inr (.inr (.inr (.inr (.inr (.inr (.inr (.inr (.inr (.inr (.inr (.inr (.inr (.inr (.inr (.inr (.inr (⟨⟨q0,q1,q2,q3,q4,q5,q6,q7,q8,q9,q10,q11,q12,q13,q14,q15,q16,q17,q18,q19⟩,tx_ne q0,tx_ne q1,tx_ne q2,tx_ne q3,tx_ne q4,tx_ne q5,tx_ne q6,tx_ne q7,tx_ne q8,tx_ne q9,tx_ne q10,tx_ne q11,tx_ne q12,tx_ne q13,tx_ne q14,tx_ne q15,tx_ne q16,tx_ne q17,tx_ne q18,tx_ne q19⟩))))))))))))))))))))
end Go.Proofs.YtpcbamcelpcigaaGreat
namespace Go.Proofs.YtpcbamcelpcigaaGreat
open Go.RowKit Go.Shelf
attribute [local go_sem] run_store_float
theorem takes_none {op:Bs} (h:op≠[110,117,109]∧op≠[116,101,120,116]∧op≠[110,97,109,101]∧op≠[110,111,116]∧op≠[110,101,103]∧op≠[108,101,110]∧op≠[97,98,115]∧op≠[111,114]∧op≠[97,110,100]∧op≠[104,97,115]∧op≠[61]∧op≠[33,61]∧op≠[60]∧op≠[60,61]∧op≠[62]∧op≠[62,61]∧op≠[43]∧op≠[45]∧op≠[42]∧op≠[47]):takesT op = none:=by
 simp [takesT,isCmp,wnum,wtext,wname,wnot,wneg,wlen,wabs,wor,wand,whas,wplus,wminus,wtimes,wover,h]
theorem made_else {op:Bs} (l:List Nat) (h:op≠[110,117,109]∧op≠[116,101,120,116]∧op≠[110,97,109,101]∧op≠[110,111,116]∧op≠[110,101,103]∧op≠[108,101,110]∧op≠[97,98,115]∧op≠[111,114]∧op≠[97,110,100]∧op≠[104,97,115]∧op≠[61]∧op≠[33,61]∧op≠[60]∧op≠[60,61]∧op≠[62]∧op≠[62,61]∧op≠[43]∧op≠[45]∧op≠[42]∧op≠[47]):madeT op l = giv 3 (allT 3 l):=by
 simp [madeT,wplus,wminus,wtimes,wover,wneg,wabs,wlen,wlt,wle,wgt,wge,weq,wne,whas,h]
theorem warity (op:Bs) (w:World):Calls Tryz.prog 134 #[.string (tx op)] w fun e w'=>e = .returned (.tuple #[.int .i64 ((takesT op).getD 0:Nat),.bool (takesT op).isSome])∧w = w':=by
 rcases opcases op with ⟨ho,b0,b1,b2,b3,b4,b5,b6,b7,b8,b9,b10,b11,b12,b13,b14,b15,b16,b17,b18,b19⟩ | ⟨ho,b0,b1,b2,b3,b4,b5,b6,b7,b8,b9,b10,b11,b12,b13,b14,b15,b16,b17,b18,b19⟩ | ⟨ho,b0,b1,b2,b3,b4,b5,b6,b7,b8,b9,b10,b11,b12,b13,b14,b15,b16,b17,b18,b19⟩ | ⟨ho,b0,b1,b2,b3,b4,b5,b6,b7,b8,b9,b10,b11,b12,b13,b14,b15,b16,b17,b18,b19⟩ | ⟨ho,b0,b1,b2,b3,b4,b5,b6,b7,b8,b9,b10,b11,b12,b13,b14,b15,b16,b17,b18,b19⟩ | ⟨ho,b0,b1,b2,b3,b4,b5,b6,b7,b8,b9,b10,b11,b12,b13,b14,b15,b16,b17,b18,b19⟩ | ⟨ho,b0,b1,b2,b3,b4,b5,b6,b7,b8,b9,b10,b11,b12,b13,b14,b15,b16,b17,b18,b19⟩ | ⟨ho,b0,b1,b2,b3,b4,b5,b6,b7,b8,b9,b10,b11,b12,b13,b14,b15,b16,b17,b18,b19⟩ | ⟨ho,b0,b1,b2,b3,b4,b5,b6,b7,b8,b9,b10,b11,b12,b13,b14,b15,b16,b17,b18,b19⟩ | ⟨ho,b0,b1,b2,b3,b4,b5,b6,b7,b8,b9,b10,b11,b12,b13,b14,b15,b16,b17,b18,b19⟩ | ⟨ho,b0,b1,b2,b3,b4,b5,b6,b7,b8,b9,b10,b11,b12,b13,b14,b15,b16,b17,b18,b19⟩ | ⟨ho,b0,b1,b2,b3,b4,b5,b6,b7,b8,b9,b10,b11,b12,b13,b14,b15,b16,b17,b18,b19⟩ | ⟨ho,b0,b1,b2,b3,b4,b5,b6,b7,b8,b9,b10,b11,b12,b13,b14,b15,b16,b17,b18,b19⟩ | ⟨ho,b0,b1,b2,b3,b4,b5,b6,b7,b8,b9,b10,b11,b12,b13,b14,b15,b16,b17,b18,b19⟩ | ⟨ho,b0,b1,b2,b3,b4,b5,b6,b7,b8,b9,b10,b11,b12,b13,b14,b15,b16,b17,b18,b19⟩ | ⟨ho,b0,b1,b2,b3,b4,b5,b6,b7,b8,b9,b10,b11,b12,b13,b14,b15,b16,b17,b18,b19⟩ | ⟨ho,b0,b1,b2,b3,b4,b5,b6,b7,b8,b9,b10,b11,b12,b13,b14,b15,b16,b17,b18,b19⟩ | ⟨ho,b0,b1,b2,b3,b4,b5,b6,b7,b8,b9,b10,b11,b12,b13,b14,b15,b16,b17,b18,b19⟩ | ⟨ho,b0,b1,b2,b3,b4,b5,b6,b7,b8,b9,b10,b11,b12,b13,b14,b15,b16,b17,b18,b19⟩ | ⟨ho,b0,b1,b2,b3,b4,b5,b6,b7,b8,b9,b10,b11,b12,b13,b14,b15,b16,b17,b18,b19⟩ | ⟨ho,b0,b1,b2,b3,b4,b5,b6,b7,b8,b9,b10,b11,b12,b13,b14,b15,b16,b17,b18,b19⟩
 all_goals
  first
   | (have hT:takesT op = some 0:=(by subst ho;decide);rw [hT];clear ho hT)
   | (have hT:takesT op = some 1:=(by subst ho;decide);rw [hT];clear ho hT)
   | (have hT:takesT op = some 2:=(by subst ho;decide);rw [hT];clear ho hT)
   | (rw [takes_none ho];clear ho)
  generalize tx op = T at *
  go_enter Tryz.func134,Tryz.ntmps134
  go_wp2
  go_ret2
  exact ⟨rfl,rfl⟩
theorem wgiven (k:Nat) (c:Bool) (w:World):Calls Tryz.prog 135 #[.int .i64 k,.bool c] w fun e w'=>e = .returned (.int .i64 (giv k c:Nat))∧w = w':=by
 cases c
 ·go_enter Tryz.func135,Tryz.ntmps135
  go_wp2
  go_ret
  exact ⟨rfl,rfl⟩
 ·go_enter Tryz.func135,Tryz.ntmps135
  go_wp2
  go_ret
  exact ⟨rfl,rfl⟩
def TyV (w:World) (v:Value) (L:List Nat):Prop:=∃ x cap,v = .slice x L.length cap∧L.length≤cap∧(x = none→L = [])∧∀ a,x = some a→∀ i t,L[i]? = some t→w.cell? (a.add i) = some (.int .i64 (t:Nat))
theorem wallT (v:Value) (L:List Nat) (k:Nat) (hL:L.length≤1000000) (w:World) (h:TyV w v L):Calls Tryz.prog 136 #[v,.int .i64 k] w fun e w'=>e = .returned (.bool (allT k L))∧w = w':=by
 obtain ⟨x,cap,rfl,hcap,hx,hc⟩:=h
 have HC:=hid hc
 have HX:=hid hx
 obtain ⟨N,hN⟩:∃ N,N = L.length:=⟨_,rfl⟩
 have HN:=hid hN
 rw [←hN] at hL hcap ⊢
 clear hc hx hN
 go_enter Tryz.func136,Tryz.ntmps136
 go_wp2_with fail
 go_loopg [9] N (fun gh i wr=>∃ j:Nat,j + gh = N∧i = .int .i64 j∧Hid (∀ i,i < j→L.getD i 0 = k)∧w = wr)
 case atStart=>exact ⟨0,by omega,rfl,hid (fun i h=>by omega),rfl⟩
 case round=>
  obtain ⟨j,hj,rfl,HA,rfl⟩:=hrel
  by_cases q:j < N
  ·have hjl:j < L.length:=by have:=HN.out;omega
   obtain ⟨a,rfl⟩:∃ a,x = some a:=by
    cases x with
    | none=>have:=HX.out rfl;rw [this] at hjl;cases hjl
    | some a=>exact ⟨a,rfl⟩
   have c0:=HC.out a rfl j L[j] (List.getElem?_eq_getElem hjl)
   have HG:Hid (L.getD j 0 = L[j]):=hid (by rw [List.getD_eq_getElem?_getD,List.getElem?_eq_getElem hjl];rfl)
   by_cases q2:L[j] = k
   ·have HA2:Hid (∀ i,i < j + 1→L.getD i 0 = k):=hid (fun i hi=>by
     by_cases e:i = j
     ·rw [e,HG.out,q2]
     ·exact HA.out i (by omega))
    rw [q2] at c0
    clear q2 HG
    go_wp2
    go_roundg (gk - 1)
    case measure=>omega
    case rel=>exact ⟨j + 1,by omega,by go_num,HA2,rfl⟩
   ·have HF:Hid (allT k L = false):=hid (by
     unfold allT
     rw [List.all_eq_false]
     exact ⟨L[j],List.getElem_mem hjl,by simpa using q2⟩)
    have q3:¬ ((L[j]:Nat):Int) = (k:Int):=by omega
    clear HG
    generalize L[j] = t at c0 q2 q3
    go_wp2
    go_ret
    exact ⟨ret_bool HF.out.symm,rfl⟩
  ·have HT:Hid (allT k L = true):=hid (by
    unfold allT
    rw [List.all_eq_true]
    intro t ht
    obtain ⟨i,hi,rfl⟩:=List.getElem_of_mem ht
    have:=HA.out i (by have:=HN.out;omega)
    rw [List.getD_eq_getElem?_getD,List.getElem?_eq_getElem hi] at this
    simpa using this)
   go_wp2
   go_ret
   exact ⟨ret_bool HT.out.symm,rfl⟩
end Go.Proofs.YtpcbamcelpcigaaGreat
namespace Go.Proofs.YtpcbamcelpcigaaGreat
open Go.RowKit Ieee
def nanB (x y:Nat) (W:World):Nat:=(Question.nanBits .f64 x y).cut (W.tape W.drawn (.nanBits .f64 x y))
theorem nanB_nan (x y:Nat) (W:World):isNan (nanB x y W) = true:=by
 have key:∀ t,isNan ((t % 2) * 2 ^ 63 + 0x7ff0000000000000 + 1 + (t / 2) % (2 ^ 52 - 1)) = true:=fun t=>by
  have e1:(2:Nat) ^ 63 = 9223372036854775808:=by decide
  have e2:(2:Nat) ^ 52 = 4503599627370496:=by decide
  unfold isNan rung
  rw [e1,e2]
  have h2:(t / 2) % (4503599627370496 - 1) < 4503599627370495:=Nat.mod_lt _ (by decide)
  generalize (t / 2) % (4503599627370496 - 1) = q at h2 ⊢
  have h1:t % 2 < 2:=Nat.mod_lt _ (by decide)
  generalize t % 2 = p at h1 ⊢
  exact decide_eq_true (by omega)
 exact key _
theorem run_float_nan (P:Program) (w:World) (op:BinOp) (hop:op = .add∨op = .sub∨op = .mul∨op = .quo) (t:TypeId) (x y:Nat) (h:floatBits op .f64 x y = none):(binOp op t (.float .f64 x) (.float .f64 y)).run P w = .ok (.float .f64 (nanB x y w)) w.drew:=by
 unfold floatBits at h
 rcases hop with rfl | rfl | rfl | rfl <;> simp only at h
 all_goals simp [binOp,Op.floatArith,h,choose,nanB];rfl
theorem nan_read {x:Nat} (h:isNan x = true):∃ s f,double.read x = .nan s f:=by
 obtain ⟨f,hf⟩:=read_nan x (by simpa [isNan] using h)
 exact ⟨_,f,hf⟩
theorem bits_nan (op:BinOp) (x y:Nat) (h:isNan x = true∨isNan y = true):floatBits op .f64 x y = none:=by
 have k1:∀ d,(Datum.nan true 0).sum d = none:=fun d=>by cases d <;> rfl
 have hx:∀ s f d,(Datum.nan s f).sum d = none∧(Datum.nan s f).product d = none∧∀ k,(Datum.nan s f).quotient k d = none:=fun s f d=>by cases d <;> exact ⟨rfl,rfl,fun _=>rfl⟩
 have hy:∀ s f d,(d:Datum).sum (Datum.nan s f) = none∧d.product (Datum.nan s f) = none∧∀ k,d.quotient k (Datum.nan s f) = none:=fun s f d=>by cases d <;> exact ⟨rfl,rfl,fun _=>rfl⟩
 have hd:FloatKind.f64.format = double:=rfl
 unfold floatBits
 rw [hd]
 rcases h with h | h
 ·obtain ⟨s,f,hr⟩:=nan_read h
  cases op <;> simp only [Format.add,Format.sub,Format.mul,Format.div,hr] <;> first | rfl | (rw [(hx s f _).1];rfl) | (rw [(hx s f _).2.1];rfl) | (rw [(hx s f _).2.2];rfl)
 ·obtain ⟨s,f,hr⟩:=nan_read h
  cases op <;> simp only [Format.add,Format.sub,Format.mul,Format.div,hr,Datum.opposite] <;> first | rfl | (rw [(hy _ _ _).1];rfl) | (rw [(hy _ _ _).2.1];rfl) | (rw [(hy _ _ _).2.2];rfl)
end Go.Proofs.YtpcbamcelpcigaaGreat
