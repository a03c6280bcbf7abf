/- Own texts, merged. -/
import Derived.WalkKit
import Derived.Deep.RegionHeld3
import Derived.Deep.Cut
import Derived.Test.YtpcbamcelpcigaaGreatMC12
import Derived.Test.YtpcbamcelpcigaaGreatMC30
import Derived.Test.YtpcbamcelpcigaaGreatMC34
import Derived.Test.YtpcbamcelpcigaaGreatMC35
import Derived.Test.YtpcbamcelpcigaaGreatMC00
set_option maxRecDepth 100000
set_option maxHeartbeats 32000000
open Go.Lib (hid)
namespace Go.Proofs.YtpcbamcelpcigaaGreat
open Go.RowKit Go.Shelf
attribute [local go_sem] run_store_float
theorem zeq_test (x:Nat):(FloatKind.f64.format.order x 0 == some .eq) = zF x:=by
 have h:=zf_test x
 rw [bne] at h
 cases q:(FloatKind.f64.format.order x 0 == some .eq)
 ·rw [q] at h;revert h;cases zF x <;> simp
 ·rw [q] at h;revert h;cases zF x <;> simp
theorem ronly (k:Int) (v:Vle) (x:Option Addr) (c:Nat) (w:World):Calls Tryz.prog 61 #[.int .i64 k,v.v x c] w fun e w'=>e = .returned (.bool (onlyP k v))∧Below w.heap.size w w':=by
 obtain ⟨vs,vn,vb,vl,vf⟩:=v
 obtain ⟨R,hR⟩:∃ R,R = onlyP k ⟨vs,vn,vb,vl,vf⟩:=⟨_,rfl⟩
 rw [←hR]
 unfold onlyP at hR
 simp only at hR
 unfold Vle.v dvlV
 simp only
 have he:=isEmpty_tx vs
 have hz:=zeq_test vf
 rw [show decide (vl = []) = decide (vl.length = 0) from by rw [decide_eq_decide,List.length_eq_zero_iff]] at hR
 generalize decide (vs = []) = a1 at he hR
 generalize zF vf = a5 at hz hR
 generalize tx vs = s at he ⊢
 generalize vl.length = nl at hR ⊢
 obtain ⟨B1,hB1⟩:∃ W1,W1 = w.alloc (.cells #[.string s,.int .i64 vn,.bool vb,.slice x nl c,.float .f64 vf] 40):=⟨_,rfl⟩
 have HBL:Hid (Below w.heap.size w B1):=hid (by rw [hB1];exact (Below.refl _ _).alloc (Nat.le_refl _) _)
 have HVB:Hid (VLB B1 w.heap.size s vn vb x nl c vf):=hid (by rw [hB1];exact heap_alloc_new _ _)
 obtain ⟨d0,d1,d2,d3,d4⟩:=HVB.out.cells
 have hlv:=HVB.out.lt
 have HP:=hid hR
 clear hR
 rcases kind_all k with rfl | rfl | rfl | rfl | rfl | rfl | rfl | rfl | rfl | hk
 case inl=>
  go_enter Tryz.func61,Tryz.ntmps61
  go_upto_region 3 with (fail)
  rw [←hB1]
  clear hB1
  by_cases hn:vn = 0
  case neg=>
   have hn2:(vn == 0) = false:=by simpa using hn
   rw [decide_eq_false hn] at HP
   have HR:Hid (R = false):=hid (by rw [HP.out];rfl)
   clear HP HVB
   go_wp2
   go_ret
   exact ⟨ret_bool HR.out.symm,HBL.out⟩
  case pos=>
   rw [decide_eq_true hn] at HP
   subst hn
   cases vb
   case true=>
    have HR:Hid (R = false):=hid (by rw [HP.out];rfl)
    clear HP HVB
    go_wp2
    go_ret
    exact ⟨ret_bool HR.out.symm,HBL.out⟩
   case false=>
    by_cases hl:nl = 0
    case neg=>
     have hl2:((nl:Int) == 0) = false:=by simpa using (show ¬ ((nl:Int) = 0) by omega)
     have hl3:(nl == 0) = false:=by simpa using hl
     rw [decide_eq_false hl] at HP
     have HR:Hid (R = false):=hid (by rw [HP.out];rfl)
     clear HP HVB
     go_wp2
     go_ret
     exact ⟨ret_bool HR.out.symm,HBL.out⟩
    case pos=>
     rw [decide_eq_true hl] at HP
     subst hl
     cases a5
     ·skip
      have HR:Hid (R = false):=hid (by rw [HP.out];rfl)
      clear HP HVB
      go_wp2
      go_ret
      exact ⟨ret_bool HR.out.symm,HBL.out⟩
     ·skip
      have HR:Hid (R = true):=hid (by rw [HP.out];rfl)
      clear HP HVB
      go_wp2
      go_ret
      exact ⟨ret_bool HR.out.symm,HBL.out⟩
 case inr.inl=>
  go_enter Tryz.func61,Tryz.ntmps61
  go_upto_region 3 with (fail)
  rw [←hB1]
  clear hB1
  by_cases hn:vn = 0
  case neg=>
   have hn2:(vn == 0) = false:=by simpa using hn
   rw [decide_eq_false hn] at HP
   have HR:Hid (R = false):=hid (by rw [HP.out];rfl)
   clear HP HVB
   go_wp2
   go_ret
   exact ⟨ret_bool HR.out.symm,HBL.out⟩
  case pos=>
   rw [decide_eq_true hn] at HP
   subst hn
   cases vb
   case true=>
    have HR:Hid (R = false):=hid (by rw [HP.out];rfl)
    clear HP HVB
    go_wp2
    go_ret
    exact ⟨ret_bool HR.out.symm,HBL.out⟩
   case false=>
    by_cases hl:nl = 0
    case neg=>
     have hl2:((nl:Int) == 0) = false:=by simpa using (show ¬ ((nl:Int) = 0) by omega)
     have hl3:(nl == 0) = false:=by simpa using hl
     rw [decide_eq_false hl] at HP
     have HR:Hid (R = false):=hid (by rw [HP.out];rfl)
     clear HP HVB
     go_wp2
     go_ret
     exact ⟨ret_bool HR.out.symm,HBL.out⟩
    case pos=>
     rw [decide_eq_true hl] at HP
     subst hl
     cases a5
     ·skip
      have HR:Hid (R = false):=hid (by rw [HP.out];rfl)
      clear HP HVB
      go_wp2
      go_ret
      exact ⟨ret_bool HR.out.symm,HBL.out⟩
     ·skip
      have HR:Hid (R = true):=hid (by rw [HP.out];rfl)
      clear HP HVB
      go_wp2
      go_ret
      exact ⟨ret_bool HR.out.symm,HBL.out⟩
 case inr.inr.inl=>
  go_enter Tryz.func61,Tryz.ntmps61
  go_upto_region 3 with (fail)
  rw [←hB1]
  clear hB1
  cases a1
  ·skip
   have HR:Hid (R = false):=hid (by rw [HP.out];rfl)
   clear HP HVB
   go_wp2
   go_ret
   exact ⟨ret_bool HR.out.symm,HBL.out⟩
  ·skip
   cases vb
   case true=>
    have HR:Hid (R = false):=hid (by rw [HP.out];rfl)
    clear HP HVB
    go_wp2
    go_ret
    exact ⟨ret_bool HR.out.symm,HBL.out⟩
   case false=>
    by_cases hl:nl = 0
    case neg=>
     have hl2:((nl:Int) == 0) = false:=by simpa using (show ¬ ((nl:Int) = 0) by omega)
     have hl3:(nl == 0) = false:=by simpa using hl
     rw [decide_eq_false hl] at HP
     have HR:Hid (R = false):=hid (by rw [HP.out];rfl)
     clear HP HVB
     go_wp2
     go_ret
     exact ⟨ret_bool HR.out.symm,HBL.out⟩
    case pos=>
     rw [decide_eq_true hl] at HP
     subst hl
     cases a5
     ·skip
      have HR:Hid (R = false):=hid (by rw [HP.out];rfl)
      clear HP HVB
      go_wp2
      go_ret
      exact ⟨ret_bool HR.out.symm,HBL.out⟩
     ·skip
      have HR:Hid (R = true):=hid (by rw [HP.out];rfl)
      clear HP HVB
      go_wp2
      go_ret
      exact ⟨ret_bool HR.out.symm,HBL.out⟩
 case inr.inr.inr.inl=>
  go_enter Tryz.func61,Tryz.ntmps61
  go_upto_region 3 with (fail)
  rw [←hB1]
  clear hB1
  by_cases hn:vn = 0
  case neg=>
   have hn2:(vn == 0) = false:=by simpa using hn
   rw [decide_eq_false hn] at HP
   have HR:Hid (R = false):=hid (by rw [HP.out];rfl)
   clear HP HVB
   go_wp2
   go_ret
   exact ⟨ret_bool HR.out.symm,HBL.out⟩
  case pos=>
   rw [decide_eq_true hn] at HP
   subst hn
   cases vb
   case true=>
    have HR:Hid (R = false):=hid (by rw [HP.out];rfl)
    clear HP HVB
    go_wp2
    go_ret
    exact ⟨ret_bool HR.out.symm,HBL.out⟩
   case false=>
    by_cases hl:nl = 0
    case neg=>
     have hl2:((nl:Int) == 0) = false:=by simpa using (show ¬ ((nl:Int) = 0) by omega)
     have hl3:(nl == 0) = false:=by simpa using hl
     rw [decide_eq_false hl] at HP
     have HR:Hid (R = false):=hid (by rw [HP.out];rfl)
     clear HP HVB
     go_wp2
     go_ret
     exact ⟨ret_bool HR.out.symm,HBL.out⟩
    case pos=>
     rw [decide_eq_true hl] at HP
     subst hl
     cases a5
     ·skip
      have HR:Hid (R = false):=hid (by rw [HP.out];rfl)
      clear HP HVB
      go_wp2
      go_ret
      exact ⟨ret_bool HR.out.symm,HBL.out⟩
     ·skip
      have HR:Hid (R = true):=hid (by rw [HP.out];rfl)
      clear HP HVB
      go_wp2
      go_ret
      exact ⟨ret_bool HR.out.symm,HBL.out⟩
 case inr.inr.inr.inr.inl=>
  go_enter Tryz.func61,Tryz.ntmps61
  go_upto_region 3 with (fail)
  rw [←hB1]
  clear hB1
  cases a1
  ·skip
   have HR:Hid (R = false):=hid (by rw [HP.out];rfl)
   clear HP HVB
   go_wp2
   go_ret
   exact ⟨ret_bool HR.out.symm,HBL.out⟩
  ·skip
   by_cases hn:vn = 0
   case neg=>
    have hn2:(vn == 0) = false:=by simpa using hn
    rw [decide_eq_false hn] at HP
    have HR:Hid (R = false):=hid (by rw [HP.out];rfl)
    clear HP HVB
    go_wp2
    go_ret
    exact ⟨ret_bool HR.out.symm,HBL.out⟩
   case pos=>
    rw [decide_eq_true hn] at HP
    subst hn
    by_cases hl:nl = 0
    case neg=>
     have hl2:((nl:Int) == 0) = false:=by simpa using (show ¬ ((nl:Int) = 0) by omega)
     have hl3:(nl == 0) = false:=by simpa using hl
     rw [decide_eq_false hl] at HP
     have HR:Hid (R = false):=hid (by rw [HP.out];rfl)
     clear HP HVB
     go_wp2
     go_ret
     exact ⟨ret_bool HR.out.symm,HBL.out⟩
    case pos=>
     rw [decide_eq_true hl] at HP
     subst hl
     cases a5
     ·skip
      have HR:Hid (R = false):=hid (by rw [HP.out];rfl)
      clear HP HVB
      go_wp2
      go_ret
      exact ⟨ret_bool HR.out.symm,HBL.out⟩
     ·skip
      have HR:Hid (R = true):=hid (by rw [HP.out];rfl)
      clear HP HVB
      go_wp2
      go_ret
      exact ⟨ret_bool HR.out.symm,HBL.out⟩
 case inr.inr.inr.inr.inr.inl=>
  go_enter Tryz.func61,Tryz.ntmps61
  go_upto_region 3 with (fail)
  rw [←hB1]
  clear hB1
  cases a1
  ·skip
   have HR:Hid (R = false):=hid (by rw [HP.out];rfl)
   clear HP HVB
   go_wp2
   go_ret
   exact ⟨ret_bool HR.out.symm,HBL.out⟩
  ·skip
   cases vb
   case true=>
    have HR:Hid (R = false):=hid (by rw [HP.out];rfl)
    clear HP HVB
    go_wp2
    go_ret
    exact ⟨ret_bool HR.out.symm,HBL.out⟩
   case false=>
    by_cases hl:nl = 0
    case neg=>
     have hl2:((nl:Int) == 0) = false:=by simpa using (show ¬ ((nl:Int) = 0) by omega)
     have hl3:(nl == 0) = false:=by simpa using hl
     rw [decide_eq_false hl] at HP
     have HR:Hid (R = false):=hid (by rw [HP.out];rfl)
     clear HP HVB
     go_wp2
     go_ret
     exact ⟨ret_bool HR.out.symm,HBL.out⟩
    case pos=>
     rw [decide_eq_true hl] at HP
     subst hl
     cases a5
     ·skip
      have HR:Hid (R = false):=hid (by rw [HP.out];rfl)
      clear HP HVB
      go_wp2
      go_ret
      exact ⟨ret_bool HR.out.symm,HBL.out⟩
     ·skip
      have HR:Hid (R = true):=hid (by rw [HP.out];rfl)
      clear HP HVB
      go_wp2
      go_ret
      exact ⟨ret_bool HR.out.symm,HBL.out⟩
 case inr.inr.inr.inr.inr.inr.inl=>
  go_enter Tryz.func61,Tryz.ntmps61
  go_upto_region 3 with (fail)
  rw [←hB1]
  clear hB1
  cases a1
  ·skip
   have HR:Hid (R = false):=hid (by rw [HP.out];rfl)
   clear HP HVB
   go_wp2
   go_ret
   exact ⟨ret_bool HR.out.symm,HBL.out⟩
  ·skip
   by_cases hn:vn = 0
   case neg=>
    have hn2:(vn == 0) = false:=by simpa using hn
    rw [decide_eq_false hn] at HP
    have HR:Hid (R = false):=hid (by rw [HP.out];rfl)
    clear HP HVB
    go_wp2
    go_ret
    exact ⟨ret_bool HR.out.symm,HBL.out⟩
   case pos=>
    rw [decide_eq_true hn] at HP
    subst hn
    cases vb
    case true=>
     have HR:Hid (R = false):=hid (by rw [HP.out];rfl)
     clear HP HVB
     go_wp2
     go_ret
     exact ⟨ret_bool HR.out.symm,HBL.out⟩
    case false=>
     cases a5
     ·skip
      have HR:Hid (R = false):=hid (by rw [HP.out];rfl)
      clear HP HVB
      go_wp2
      go_ret
      exact ⟨ret_bool HR.out.symm,HBL.out⟩
     ·skip
      have HR:Hid (R = true):=hid (by rw [HP.out];rfl)
      clear HP HVB
      go_wp2
      go_ret
      exact ⟨ret_bool HR.out.symm,HBL.out⟩
 case inr.inr.inr.inr.inr.inr.inr.inl=>
  go_enter Tryz.func61,Tryz.ntmps61
  go_upto_region 3 with (fail)
  rw [←hB1]
  clear hB1
  cases a1
  ·skip
   have HR:Hid (R = false):=hid (by rw [HP.out];rfl)
   clear HP HVB
   go_wp2
   go_ret
   exact ⟨ret_bool HR.out.symm,HBL.out⟩
  ·skip
   cases vb
   case true=>
    have HR:Hid (R = false):=hid (by rw [HP.out];rfl)
    clear HP HVB
    go_wp2
    go_ret
    exact ⟨ret_bool HR.out.symm,HBL.out⟩
   case false=>
    by_cases hl:nl = 0
    case neg=>
     have hl2:((nl:Int) == 0) = false:=by simpa using (show ¬ ((nl:Int) = 0) by omega)
     have hl3:(nl == 0) = false:=by simpa using hl
     rw [decide_eq_false hl] at HP
     have HR:Hid (R = false):=hid (by rw [HP.out];rfl)
     clear HP HVB
     go_wp2
     go_ret
     exact ⟨ret_bool HR.out.symm,HBL.out⟩
    case pos=>
     rw [decide_eq_true hl] at HP
     subst hl
     cases a5
     ·skip
      have HR:Hid (R = false):=hid (by rw [HP.out];rfl)
      clear HP HVB
      go_wp2
      go_ret
      exact ⟨ret_bool HR.out.symm,HBL.out⟩
     ·skip
      have HR:Hid (R = true):=hid (by rw [HP.out];rfl)
      clear HP HVB
      go_wp2
      go_ret
      exact ⟨ret_bool HR.out.symm,HBL.out⟩
 case inr.inr.inr.inr.inr.inr.inr.inr.inl=>
  go_enter Tryz.func61,Tryz.ntmps61
  go_upto_region 3 with (fail)
  rw [←hB1]
  clear hB1
  cases a1
  ·skip
   have HR:Hid (R = false):=hid (by rw [HP.out];rfl)
   clear HP HVB
   go_wp2
   go_ret
   exact ⟨ret_bool HR.out.symm,HBL.out⟩
  ·skip
   by_cases hn:vn = 0
   case neg=>
    have hn2:(vn == 0) = false:=by simpa using hn
    rw [decide_eq_false hn] at HP
    have HR:Hid (R = false):=hid (by rw [HP.out];rfl)
    clear HP HVB
    go_wp2
    go_ret
    exact ⟨ret_bool HR.out.symm,HBL.out⟩
   case pos=>
    rw [decide_eq_true hn] at HP
    subst hn
    cases vb
    case true=>
     have HR:Hid (R = false):=hid (by rw [HP.out];rfl)
     clear HP HVB
     go_wp2
     go_ret
     exact ⟨ret_bool HR.out.symm,HBL.out⟩
    case false=>
     by_cases hl:nl = 0
     case neg=>
      have hl2:((nl:Int) == 0) = false:=by simpa using (show ¬ ((nl:Int) = 0) by omega)
      have hl3:(nl == 0) = false:=by simpa using hl
      rw [decide_eq_false hl] at HP
      have HR:Hid (R = false):=hid (by rw [HP.out];rfl)
      clear HP HVB
      go_wp2
      go_ret
      exact ⟨ret_bool HR.out.symm,HBL.out⟩
     case pos=>
      rw [decide_eq_true hl] at HP
      subst hl
      have HR:Hid (R = true):=hid (by rw [HP.out];rfl)
      clear HP HVB
      go_wp2
      go_ret
      exact ⟨ret_bool HR.out.symm,HBL.out⟩
 case inr.inr.inr.inr.inr.inr.inr.inr.inr=>
  obtain ⟨h1,h2,h3,h4,h5,h6,h7,h8,h9⟩:=hk
  rw [decide_eq_false (fun e=>by rcases e with e | e | e;exact h1 e;exact h2 e;exact h4 e),decide_eq_false (fun e=>by rcases e with e | e | e;exact h3 e;exact h6 e;exact h8 e),decide_eq_false h5,decide_eq_false h7,decide_eq_false h9] at HP
  obtain ⟨b1,b2,b3,b4,b5,b6,b7,b8,b9⟩:=no_kind ⟨h1,h2,h3,h4,h5,h6,h7,h8,h9⟩
  clear h1 h2 h3 h4 h5 h6 h7 h8 h9
  go_enter Tryz.func61,Tryz.ntmps61
  go_upto_region 3 with (fail)
  rw [←hB1]
  clear hB1
  cases a1
  ·skip
   have HR:Hid (R = false):=hid (by rw [HP.out];rfl)
   clear HP HVB
   go_wp2
   go_ret
   exact ⟨ret_bool HR.out.symm,HBL.out⟩
  ·skip
   by_cases hn:vn = 0
   case neg=>
    have hn2:(vn == 0) = false:=by simpa using hn
    rw [decide_eq_false hn] at HP
    have HR:Hid (R = false):=hid (by rw [HP.out];rfl)
    clear HP HVB
    go_wp2
    go_ret
    exact ⟨ret_bool HR.out.symm,HBL.out⟩
   case pos=>
    rw [decide_eq_true hn] at HP
    subst hn
    cases vb
    case true=>
     have HR:Hid (R = false):=hid (by rw [HP.out];rfl)
     clear HP HVB
     go_wp2
     go_ret
     exact ⟨ret_bool HR.out.symm,HBL.out⟩
    case false=>
     by_cases hl:nl = 0
     case neg=>
      have hl2:((nl:Int) == 0) = false:=by simpa using (show ¬ ((nl:Int) = 0) by omega)
      have hl3:(nl == 0) = false:=by simpa using hl
      rw [decide_eq_false hl] at HP
      have HR:Hid (R = false):=hid (by rw [HP.out];rfl)
      clear HP HVB
      go_wp2
      go_ret
      exact ⟨ret_bool HR.out.symm,HBL.out⟩
     case pos=>
      rw [decide_eq_true hl] at HP
      subst hl
      cases a5
      ·skip
       have HR:Hid (R = false):=hid (by rw [HP.out];rfl)
       clear HP HVB
       go_wp2
       go_ret
       exact ⟨ret_bool HR.out.symm,HBL.out⟩
      ·skip
       have HR:Hid (R = true):=hid (by rw [HP.out];rfl)
       clear HP HVB
       go_wp2
       go_ret
       exact ⟨ret_bool HR.out.symm,HBL.out⟩
theorem leap_casesR (y:Int) :
  (decide (1≤y) = false∧leapZ y = false)∨
  (decide (1≤y) = true∧decide (y≤9999) = false∧leapZ y = false)∨
  (decide (1≤y) = true∧decide (y≤9999) = true∧(y.tmod 4 = y % 4∧y.tmod 100 = y % 100∧y.tmod 400 = y % 400)∧(y % 4 == 0) = false∧leapZ y = false)∨
  (decide (1≤y) = true∧decide (y≤9999) = true∧(y.tmod 4 = y % 4∧y.tmod 100 = y % 100∧y.tmod 400 = y % 400)∧(y % 4 == 0) = true∧(y % 100 != 0) = true∧leapZ y = true)∨
  (decide (1≤y) = true∧decide (y≤9999) = true∧(y.tmod 4 = y % 4∧y.tmod 100 = y % 100∧y.tmod 400 = y % 400)∧(y % 4 == 0) = true∧(y % 100 != 0) = false∧(y % 400 == 0) = true∧leapZ y = true)∨
  (decide (1≤y) = true∧decide (y≤9999) = true∧(y.tmod 4 = y % 4∧y.tmod 100 = y % 100∧y.tmod 400 = y % 400)∧(y % 4 == 0) = true∧(y % 100 != 0) = false∧(y % 400 == 0) = false∧leapZ y = false):=by
 have h1:decide (1≤y) = !decide (y < 1):=by by_cases h:y < 1 <;> simp [h] <;> omega
 have h2:decide (y≤9999) = !decide (9999 < y):=by by_cases h:9999 < y <;> simp [h] <;> omega
 have h3:(y % 4 == 0) = !(y % 4 != 0):=by rw [bne,Bool.not_not]
 rw [h1,h2,h3]
 rcases leap_cases y with ⟨b1,hl⟩ | ⟨b1,b2,hl⟩ | ⟨b1,b2,e,b4,hl⟩ | ⟨b1,b2,e,b4,b5,hl⟩ | ⟨b1,b2,e,b4,b5,b6,hl⟩ | ⟨b1,b2,e,b4,b5,b6,hl⟩
 ·exact .inl ⟨by rw [b1];rfl,hl⟩
 ·exact .inr (.inl ⟨by rw [b1];rfl,by rw [b2];rfl,hl⟩)
 ·exact .inr (.inr (.inl ⟨by rw [b1];rfl,by rw [b2];rfl,e,by rw [b4];rfl,hl⟩))
 ·exact .inr (.inr (.inr (.inl ⟨by rw [b1];rfl,by rw [b2];rfl,e,by rw [b4];rfl,b5,hl⟩)))
 ·exact .inr (.inr (.inr (.inr (.inl ⟨by rw [b1];rfl,by rw [b2];rfl,e,by rw [b4];rfl,b5,b6,hl⟩))))
 ·exact .inr (.inr (.inr (.inr (.inr ⟨by rw [b1];rfl,by rw [b2];rfl,e,by rw [b4];rfl,b5,b6,hl⟩))))
theorem rLeap (y:Int) (w:World):Calls Tryz.prog 174 #[.int .i64 y] w fun e w'=>e = .returned (.bool (leapZ y))∧w = w':=by
 rcases leap_casesR y with ⟨b1,hl⟩ | ⟨b1,b2,hl⟩ | ⟨b1,b2,⟨e1,e2,e3⟩,b4,hl⟩ | ⟨b1,b2,⟨e1,e2,e3⟩,b4,b5,hl⟩ | ⟨b1,b2,⟨e1,e2,e3⟩,b4,b5,b6,hl⟩ | ⟨b1,b2,⟨e1,e2,e3⟩,b4,b5,b6,hl⟩
 all_goals
  rw [hl]
  clear hl
  go_enter Tryz.func174,Tryz.ntmps174
  go_wp2
  go_ret
  exact ⟨rfl,rfl⟩
theorem rDays (y m:Int) (w:World):Calls Tryz.prog 149 #[.int .i64 y,.int .i64 m] w fun e w'=>e = .returned (.int .i64 (daysZ y m:Nat))∧w = w':=by
 have HL:=hid (fun W=>rLeap y W)
 obtain ⟨R,hR⟩:∃ R,R = daysZ y m:=⟨_,rfl⟩
 rw [←hR]
 by_cases h1:y < 1
 ·have HR:Hid (R = 0):=hid (by rw [hR];exact daysZ_out (by omega))
  have b1:decide (y < 1) = true:=by simp [h1]
  clear hR HL h1
  go_enter Tryz.func149,Tryz.ntmps149
  go_wp2
  go_ret
  exact ⟨by rw [HR.out];rfl,rfl⟩
 have b1:decide (y < 1) = false:=by simp [h1]
 by_cases h2:9999 < y
 ·have HR:Hid (R = 0):=hid (by rw [hR];exact daysZ_out (by omega))
  have b2:decide (9999 < y) = true:=by simp [h2]
  clear hR HL h1 h2
  go_enter Tryz.func149,Tryz.ntmps149
  go_wp2
  go_ret
  exact ⟨by rw [HR.out];rfl,rfl⟩
 have b2:decide (9999 < y) = false:=by simp [h2]
 by_cases h3:m < 1
 ·have HR:Hid (R = 0):=hid (by rw [hR];exact daysZ_out (by omega))
  have b3:decide (m < 1) = true:=by simp [h3]
  clear hR HL h1 h2 h3
  go_enter Tryz.func149,Tryz.ntmps149
  go_wp2
  go_ret
  exact ⟨by rw [HR.out];rfl,rfl⟩
 have b3:decide (m < 1) = false:=by simp [h3]
 by_cases h4:12 < m
 ·have HR:Hid (R = 0):=hid (by rw [hR];exact daysZ_out (by omega))
  have b4:decide (12 < m) = true:=by simp [h4]
  clear hR HL h1 h2 h3 h4
  go_enter Tryz.func149,Tryz.ntmps149
  go_wp2
  go_ret
  exact ⟨by rw [HR.out];rfl,rfl⟩
 have HI:=hid (daysZ_in (y:=y) (m:=m) (by omega) (by omega))
 have hm:=twelve (m:=m) (by omega)
 generalize leapZ y = B at HI HL
 rw [HI.out] at hR
 clear HI h1 h2 h3 h4 b3
 rcases hm with rfl | rfl | rfl | rfl | rfl | rfl | rfl | rfl | rfl | rfl | rfl | rfl
 case inr.inl=>
  cases B
  all_goals
   have HR:=hid hR
   clear hR
   go_enter Tryz.func149,Tryz.ntmps149
   go_wp2_with (first | (go_at_call 174;refine (HL.out _).mono ?_;rintro e w1 ⟨rfl,rfl⟩))
   go_ret
   exact ⟨by rw [HR.out];rfl,rfl⟩
 all_goals
  have HR:=hid hR
  clear hR HL
  go_enter Tryz.func149,Tryz.ntmps149
  go_wp2
  go_ret
  exact ⟨by rw [HR.out];rfl,rfl⟩
def numZ (l:Bs):Int:=if l.all digA = true then (numN l:Nat) else -1
theorem rnumber20 (l:Bs) (hl:l.length≤10) (w:World):Calls Tryz.prog 115 #[.string (tx l)] w fun e w'=>e = .returned (.int .i64 (numZ l))∧w = w':=by
 have HS:=hid (tx_size' l)
 have HT:=hid (fun i (hi:i < l.length)=>tx_at l i hi)
 have HNO:=hid (fun i (hi:i < l.length) h=>(show numZ l = -1 from by have:=digs_no hi h;unfold numZ;rw [this];rfl))
 have HYE:=hid (fun h=>(show numZ l = (numN (l.take l.length):Nat) from by have:=digs_yes (l:=l) h;unfold numZ;rw [this,List.take_length];rfl))
 obtain ⟨V,hV⟩:∃ V,V = numZ l:=⟨_,rfl⟩
 rw [←hV] at HNO HYE ⊢
 clear hV
 have HLT:=hid (fun j (hj:j≤l.length) h=>(show numN (l.take j)≤9999999999 from by
  have h1:=numN_lt l j hj h
  have h2:10 ^ j≤10 ^ 10:=Nat.pow_le_pow_right (by omega) (by omega)
  omega))
 have HSN:=hid (fun j (hj:j < l.length)=>(show numN (l.take (j + 1)) = 10 * numN (l.take j) + ((l.getD j 0).toNat - 48) from by rw [take_snoc hj,numN_snoc]))
 go_enter Tryz.func115,Tryz.ntmps115
 go_wp2
 go_loop [3,4] (fun n i=>∃ j N:Nat,i = .int .i64 j∧n = .int .i64 N∧j≤l.length∧Hid (N = numN (l.take j)∧∀ i,i < j→digA (l.getD i 0) = true)) (fun n i=>l.length - (intOf i).toNat)
 case atStart=>exact ⟨0,0,rfl,rfl,Nat.zero_le _,hid ⟨by simp [numN],fun i hi=>absurd hi (by omega)⟩⟩
 case round=>
  obtain ⟨j,N,rfl,rfl,hj,HI⟩:=hrel
  have jl:j≤1000000:=by omega
  by_cases q1:j < (tx l).size
  ·have q1':j < l.length:=by have:=HS.out;omega
   have hx:=HT.out j q1'
   have hN:N≤9999999999:=by rw [HI.out.1];exact HLT.out j hj HI.out.2
   have HSJ:=hid (HSN.out j q1')
   have HNJ:=hid (HNO.out j q1')
   obtain ⟨c,hcd⟩:∃ c,c = l.getD j 0:=⟨_,rfl⟩
   rw [←hcd] at hx HSJ HNJ
   have HC:=hid hcd
   have HDG:Hid (digA c = decide (48≤c.toNat∧c.toNat≤57)):=hid rfl
   clear hcd HSN HLT HNO HT
   by_cases a:48≤(c.toNat:Int)
   ·by_cases b:(c.toNat:Int)≤57
    ·have HD:Hid (digA c = true):=hid (by rw [HDG.out];simp;omega)
     go_wp2
     go_round
     case rel=>exact ⟨j + 1,10 * N + (c.toNat - 48),by go_num,by go_num,by omega,hid ⟨by rw [HSJ.out,HI.out.1],fun i hi=>by
      rcases Nat.lt_or_ge i j with z | z
      ·exact HI.out.2 i z
      ·obtain rfl:i = j:=by omega
       rw [←HC.out];exact HD.out⟩⟩
     case measure=>simp [intOf];omega
    ·have HR:=hid (HNJ.out (by rw [HDG.out];simp;omega))
     clear HNJ
     go_wp2
     go_ret
     exact ⟨by rw [HR.out];rfl,rfl⟩
   ·have HR:=hid (HNJ.out (by rw [HDG.out];simp;omega))
    clear HNJ
    go_wp2
    go_ret
    exact ⟨by rw [HR.out];rfl,rfl⟩
  ·obtain rfl:j = l.length:=by have:=HS.out;omega
   have HR:=hid (HYE.out (fun i hi=>HI.out.2 i hi))
   clear HYE HNO
   go_wp2
   go_ret
   exact ⟨by rw [HR.out,HI.out.1];rfl,rfl⟩
theorem rIsDay (y m d:Int) (w:World):Calls Tryz.prog 116 #[.agg #[.int .i64 y,.int .i64 m,.int .i64 d]] w fun e w'=>e = .returned (.bool (decide (1≤d∧d≤(daysZ y m:Nat))))∧Below w.heap.size w w':=by
 have HD:=hid (fun W=>rDays y m W)
 have HAL:=hid (fun o k=>below_drewN ((Below.refl w.heap.size w).alloc (Nat.le_refl _) o) k)
 by_cases h1:1≤d
 ·have t1:decide (1≤d) = true:=by simp [h1]
  generalize daysZ y m = D at HD ⊢
  rw [show decide (1≤d∧d≤(D:Nat)) = decide (d≤(D:Int)) from by rw [decide_eq_decide];omega]
  clear h1
  go_enter Tryz.func116,Tryz.ntmps116
  go_wp2
  go_quiet ((go_at_call 149;exact quiet_eq (HD.out _)))
  go_wp2
  go_ret
  exact ⟨rfl,HAL.out _ _⟩
 ·have t1:decide (1≤d) = false:=by simp [h1]
  rw [decide_eq_false (by omega)]
  clear h1 HD
  go_enter Tryz.func116,Tryz.ntmps116
  go_wp2
  go_quiet (fail)
  go_wp2
  go_ret
  exact ⟨rfl,HAL.out _ _⟩
theorem dayR_end {fn:Func} {p q:Tmp} (h:fn.results = #[.cell p 124,.tmp q]) (tmps:Array Value) (w:World) (g:Nat) (v0 v1 v2:Value) (hp:tmps.getD p undef = .pointer (some ⟨g,0,none⟩))
  (hg:w.heap[g]? = some (.cells #[v0,v1,v2] 124 (0,0))):(results fn tmps).run Tryz.prog w = .ok (.tuple #[.agg #[v0,v1,v2],tmps.getD q undef]) w:=
 results_cell_tmp h tmps w g 124 _ _ _ hp hg Tryz.underlying124 rfl (by kernel_rfl)
theorem numZ_dig {l:Bs} (h:l.all digA = true):numZ l = (digN l:Nat):=by unfold numZ digN;rw [h];rfl
theorem numZ_no {l:Bs} (h:l.all digA = false):numZ l = -1:=by unfold numZ;rw [h];rfl
theorem daysZ_neg {y m:Int} (h:y = -1∨m = -1):daysZ y m = 0:=daysZ_out (by omega)
theorem date_inR {l:Bs} (h:l.length = 10) (h4:l.getD 4 0 = 45) (h7:l.getD 7 0 = 45):dateP l =
  decide (1≤numZ (l.drop 8)∧numZ (l.drop 8)≤(daysZ (numZ (l.take 4)) (numZ ((l.drop 5).take 2)):Nat)):=by
 rw [date_in h h4 h7]
 have h0:∀ D:Nat,decide ((1:Int)≤-1∧(-1:Int)≤(D:Int)) = false:=fun D=>by rw [decide_eq_false_iff_not];omega
 have h1:∀ z:Int,decide (1≤z∧z≤((0:Nat):Int)) = false:=fun z=>by rw [decide_eq_false_iff_not];omega
 cases c:(l.drop 8).all digA
 ·rw [numZ_no c,h0];simp
 cases a:(l.take 4).all digA
 ·rw [numZ_no a,daysZ_neg (.inl rfl),h1];rfl
 cases b:((l.drop 5).take 2).all digA
 ·rw [numZ_no b,daysZ_neg (.inr rfl),h1];rfl
 rw [numZ_dig a,numZ_dig b,numZ_dig c]
 simp only [Bool.true_and]
 rw [decide_eq_decide]
 omega
theorem rread20 (l:Bs) (w:World):Calls Tryz.prog 86 #[.string (tx l)] w fun e w'=>(∃ y m d:Int,e = .returned (.tuple #[.agg #[.int .i64 y,.int .i64 m,.int .i64 d],.bool (dateP l)]))∧Below w.heap.size w w':=by
 have HAL:=hid ((Below.refl w.heap.size w).alloc (Nat.le_refl _) (.cells #[.int .i64 0,.int .i64 0,.int .i64 0] 124))
 by_cases hl:l.length = 10
 ·have hz:(tx l).size = 10:=by rw [tx_size',hl]
  have g4:=tx_at l 4 (by omega)
  have g7:=tx_at l 7 (by omega)
  obtain ⟨R,hR⟩:∃ R,R = dateP l:=⟨_,rfl⟩
  rw [←hR]
  by_cases h4:l.getD 4 0 = 45
  ·rw [h4] at g4
   by_cases h7:l.getD 7 0 = 45
   ·rw [h7] at g7
    have HN1:=hid (fun W=>rnumber20 (l.take 4) (by simp;omega) W)
    have HN2:=hid (fun W=>rnumber20 ((l.drop 5).take 2) (by simp;omega) W)
    have HN3:=hid (fun W=>rnumber20 (l.drop 8) (by simp;omega) W)
    have HX1:Hid ((tx l).extract 0 4 = tx (l.take 4)):=hid (by rw [tx_extract];rfl)
    have HX2:Hid ((tx l).extract 5 7 = tx ((l.drop 5).take 2)):=hid (by rw [tx_extract])
    have HX3:Hid ((tx l).extract 8 10 = tx (l.drop 8)):=hid (by rw [tx_extract,List.take_of_length_le (by simp;omega)])
    rw [date_inR hl h4 h7] at hR
    rw [←HX1.out] at HN1
    rw [←HX2.out] at HN2
    rw [←HX3.out] at HN3
    have HIS:=hid (fun W=>rIsDay (numZ (l.take 4)) (numZ ((l.drop 5).take 2)) (numZ (l.drop 8)) W)
    rw [←hR] at HIS
    generalize numZ (l.take 4) = y at HN1 HIS
    generalize numZ ((l.drop 5).take 2) = m at HN2 HIS
    generalize numZ (l.drop 8) = d at HN3 HIS
    clear hR h4 h7 HX1 HX2 HX3
    have HA:Hid (∀ o1 o2,Below w.heap.size w ((w.alloc o1).drew.alloc o2)∧Below w.heap.size w ((w.alloc o1).alloc o2).drew):=hid (fun o1 o2=>⟨((Below.refl w.heap.size w).alloc (Nat.le_refl _) o1).drew.alloc (by simp) o2,(((Below.refl w.heap.size w).alloc (Nat.le_refl _) o1).alloc (by simp) o2).drew⟩)
    go_enter Tryz.func86,Tryz.ntmps86
    go_upto_region 3 with (fail)
    go_cut [4] (fun t wx=>t = .pointer (some ⟨w.heap.size + 1,0,none⟩)∧Hid (B3 wx w.heap.size 124 (.int .i64 0) (.int .i64 0) (.int .i64 0)∧B3 wx (w.heap.size + 1) 124 (.int .i64 y) (.int .i64 m) (.int .i64 d)∧Below w.heap.size w wx))
    case first=>
     go_region_held3 (fun _=>True) (exact trivial) (first | (go_at_call 115;(with_reducible refine (HN1.out _).mono ?_);rintro e w1 ⟨rfl,rfl⟩) | (go_at_call 115;(with_reducible refine (HN2.out _).mono ?_);rintro e w1 ⟨rfl,rfl⟩) | (go_at_call 115;(with_reducible refine (HN3.out _).mono ?_);rintro e w1 ⟨rfl,rfl⟩))
     all_goals (go_wp2;go_meet;first | exact ⟨rfl,hid ⟨(heap_alloc_old _ _ (by simp)).trans (heap_alloc_new _ _),heap_at (heap_alloc_new _ _) (by simp),(HA.out _ _).2⟩⟩ | exact ⟨rfl,hid ⟨(heap_alloc_old _ _ (by simp)).trans (heap_alloc_new _ _),heap_at (heap_alloc_new _ _) (by simp),(HA.out _ _).1⟩⟩)
    case rest=>
     obtain ⟨rfl,HC⟩:=hcut
     obtain ⟨p0,p1,p2⟩:=HC.out.2.1.cells
     have lp:=HC.out.2.1.lt
     go_wp2_with (first | (go_at_call 116;fail))
     go_at_call 116
     refine (HIS.out _).mono ?_
     rintro e w5 ⟨rfl,hb5⟩
     have HB0:=hid (HC.out.1.below hb5)
     have HB1:=hid (HC.out.2.1.below hb5)
     have HW:=hid (HC.out.2.2.trans (below_le hb5 HC.out.2.2.size))
     clear hb5 p0 p1 p2 lp HC
     obtain ⟨p0,p1,p2⟩:=HB1.out.cells
     have lp:=HB1.out.lt
     obtain ⟨q0,q1,q2⟩:=HB0.out.cells
     have lq:=HB0.out.lt
     have f0:=HB0.out.fr 0
     have f1:=HB0.out.fr 1
     have f2:=HB0.out.fr 2
     cases R
     all_goals
      go_wp2
      refine bodyPost_ret (dayR_end rfl _ _ w.heap.size _ _ _ rfl HB0.out.put) rfl ⟨⟨_,_,_,rfl⟩,below_put3 HW.out (Nat.le_refl _) _ _ _⟩
   ·have HR:Hid (R = false):=hid (by rw [hR];exact date_at (.inr h7))
    have HNE:((l.getD 7 0).toNat:Int) != 45:=toNat_ne h7
    generalize l.getD 7 0 = c7 at g7 HNE
    clear hR h4 h7
    go_enter Tryz.func86,Tryz.ntmps86
    go_wp2
    refine bodyPost_ret (dayR_end rfl _ _ w.heap.size _ _ _ rfl (heap_alloc_new _ _)) rfl ⟨⟨_,_,_,by rw [HR.out];rfl⟩,HAL.out⟩
  ·have HR:Hid (R = false):=hid (by rw [hR];exact date_at (.inl h4))
   have HNE:((l.getD 4 0).toNat:Int) != 45:=toNat_ne h4
   generalize l.getD 4 0 = c4 at g4 HNE
   clear hR h4 g7
   go_enter Tryz.func86,Tryz.ntmps86
   go_wp2
   refine bodyPost_ret (dayR_end rfl _ _ w.heap.size _ _ _ rfl (heap_alloc_new _ _)) rfl ⟨⟨_,_,_,by rw [HR.out];rfl⟩,HAL.out⟩
 ·have HR:=hid (date_len hl)
  have hz:(tx l).size≠10:=by rw [tx_size'];exact hl
  have hz2:(((tx l).size:Int) != 10) = true:=by simp only [bne_iff_ne,ne_eq];omega
  rw [HR.out]
  clear hl HR
  go_enter Tryz.func86,Tryz.ntmps86
  go_wp2
  refine bodyPost_ret (dayR_end rfl _ _ w.heap.size _ _ _ rfl (heap_alloc_new _ _)) rfl ⟨⟨_,_,_,rfl⟩,HAL.out⟩
theorem rValid (l:Bs) (w:World):Calls Tryz.prog 62 #[.string (tx l)] w fun e w'=>e = .returned (.bool (dateP l))∧Below w.heap.size w w':=by
 have HRD:=hid (fun W=>rread20 l W)
 have HE:Hid (∀ W o,Below w.heap.size w W→Below w.heap.size w (W.alloc o)):=hid (fun W o h=>h.alloc h.size o)
 go_enter Tryz.func62,Tryz.ntmps62
 go_wp2_with (first | (go_at_call 86;refine (HRD.out _).mono ?_;rintro e w1 ⟨⟨y,m,d,rfl⟩,hb1⟩;have HB1:=hid hb1;clear hb1))
 go_ret
 exact ⟨rfl,HE.out _ _ HB1.out⟩
end Go.Proofs.YtpcbamcelpcigaaGreat
namespace Go.Proofs.YtpcbamcelpcigaaGreat
open Go.RowKit Go.Shelf Ieee
attribute [local go_sem] run_store_float
theorem sld_fin {F:FL} (h:0 < F.sld):F.k = 9∧finB F.lo = true∧finB F.st = true∧F.sld≤10001:=by
 unfold FL.sld at h ⊢
 by_cases h9:F.k = 9
 ·rw [if_pos h9] at h ⊢
  obtain ⟨h1,h2,_,h4⟩:=steps_fin h
  exact ⟨h9,h1,h2,h4⟩
 ·rw [if_neg h9] at h;omega
theorem rAt (F:FL) (q:Int) (w:World):Calls Tryz.prog 21 #[F.v,.int .i64 q] w fun e w'=>e = .returned (.tuple #[.float .f64 (atP F q).1,.bool (atP F q).2])∧Below w.heap.size w w':=by
 obtain ⟨R,hR⟩:∃ R,R = atP F q:=⟨_,rfl⟩
 rw [←hR]
 have HSL:=hid (fun W=>rSlides F W)
 have HFI:=hid (fun h=>sld_fin (F:=F) h)
 have HV:=hid (fun (h1:finB F.lo = true) (h2:finB F.st = true) (k:Nat) (hk:k < 2 ^ 53) W=>rslide F k h1 h2 hk W)
 have HNO:Hid (¬ (0≤q∧q < (F.sld:Nat))→R = (0,false)):=hid (fun h=>by rw [hR];unfold atP;rw [if_neg (fun e=>h e.2)])
 have HYE:Hid (0≤q∧q < (F.sld:Nat)→F.k = 9→R = (valB F.lo F.st q.toNat,true)):=hid (fun h h9=>by rw [hR];unfold atP;rw [if_pos ⟨h9,h.1,h.2⟩])
 obtain ⟨n,hn⟩:∃ n,n = F.sld:=⟨_,rfl⟩
 rw [←hn] at HSL HFI HNO HYE
 clear hR hn
 obtain ⟨B1,hB1⟩:∃ W1,W1 = w.alloc (.cells F.a 42):=⟨_,rfl⟩
 have hbl:Below w.heap.size w B1:=by rw [hB1];exact (Below.refl _ _).alloc (Nat.le_refl _) _
 have HFB:Hid (FLB B1 w.heap.size F):=hid (by rw [hB1];exact heap_alloc_new _ _)
 unfold FL.v at HV HSL ⊢
 unfold FL.a at hB1 HV HSL ⊢
 have HBL:=hid hbl
 clear hbl
 obtain ⟨c0,c1,c2,c3,c4,c5,c6,c7,c8,c9,c10,c11,c12,c13,c14,c15⟩:=HFB.out.cells
 have hlt:=HFB.out.lt
 by_cases h0:q < 0
 ·have HR:=hid (HNO.out (by omega))
  have t0:decide (q < 0) = true:=by simp [h0]
  clear HNO HYE HV HSL HFI h0
  go_enter Tryz.func21,Tryz.ntmps21
  go_wp2
  rw [←hB1]
  go_ret2
  exact ⟨by rw [HR.out];rfl,HBL.out⟩
 obtain ⟨K,rfl⟩:∃ K:Nat,q = (K:Int):=⟨q.toNat,by omega⟩
 have t0:decide ((K:Int) < 0) = false:=by simp
 clear h0
 go_enter Tryz.func21,Tryz.ntmps21
 go_wp2_with (first | (go_at_call 25;fail))
 rw [←hB1]
 go_at_call 25
 refine (HSL.out _).mono ?_
 clear hB1
 rintro e w2 ⟨rfl,hb⟩
 replace HFB:=hid (HFB.out.below hb)
 replace HBL:=hid (HBL.out.trans (below_le hb HBL.out.size))
 clear hb HSL c0 c1 c2 c3 c4 c5 c6 c7 c8 c9 c10 c11 c12 c13 c14 c15 hlt
 by_cases hK:K < n
 ·obtain ⟨h9,f1,f3,hle⟩:=HFI.out (by omega)
  have HR:=hid (HYE.out (by omega) h9)
  have HVK:=hid (HV.out f1 f3 K (by omega))
  rw [Int.toNat_natCast] at HR
  generalize valB F.lo F.st K = v at HR HVK
  obtain ⟨c0,c1,c2,c3,c4,c5,c6,c7,c8,c9,c10,c11,c12,c13,c14,c15⟩:=HFB.out.cells
  have hlt:=HFB.out.lt
  have t1:decide (n≤K) = false:=by simp;omega
  clear HNO HYE HV HFI h9 f1 f3
  go_wp2_with (first | (go_at_call 43;refine (HVK.out _).mono ?_;rintro e w3 ⟨rfl,hb3⟩))
  go_ret2
  exact ⟨by rw [HR.out];rfl,HBL.out.trans (below_le hb3 HBL.out.size)⟩
 ·have HR:=hid (HNO.out (by omega))
  have t1:decide (n≤K) = true:=by simp;omega
  clear HNO HYE HV HFI
  go_wp2
  go_ret2
  exact ⟨by rw [HR.out];rfl,HBL.out⟩
theorem same_hit {lo st x j:Nat} (h1:finB lo = true) (h2:finB st = true) (hj:j < 2 ^ 53) (hx:x < 18446744073709551616):sameN (valB lo st j) x = (!isNan x && !hitK lo st x j):=by
 obtain ⟨_,n1,l1⟩:=valB_eq lo st j h1 h2 hj
 cases nx:isNan x
 ·rw [sameN_eq l1 hx n1 nx]
  unfold hitK
  by_cases e:valB lo st j = x
  ·rw [e];simp
  ·have:keyN (valB lo st j)≠keyN x:=fun h=>e (by rw [←ofB_key _ l1 n1,h,ofB_key _ hx nx])
   simp [e,this]
 ·unfold sameN
  rw [if_pos (.inr nx),n1]
  rfl
theorem rPlace (F:FL) (x:Nat) (hx:x < 18446744073709551616) (w:World):Calls Tryz.prog 23 #[F.v,.float .f64 x] w fun e w'=>e = .returned (.tuple #[.int .i64 ((F.plc x).1:Nat),.bool (F.plc x).2])∧Below w.heap.size w w':=by
 have HPN:=hid (fun h=>plc_none (F:=F) (x:=x) h)
 have HPS:=hid (fun h9 hn i hi h1 h2=>plc_some (F:=F) (x:=x) (i:=i) h9 hn hi h1 h2)
 have HPX:Hid (isNan x = true→F.plc x = (0,false)):=hid (fun h=>by unfold FL.plc;rw [if_neg (fun q=>by rw [h] at q;cases q.2.1)])
 obtain ⟨R,hR⟩:∃ R,R = F.plc x:=⟨_,rfl⟩
 rw [←hR] at HPN HPS HPX ⊢
 have HSL:=hid (fun W=>rSlides F W)
 have HFI:=hid (fun h=>sld_fin (F:=F) h)
 have HV:=hid (fun (h1:finB F.lo = true) (h2:finB F.st = true) (k:Nat) (hk:k < 2 ^ 53) W=>rslide F k h1 h2 hk W)
 have HSM:=hid (fun (h1:finB F.lo = true) (h2:finB F.st = true) (k:Nat) (hk:k < 2 ^ 53) W=>rsame21 (valB F.lo F.st k) x (valB_eq F.lo F.st k h1 h2 hk).2.1 W)
 have HSH:=hid (fun (h1:finB F.lo = true) (h2:finB F.st = true) (k:Nat) (hk:k < 2 ^ 53)=>same_hit (x:=x) h1 h2 hk hx)
 obtain ⟨n,hn⟩:∃ n,n = F.sld:=⟨_,rfl⟩
 rw [←hn] at HSL HFI HPN HPS
 clear hR hn hx
 obtain ⟨B1,hB1⟩:∃ W1,W1 = w.alloc (.cells F.a 42):=⟨_,rfl⟩
 have hbl:Below w.heap.size w B1:=by rw [hB1];exact (Below.refl _ _).alloc (Nat.le_refl _) _
 have HFB:Hid (FLB B1 w.heap.size F):=hid (by rw [hB1];exact heap_alloc_new _ _)
 unfold FL.v at HV HSL ⊢
 unfold FL.a at hB1 HV HSL ⊢
 have HBL:=hid hbl
 clear hbl
 obtain ⟨c0,c1,c2,c3,c4,c5,c6,c7,c8,c9,c10,c11,c12,c13,c14,c15⟩:=HFB.out.cells
 have hlt:=HFB.out.lt
 go_enter Tryz.func23,Tryz.ntmps23
 go_wp2_with (first | (go_at_call 25;fail))
 rw [←hB1]
 go_at_call 25
 refine (HSL.out _).mono ?_
 clear hB1
 rintro e w2 ⟨rfl,hb⟩
 replace HFB:=hid (HFB.out.below hb)
 replace HBL:=hid (HBL.out.trans (below_le hb HBL.out.size))
 clear hb HSL c0 c1 c2 c3 c4 c5 c6 c7 c8 c9 c10 c11 c12 c13 c14 c15 hlt
 go_wp2
 go_loopw [7] (fun i wr=>∃ j:Nat,i = .int .i64 j∧j≤n∧Hid ((isNan x = false→∀ i,i < j→hitK F.lo F.st x i = true)∧FLB wr w.heap.size F∧Below w.heap.size w wr)) (fun i _=>n - (intOf i).toNat)
 case atStart=>exact ⟨0,rfl,by omega,hid ⟨fun _ i hi=>absurd hi (by omega),HFB.out,HBL.out⟩⟩
 case round=>
  obtain ⟨j,rfl,hj,HJ⟩:=hrel
  by_cases hjn:j < n
  ·obtain ⟨h9,f1,f3,hle⟩:=HFI.out (by omega)
   have HJF:=hid HJ.out.2.1
   have HJB:=hid HJ.out.2.2
   obtain ⟨c0,c1,c2,c3,c4,c5,c6,c7,c8,c9,c10,c11,c12,c13,c14,c15⟩:=HJF.out.cells
   have hlt:=HJF.out.lt
   have HVK:=hid (HV.out f1 f3 j (by omega))
   have HSK:=hid (HSM.out f1 f3 j (by omega))
   have HHK:=hid (HSH.out f1 f3 j (by omega))
   obtain ⟨c,hc⟩:∃ c,c = sameN (valB F.lo F.st j) x:=⟨_,rfl⟩
   rw [←hc] at HSK HHK
   generalize valB F.lo F.st j = v at HVK HSK
   have HYE:Hid (c = true→R = (j,true)):=hid (fun e=>by
    have h:=HHK.out
    rw [e] at h
    have h1:isNan x = false:=by cases q:isNan x;rfl;rw [q] at h;cases h
    have h2:hitK F.lo F.st x j = false:=by cases q:hitK F.lo F.st x j;rfl;rw [q,h1] at h;cases h
    exact HPS.out h9 h1 j hjn (HJ.out.1 h1) h2)
   have HNX:Hid (c = false→isNan x = false→∀ i,i < j + 1→hitK F.lo F.st x i = true):=hid (fun e h1 i hi=>by
    rcases Nat.lt_or_ge i j with z | z
    ·exact HJ.out.1 h1 i z
    ·obtain rfl:i = j:=by omega
     have h:=HHK.out
     rw [e,h1] at h
     cases q:hitK F.lo F.st x i
     ·rw [q] at h;cases h
     ·rfl)
   clear hc HJ HHK h9 f1 f3 HPN HPS HPX HV HSM HSH HFI HFB HBL
   go_wp2_with (first | (go_at_call 43;fail))
   go_at_call 43
   refine (HVK.out _).mono ?_
   rintro e w3 ⟨rfl,hb3⟩
   have HF3:=hid (HJF.out.below hb3)
   have HB3:=hid (HJB.out.trans (below_le hb3 HJB.out.size))
   clear hb3 HVK c0 c1 c2 c3 c4 c5 c6 c7 c8 c9 c10 c11 c12 c13 c14 c15 hlt
   cases c
   ·have HN:=hid (HNX.out rfl)
    clear HYE HNX
    go_wp2_with (first | (go_at_call 46;refine (HSK.out _).mono ?_;rintro e w4 ⟨rfl,hb4⟩;have HF4:=hid (HF3.out.below hb4);have HB4:=hid (HB3.out.trans (below_le hb4 HB3.out.size));clear hb4))
    go_roundw
    case rel=>exact ⟨j + 1,by go_num,by omega,hid ⟨HN.out,HF4.out,HB4.out⟩⟩
    case measure=>simp [intOf];omega
   ·have HR:=hid (HYE.out rfl)
    clear HYE HNX
    go_wp2_with (first | (go_at_call 46;refine (HSK.out _).mono ?_;rintro e w4 ⟨rfl,hb4⟩;have HB4:=hid (HB3.out.trans (below_le hb4 HB3.out.size));clear hb4))
    go_ret2
    exact ⟨by rw [HR.out];rfl,HB4.out⟩
  ·obtain rfl:j = n:=by omega
   have HR:Hid (R = (0,false)):=hid (by
    cases q:isNan x
    ·exact HPN.out (HJ.out.1 q)
    ·exact HPX.out q)
   have HB4:=hid HJ.out.2.2
   clear HJ HPN HPS HPX HV HSM HSH HFI HFB HBL
   go_wp2
   go_ret2
   exact ⟨by rw [HR.out];rfl,HB4.out⟩
end Go.Proofs.YtpcbamcelpcigaaGreat
