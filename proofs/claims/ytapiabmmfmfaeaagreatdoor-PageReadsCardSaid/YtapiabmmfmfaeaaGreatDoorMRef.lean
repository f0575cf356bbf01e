/- Merged texts: IsVal, EncW6, EncW7, ValArgs. -/
import Derived.Test.YtapiabmmfmfaeaaGreatDoorMEnc
import Derived.Test.YtapiabmmfmfaeaaGreatDoorMBits
import Derived.Test.YtapiabmmfmfaeaaGreatDoorMWire
import Derived.Lib.SmallJoins
import Derived.OpenShut
import Derived.ChangeArms
import Derived.Deep.Slices
import Derived.Deep.Fields
import Derived.Deep.QuietTactic
/- The walks of the document's IsValue. -/
namespace Go.Proofs.YtapiabmmfmfaeaaGreatDoor
set_option maxHeartbeats 2000000
set_option linter.unusedVariables false
open Go Go.RowKit Go.ChangeShapes
set_option maxRecDepth 100000 in
theorem isValue_yes (kind:Int) (x:Val) (hx:x.Ok) (w:World) (h:OkP kind x) (h1':1 ≤ kind) (h5':kind ≤ 5) :
  Calls Tryz.prog 63 #[.int .i64 kind,.agg (valA x)] w fun e w'=>e = .returned (.bool true) ∧ Below w.heap.size w w':=by
 obtain ⟨k,n,s⟩:=x
 obtain ⟨k0,k1,n0,n1,s1⟩:=hx
 obtain ⟨hk,h4,hn4,h1,h2⟩:=h
 simp only at hk h4 hn4 h1 h2 k0 k1 n0 n1 s1
 subst hk
 have hsz:s.toList = [] ↔ s.size = 0:=by have:=empty_beq s;rw [Bool.eq_iff_iff,beq_iff_eq,decide_eq_true_iff] at this;exact this
 unfold maxLen at s1
 unfold valA
 by_cases c4:k = 4
 ·obtain ⟨rfl,hs⟩:=h4 c4
  subst c4
  clear hn4 h1 h2 h4 hsz
  go_enter Tryz.func63,Tryz.ntmps63
  go_wp2_with fail
  go_ret
  exact ⟨ret_of (by simp;omega),(Below.refl _ _).alloc (Nat.le_refl _) _⟩
 ·have hs0:=hn4 c4
  have he:=empty_list hs0
  subst he
  clear hs0 hn4 h4 hsz s1
  by_cases c1:k = 1
  ·obtain ⟨a1,a2⟩:=h1 c1
   subst c1
   have hd:n / 2 = 0:=by omega
   clear h1 h2
   go_enter Tryz.func63,Tryz.ntmps63
   go_wp2_with fail
   go_ret
   exact ⟨ret_of (by simp),(Below.refl _ _).alloc (Nat.le_refl _) _⟩
  ·by_cases c2:k = 2
   ·obtain ⟨a1,a2⟩:=h2 c2
    subst c2
    have hd:IntKind.i32.wrap n = n:=by rw [IntKind.wrap_i32];omega
    clear h1 h2
    go_enter Tryz.func63,Tryz.ntmps63
    go_wp2_with fail
    go_ret
    exact ⟨ret_of (by simp),(Below.refl _ _).alloc (Nat.le_refl _) _⟩
   ·clear h1 h2
    go_enter Tryz.func63,Tryz.ntmps63
    go_wp2_with fail
    go_ret
    exact ⟨ret_of (by simp),(Below.refl _ _).alloc (Nat.le_refl _) _⟩
set_option maxRecDepth 100000 in
theorem isValue_no (kind:Int) (x:Val) (hx:x.Ok) (w:World) (h:¬ OkP kind x) (h1':1 ≤ kind) (h5':kind ≤ 5) :
  Calls Tryz.prog 63 #[.int .i64 kind,.agg (valA x)] w fun e w'=>e = .returned (.bool false) ∧ Below w.heap.size w w':=by
 obtain ⟨k,n,s⟩:=x
 obtain ⟨k0,k1,n0,n1,s1⟩:=hx
 simp only at k0 k1 n0 n1 s1
 have hsz:s.toList = [] ↔ s.size = 0:=by have:=empty_beq s;rw [Bool.eq_iff_iff,beq_iff_eq,decide_eq_true_iff] at this;exact this
 have hem:=empty_beq s
 have hem':=empty_beq' s
 unfold maxLen at s1
 unfold valA
 by_cases hk:k = kind
 ·subst hk
  by_cases c4:k = 4
  ·subst c4
   have hh:¬ n = 0 ∨ 100 < s.size:=by
    by_cases a:n = 0
    ·by_cases b:100 < s.size
     ·exact .inr b
     ·exact absurd ⟨rfl,fun _=>⟨a,by show s.size ≤ 100;omega⟩,fun c=>absurd rfl c,by simp,by simp⟩ h
    ·exact .inl a
   clear h hsz hem hem'
   by_cases hn:n = 0
   ·have hb:(n == 0) = true:=by simpa using hn
    have hs:decide ((s.size:Int) ≤ 100) = false:=by simp;omega
    clear hh hn
    go_enter Tryz.func63,Tryz.ntmps63
    go_wp2_with fail
    all_goals
     go_ret
     exact ⟨ret_of (by simp),(Below.refl _ _).alloc (Nat.le_refl _) _⟩
   ·have hb:(n == 0) = false:=by simpa using hn
    clear hh hn
    go_enter Tryz.func63,Tryz.ntmps63
    go_wp2_with fail
    all_goals
     go_ret
     exact ⟨ret_of (by simp),(Below.refl _ _).alloc (Nat.le_refl _) _⟩
  ·by_cases hb1:k = 1 ∧ ¬ (0 ≤ n ∧ n ≤ 1)
   ·obtain ⟨rfl,hr⟩:=hb1
    have hd:¬ (0 ≤ n ∧ n ≤ 1):=hr
    clear h hsz hem hem' hr c4
    go_enter Tryz.func63,Tryz.ntmps63
    go_wp2_with fail
    all_goals
     go_ret
     exact ⟨ret_of (by simp),(Below.refl _ _).alloc (Nat.le_refl _) _⟩
   ·by_cases hb2:k = 2 ∧ ¬ (-2147483648 ≤ n ∧ n ≤ 2147483647)
    ·obtain ⟨rfl,hr⟩:=hb2
     have hd:¬ (-2147483648 ≤ n ∧ n ≤ 2147483647):=hr
     clear h hsz hem hem' hr c4 hb1
     go_enter Tryz.func63,Tryz.ntmps63
     go_wp2_with fail
     all_goals
      go_ret
      exact ⟨ret_of (by simp),(Below.refl _ _).alloc (Nat.le_refl _) _⟩
    ·have hs0:¬ s.size = 0:=fun hs=>h ⟨rfl,fun c=>absurd c c4,fun _=>hs,fun c=>by
      simp only at c ⊢;omega,fun c=>by simp only at c ⊢;omega⟩
     have e1:s.toList.isEmpty = false:=by rw [hem'];simpa using hs0
     have e2:¬ s.toList = []:=by rw [hsz];exact hs0
     clear h hsz hem hem' hs0
     by_cases c1:k = 1
     ·subst c1
      have hr:0 ≤ n ∧ n ≤ 1:=by omega
      obtain ⟨hr1,hr2⟩:=hr
      clear hb1 hb2 c4
      go_enter Tryz.func63,Tryz.ntmps63
      go_wp2_with fail
      all_goals
       go_ret
       exact ⟨ret_of (by simp),(Below.refl _ _).alloc (Nat.le_refl _) _⟩
     ·by_cases c2:k = 2
      ·subst c2
       have hr:-2147483648 ≤ n ∧ n ≤ 2147483647:=by omega
       obtain ⟨hr1,hr2⟩:=hr
       clear hb1 hb2 c4
       go_enter Tryz.func63,Tryz.ntmps63
       go_wp2_with fail
       all_goals
        go_ret
        exact ⟨ret_of (by simp),(Below.refl _ _).alloc (Nat.le_refl _) _⟩
      ·clear hb1 hb2
       go_enter Tryz.func63,Tryz.ntmps63
       go_wp2_with fail
       all_goals
        go_ret
        exact ⟨ret_of (by simp),(Below.refl _ _).alloc (Nat.le_refl _) _⟩
 ·have hk':(k == kind) = false:=by simpa using hk
  clear h hsz hem hem'
  go_enter Tryz.func63,Tryz.ntmps63
  go_wp2_with fail
  all_goals
   go_ret
   exact ⟨ret_of (by simp),(Below.refl _ _).alloc (Nat.le_refl _) _⟩
set_option maxRecDepth 100000 in
theorem isValue_out (kind:Int) (x:Val) (hx:x.Ok) (w:World) (h:kind < 1 ∨ 5 < kind) :
  Calls Tryz.prog 63 #[.int .i64 kind,.agg (valA x)] w fun e w'=>e = .returned (.bool false) ∧ Below w.heap.size w w':=by
 obtain ⟨k,n,s⟩:=x
 obtain ⟨k0,k1,n0,n1,s1⟩:=hx
 simp only at k0 k1 n0 n1 s1
 unfold valA
 by_cases hk:k = kind
 ·subst hk
  by_cases h1:k < 1
  ·clear h
   go_enter Tryz.func63,Tryz.ntmps63
   go_wp2_with fail
   all_goals
    go_ret
    exact ⟨ret_of (by simp),(Below.refl _ _).alloc (Nat.le_refl _) _⟩
  ·have h2:5 < k:=by omega
   clear h
   go_enter Tryz.func63,Tryz.ntmps63
   go_wp2_with fail
   all_goals
    go_ret
    exact ⟨ret_of (by simp),(Below.refl _ _).alloc (Nat.le_refl _) _⟩
 ·have hk':(k == kind) = false:=by simpa using hk
  clear h
  go_enter Tryz.func63,Tryz.ntmps63
  go_wp2_with fail
  all_goals
   go_ret
   exact ⟨ret_of (by simp),(Below.refl _ _).alloc (Nat.le_refl _) _⟩
end Go.Proofs.YtapiabmmfmfaeaaGreatDoor
/- The walks of the document's ManyError, ValuesError. -/
namespace Go.Proofs.YtapiabmmfmfaeaaGreatDoor
set_option maxHeartbeats 2000000
set_option linter.unusedVariables false
open Go Go.RowKit Go.ChangeShapes
end Go.Proofs.YtapiabmmfmfaeaaGreatDoor
/- The walk of the document's PlainOf at right values. -/
namespace Go.Proofs.YtapiabmmfmfaeaaGreatDoor
set_option maxHeartbeats 2000000
set_option linter.unusedVariables false
open Go Go.RowKit Go.ChangeShapes
set_option maxRecDepth 100000 in
theorem plainOf_bools (v:Value) (l:List Val) (w:World) (hI:IsVals w v l) (hl:l.length ≤ 20000) (hP:∀ x ∈ l,OkP 1 x) :
  Calls Tryz.prog 85 #[.int .i64 1,v] w fun e w'=>e = .returned (.string ⟨(packed 1 (numsOf 1 l)).toArray⟩) ∧ Below w.heap.size w w':=by
 have HI:=Lib.hid hI;have HP:=Lib.hid hP
 obtain ⟨i0,hi,hz0,hz1,hz2⟩:=info_parts info_u64
 obtain ⟨ad,cap,rfl⟩:=hI.form
 clear hI hP
 go_enter Tryz.func85,Tryz.ntmps85
 go_wp2_with fail
 go_loopw [5,6,7] (fun s b i wr=>∃ k:Nat,k ≤ l.length ∧ i = .int .i64 k ∧ s = .string ⟨#[]⟩ ∧ wr.ownsRow w.heap.size 84 1 b (numsOf 1 (l.take k)).length ((numsOf 1 (l.take k)).map natU) ∧ Below w.heap.size w wr) (fun _ _ i _=>l.length - (intOf i).toNat)
 case atStart=>exact ⟨0,Nat.zero_le _,rfl,rfl,World.ownsRow_nil _ _ _ _,Below.refl _ _⟩
 case round =>
  obtain ⟨k,hkl,rfl,rfl,hown,hb⟩:=hrel
  have Ho:=Lib.hid hown
  clear hown
  by_cases hlt:k < l.length
  ·obtain ⟨b0,off,rfl,hq,hlt0,hc⟩:=(HI.out.below hb (Nat.le_refl _)).at (by omega)
   have hcx:=(hc k l[k] (List.getElem?_eq_getElem hlt)).2.1
   have hpx:=(HP.out l[k] (List.getElem_mem hlt)).bool rfl
   have hn:numsOf 1 (l.take (k + 1)) = numsOf 1 (l.take k) ++ [uN l[k] % 2 ^ 1]:=by
    rw [List.take_succ_eq_append_getElem hlt];unfold numsOf;rw [List.map_append];rfl
   have hln:(numsOf 1 (l.take k)).length = k:=by simp [numsOf];omega
   have hu:uN l[k] % 2 ^ 1 = uN l[k]:=by unfold uN;omega
   rw [hu] at hn
   have h63:(numsOf 1 (l.take k)).length + 1 ≤ maxLen:=by rw [hln];unfold maxLen;omega
   have h64:((numsOf 1 (l.take k)).length + 1) * 8 ≤ 140737488355328:=by rw [hln];omega
   generalize l[k] = x at *
   have hin:(k:Int) < (l.length:Int):=by omega
   have hcv:=uN_wrap x
   have Hn:=Lib.hid hn
   clear hq hc hn hln hu hpx
   go_wp2_with (at_builtin;refine wpList_push rfl _ _ 145 rfl w.heap.size 84 i0 (.int .u64 0) 8 Tryz.underlying145 hi hz0 hz1 hz2 rfl natU (fun _=>rfl) _ _ rfl Ho.out _ _ rfl h63 h64 hb.size (uN x) rfl ?_;intro v' w1 hown' hb' hnn;have Ho':=Lib.hid hown';clear hown')
   go_roundw
   case rel=>exact ⟨k + 1,by omega,by go_num,rfl,by rw [Hn.out];exact Ho'.out,hb.trans hb'⟩
   case measure=>simp [intOf];omega
  ·obtain rfl:k = l.length:=by omega
   rw [List.take_length] at Ho
   obtain ⟨ad2,cap2,rfl⟩:=(numsU_nat Ho.out).form
   have HK:=Lib.hid (fun w2 (hb2:Below w.heap.size w w2) h=>packOf_any (.slice ad2 (ints (numsOf 1 l)).length cap2) (numsOf 1 l) 1 w2 h (by omega) (by simp [numsOf];omega) (numsOf_lt 1 l))
   have HO:=Lib.hid (numsU_nat Ho.out)
   have hpl:(packed 1 (numsOf 1 l)).length ≤ 20000:=by
    rw [packed,bytesOf_len]
    have:(numsOf 1 l).length = l.length:=by simp [numsOf]
    omega
   clear Ho
   generalize hacc:packed 1 (numsOf 1 l) = pk at *
   have Hacc:=Lib.hid hacc
   clear hacc
   go_wp2_with fail
   refine (HK.out _ hb HO.out).mono ?_;rintro e w2 ⟨rfl,hb2⟩
   go_wp2_with fail
   go_ret
   exact ⟨ret_of (by
    show Value.string (ByteArray.mk #[] ++ ByteArray.mk pk.toArray) = _
    rw [ByteArray.mk_append_mk,Hacc.out]
    simp),below_trans hb hb2⟩
end Go.Proofs.YtapiabmmfmfaeaaGreatDoor
/- Arguments that are values, opened. -/
namespace Go.Proofs.YtapiabmmfmfaeaaGreatDoor
set_option maxHeartbeats 2000000
set_option linter.unusedVariables false
open Go Go.RowKit Go.ChangeShapes Go.WideShapes Go.ChangeAt
end Go.Proofs.YtapiabmmfmfaeaaGreatDoor
