/- The walk of the document's ReadBestOf. -/
import Derived.Test.YtapiabmmfmfaeaaGreatDoorRfD
import Derived.Test.YtapiabmmfmfaeaaGreatDoorMRf
import Derived.Test.YtapiabmmfmfaeaaGreatDoorRdBe
namespace Go.Proofs.YtapiabmmfmfaeaaGreatDoor
set_option maxHeartbeats 2000000
set_option linter.unusedVariables false
open Go Go.RowKit Go.ChangeShapes
def BfRet (B:Nat) (r:Option (List Val)) (e:Ending) (w':World):Prop :=
 match r with
 | none=>e = .returned (.tuple #[.slice none 0 0,.int .i64 1])
 | some l=>∃ u,e = .returned (.tuple #[u,.int .i64 0]) ∧ w'.ownsRow B 41 3 u l.length (l.flatMap valCells)
set_option maxRecDepth 100000 in
theorem readBestOf_0 (kind:Int) (s:ByteArray) (n:Nat) (r:Option (List Val)) (w:World)
  (hC:Calls Tryz.prog 55 #[.int .i64 kind,.string s,.int .i64 (n:Nat)] w fun e w'=>RfRet w.heap.size r e w' ∧ Below w.heap.size w w') :
  Calls Tryz.prog 29 #[.int .i64 kind,.int .i64 0,.string s,.int .i64 (n:Nat)] w fun e w'=>BfRet w.heap.size r e w' ∧ Below w.heap.size w w':=by
 have HC:=Lib.hid hC
 clear hC
 cases r with
 | none =>
  go_enter Tryz.func29,Tryz.ntmps29
  go_wp2_with fail
  refine HC.out.mono ?_;rintro e w2 ⟨⟨u,rfl⟩,hb⟩
  go_wp2_with fail
  go_ret2
  exact ⟨rfl,hb⟩
 | some l =>
  go_enter Tryz.func29,Tryz.ntmps29
  go_wp2_with fail
  refine HC.out.mono ?_;rintro e w2 ⟨⟨u,rfl,ho⟩,hb⟩
  have HO:=Lib.hid ho
  obtain ⟨ad,cap,rfl⟩:=bslice_form ho
  clear ho
  go_wp2_with fail
  go_ret2
  exact ⟨⟨_,rfl,HO.out⟩,hb⟩
set_option maxRecDepth 100000 in
theorem readBestOf_1 (kind:Int) (s:ByteArray) (n:Nat) (r:Option (List Val)) (w:World)
  (hC:Calls Tryz.prog 59 #[.int .i64 kind,.string s,.int .i64 (n:Nat)] w fun e w'=>RfRet w.heap.size r e w' ∧ Below w.heap.size w w') :
  Calls Tryz.prog 29 #[.int .i64 kind,.int .i64 1,.string s,.int .i64 (n:Nat)] w fun e w'=>BfRet w.heap.size r e w' ∧ Below w.heap.size w w':=by
 have HC:=Lib.hid hC
 clear hC
 cases r with
 | none =>
  go_enter Tryz.func29,Tryz.ntmps29
  go_wp2_with fail
  refine HC.out.mono ?_;rintro e w2 ⟨⟨u,rfl⟩,hb⟩
  go_wp2_with fail
  go_ret2
  exact ⟨rfl,hb⟩
 | some l =>
  go_enter Tryz.func29,Tryz.ntmps29
  go_wp2_with fail
  refine HC.out.mono ?_;rintro e w2 ⟨⟨u,rfl,ho⟩,hb⟩
  have HO:=Lib.hid ho
  obtain ⟨ad,cap,rfl⟩:=bslice_form ho
  clear ho
  go_wp2_with fail
  go_ret2
  exact ⟨⟨_,rfl,HO.out⟩,hb⟩
set_option maxRecDepth 100000 in
theorem readBestOf_2 (kind:Int) (hk:kind = 2 ∨ kind = 3) (s:ByteArray) (n:Nat) (r:Option (List Val)) (w:World)
  (hC:Calls Tryz.prog 60 #[.int .i64 kind,.string s,.int .i64 (n:Nat)] w fun e w'=>RfRet w.heap.size r e w' ∧ Below w.heap.size w w') :
  Calls Tryz.prog 29 #[.int .i64 kind,.int .i64 2,.string s,.int .i64 (n:Nat)] w fun e w'=>BfRet w.heap.size r e w' ∧ Below w.heap.size w w':=by
 have HC:=Lib.hid hC
 clear hC
 rcases hk with rfl | rfl
 all_goals
  cases r with
  | none =>
   go_enter Tryz.func29,Tryz.ntmps29
   go_wp2_with fail
   refine HC.out.mono ?_;rintro e w2 ⟨⟨u,rfl⟩,hb⟩
   go_wp2_with fail
   go_ret2
   exact ⟨rfl,hb⟩
  | some l =>
   go_enter Tryz.func29,Tryz.ntmps29
   go_wp2_with fail
   refine HC.out.mono ?_;rintro e w2 ⟨⟨u,rfl,ho⟩,hb⟩
   have HO:=Lib.hid ho
   obtain ⟨ad,cap,rfl⟩:=bslice_form ho
   clear ho
   go_wp2_with fail
   go_ret2
   exact ⟨⟨_,rfl,HO.out⟩,hb⟩
set_option maxRecDepth 100000 in
theorem readBestOf_3 (s:ByteArray) (n:Nat) (w:World) (hn:n ≤ 20000) (hs:s.size ≤ 200000) :
  Calls Tryz.prog 29 #[.int .i64 4,.int .i64 3,.string s,.int .i64 (n:Nat)] w fun e w'=>BfRet w.heap.size ((readX s.data.toList n).map textsV) e w' ∧ Below w.heap.size w w':=by
 have HC:=Lib.hid (readPrefixOf_any s n w hn hs)
 go_enter Tryz.func29,Tryz.ntmps29
 go_wp2_with fail
 refine HC.out.mono ?_;rintro e w2 ⟨⟨u,ls,ok,rfl,hIs,hll,hr⟩,hb⟩
 have HI:=Lib.hid hIs;have Hr:=Lib.hid hr;have Hb:=Lib.hid hb
 have hbs:=hb.size
 obtain ⟨ad,cap,rfl⟩:=hIs.form
 clear hIs hb hr
 go_wp2_with fail
 go_loopw [10,13] (fun lv iv wr=>∃ j:Nat,j ≤ ls.length ∧ iv = .int .i64 (j:Nat) ∧ wr.ownsRow w2.heap.size 41 3 lv ((textsV (bytesL (ls.take j))).length) ((textsV (bytesL (ls.take j))).flatMap valCells) ∧ Below w2.heap.size w2 wr) (fun _ iv _=>ls.length - (intOf iv).toNat)
 case atStart=>exact ⟨0,Nat.zero_le _,rfl,World.ownsRow_nil _ _ _ _,Below.refl _ _⟩
 case round =>
  obtain ⟨j,hj,rfl,hown,hb9⟩:=hrel
  have Hown:=Lib.hid hown;have Hb9:=Lib.hid hb9
  have hbs9:=hb9.size
  clear hown hb9
  by_cases hlt:j < ls.length
  ·have hltI:(j:Int) < (ls.length:Int):=by omega
   obtain ⟨b0,off,rfl,hq,hlt0,hc⟩:=(HI.out.below Hb9.out (Nat.le_refl _)).at (by omega)
   have hcx:=hc j _ (List.getElem?_eq_getElem hlt)
   have htk:textsV (bytesL (ls.take (j + 1))) = textsV (bytesL (ls.take j)) ++ [⟨4,0,ls[j]⟩]:=by
    rw [List.take_succ_eq_append_getElem hlt]
    unfold textsV bytesL
    rw [List.map_append,List.map_append]
    rfl
   have hl2:(textsV (bytesL (ls.take j))).length ≤ 20000:=by
    unfold textsV bytesL
    rw [List.length_map,List.length_map,List.length_take];omega
   generalize ls[j] = b at *
   generalize textsV (bytesL (ls.take j)) = tv at *
   have Htk:=Lib.hid htk
   clear hc hq htk
   go_wp2_with (at_builtin;refine wpList_pushVal rfl _ _ rfl w2.heap.size _ tv rfl Hown.out _ _ rfl rfl hl2 hbs9 ⟨4,0,b⟩ _ rfl ?_;intro v' w8 hown' hgrow' hb';have HO8:=Lib.hid hown';have HB8:=Lib.hid (Hb9.out.trans hb');clear hown' hgrow' hb')
   go_roundw
   case rel =>
    have hO9:=HO8.out
    rw [← Htk.out] at hO9
    exact ⟨j + 1,by omega,by go_num,hO9,HB8.out⟩
   case measure=>simp [intOf];omega
  ·obtain rfl:j = ls.length:=by omega
   rw [List.take_length] at Hown
   obtain ⟨adl,capl,rfl⟩:=bslice_form Hown.out
   cases ok with
   | false =>
    go_wp2_with fail
    go_ret2
    refine ⟨?_,Hb.out.trans (Hb9.out.mono hbs)⟩
    rw [Hr.out]
    rfl
   | true =>
    go_wp2_with fail
    go_ret2
    refine ⟨?_,Hb.out.trans (Hb9.out.mono hbs)⟩
    rw [Hr.out]
    exact ⟨_,rfl,bown_base Hown.out hbs⟩
set_option maxRecDepth 100000 in
theorem readBestOf_shape (kind code:Int) (s:ByteArray) (n:Nat) (w:World)
  (h0:code ≠ 0) (h11:code ≠ 1) (h2:¬ (code = 2 ∧ (kind = 2 ∨ kind = 3))) (h3:¬ (code = 3 ∧ kind = 4)) :
  Calls Tryz.prog 29 #[.int .i64 kind,.int .i64 code,.string s,.int .i64 (n:Nat)] w fun e w'=>e = .returned (.tuple #[.slice none 0 0,.int .i64 3]) ∧ Below w.heap.size w w':=by
 have c0:(code == 0) = false:=by simpa using h0
 have c1:(code == 1) = false:=by simpa using h11
 by_cases c2:code = 2
 ·have k2:(kind == 2) = false:=by rw [beq_eq_false_iff_ne];exact fun e=>h2 ⟨c2,.inl e⟩
  have k3:(kind == 3) = false:=by rw [beq_eq_false_iff_ne];exact fun e=>h2 ⟨c2,.inr e⟩
  subst c2
  clear h2 h3 h0 h11
  go_enter Tryz.func29,Tryz.ntmps29
  go_wp2_with fail
  go_ret2
  exact ⟨rfl,Below.refl _ _⟩
 ·have d2:(code == 2) = false:=by simpa using c2
  by_cases c3:code = 3
  ·have k4:(kind == 4) = false:=by rw [beq_eq_false_iff_ne];exact fun e=>h3 ⟨c3,e⟩
   subst c3
   clear h2 h3 h0 h11
   go_enter Tryz.func29,Tryz.ntmps29
   go_wp2_with fail
   go_ret2
   exact ⟨rfl,Below.refl _ _⟩
  ·have d3:(code == 3) = false:=by simpa using c3
   clear h2 h3 h0 h11 c2 c3
   go_enter Tryz.func29,Tryz.ntmps29
   go_wp2_with fail
   go_ret2
   exact ⟨rfl,Below.refl _ _⟩
end Go.Proofs.YtapiabmmfmfaeaaGreatDoor
