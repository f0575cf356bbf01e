/- The walk of enc.ReadBest. -/
import Derived.Test.YtapiabmmfmfaeaaGreatDoorRdDi
import Derived.Test.YtapiabmmfmfaeaaGreatDoorMRd
import Derived.Test.YtapiabmmfmfaeaaGreatDoorRdDa
import Derived.Test.YtapiabmmfmfaeaaGreatDoorRdDb
namespace Go.Proofs.YtapiabmmfmfaeaaGreatDoor
set_option maxHeartbeats 2000000
set_option linter.unusedVariables false
open Go Go.RowKit Go.ChangeShapes
theorem readDelta_any (kind:Int) (hk:kind = 2 ∨ kind = 3) (s:ByteArray) (n:Nat) (T:TypeId) (x:Value) (w:World) (adr:Nat → Addr) (hE:ErrsAt w adr [2,4]) (hn:n ≤ 20000) (hs:s.size ≤ 200000) (hev:w.cell? ⟨1,0,none⟩ = some (.iface T x)) :
  Calls Tryz.prog 49 #[.int .i64 kind,.string s,.int .i64 (n:Nat)] w fun e w'=>RdRet (.iface T x) w.heap.size (readD kind s.data.toList n) e w' ∧ Below w.heap.size w w':=by
 rcases Nat.eq_zero_or_pos n with rfl | h0
 ·exact readDelta_zero kind hk s _ _ w hev
 ·rcases hk with hk | hk
  ·exact readDelta_pos2 kind hk s n _ _ w adr hE h0 hn hs hev
  ·exact readDelta_pos3 kind hk s n _ _ w adr hE h0 hn hs hev
set_option maxRecDepth 100000 in
theorem readBest_0 (kind:Int) (s:ByteArray) (n:Nat) (ev:Value) (r:Option (List Val)) (w:World) (h1:1 ≤ kind) (h5:kind ≤ 5) (hn:n ≤ 20000)
  (hC:Calls Tryz.prog 47 #[.int .i64 kind,.string s,.int .i64 (n:Nat)] w fun e w'=>RdRet ev w.heap.size r e w' ∧ Below w.heap.size w w') :
  Calls Tryz.prog 20 #[.int .i64 kind,.int .i64 0,.string s,.int .i64 (n:Nat)] w fun e w'=>RdRet ev w.heap.size r e w' ∧ Below w.heap.size w w':=by
 have HK:=Lib.hid (known_ok kind n w h1 h5 (by omega) (by omega))
 have HC:=Lib.hid hC
 clear hC
 cases r with
 | none =>
  go_enter Tryz.func20,Tryz.ntmps20
  go_wp2_with fail
  refine HK.out.mono ?_;rintro e w1 ⟨rfl,hw1⟩
  subst hw1
  go_wp2_with fail
  refine HC.out.mono ?_;rintro e w2 ⟨rfl,hb⟩
  go_wp2_with fail
  go_ret2
  exact ⟨rfl,hb⟩
 | some l =>
  go_enter Tryz.func20,Tryz.ntmps20
  go_wp2_with fail
  refine HK.out.mono ?_;rintro e w1 ⟨rfl,hw1⟩
  subst hw1
  go_wp2_with fail
  refine HC.out.mono ?_;rintro e w2 ⟨⟨u,rfl,ho⟩,hb⟩
  have HO:=Lib.hid ho
  obtain ⟨ad,cap,rfl⟩:=bslice_form ho
  clear ho
  go_wp2_with fail
  go_ret2
  exact ⟨⟨_,rfl,HO.out⟩,hb⟩
set_option maxRecDepth 100000 in
theorem readBest_1 (kind:Int) (s:ByteArray) (n:Nat) (ev:Value) (r:Option (List Val)) (w:World) (h1:1 ≤ kind) (h5:kind ≤ 5) (hn:n ≤ 20000)
  (hC:Calls Tryz.prog 48 #[.int .i64 kind,.string s,.int .i64 (n:Nat)] w fun e w'=>RdRet ev w.heap.size r e w' ∧ Below w.heap.size w w') :
  Calls Tryz.prog 20 #[.int .i64 kind,.int .i64 1,.string s,.int .i64 (n:Nat)] w fun e w'=>RdRet ev w.heap.size r e w' ∧ Below w.heap.size w w':=by
 have HK:=Lib.hid (known_ok kind n w h1 h5 (by omega) (by omega))
 have HC:=Lib.hid hC
 clear hC
 cases r with
 | none =>
  go_enter Tryz.func20,Tryz.ntmps20
  go_wp2_with fail
  refine HK.out.mono ?_;rintro e w1 ⟨rfl,hw1⟩
  subst hw1
  go_wp2_with fail
  refine HC.out.mono ?_;rintro e w2 ⟨rfl,hb⟩
  go_wp2_with fail
  go_ret2
  exact ⟨rfl,hb⟩
 | some l =>
  go_enter Tryz.func20,Tryz.ntmps20
  go_wp2_with fail
  refine HK.out.mono ?_;rintro e w1 ⟨rfl,hw1⟩
  subst hw1
  go_wp2_with fail
  refine HC.out.mono ?_;rintro e w2 ⟨⟨u,rfl,ho⟩,hb⟩
  have HO:=Lib.hid ho
  obtain ⟨ad,cap,rfl⟩:=bslice_form ho
  clear ho
  go_wp2_with fail
  go_ret2
  exact ⟨⟨_,rfl,HO.out⟩,hb⟩
set_option maxRecDepth 100000 in
theorem readBest_2 (kind:Int) (hk:kind = 2 ∨ kind = 3) (s:ByteArray) (n:Nat) (ev:Value) (r:Option (List Val)) (w:World) (hn:n ≤ 20000)
  (hC:Calls Tryz.prog 49 #[.int .i64 kind,.string s,.int .i64 (n:Nat)] w fun e w'=>RdRet ev w.heap.size r e w' ∧ Below w.heap.size w w') :
  Calls Tryz.prog 20 #[.int .i64 kind,.int .i64 2,.string s,.int .i64 (n:Nat)] w fun e w'=>RdRet ev w.heap.size r e w' ∧ Below w.heap.size w w':=by
 have HK:=Lib.hid (known_ok kind n w (by omega) (by omega) (by omega) (by omega))
 have HC:=Lib.hid hC
 clear hC
 rcases hk with rfl | rfl
 all_goals
  cases r with
  | none =>
   go_enter Tryz.func20,Tryz.ntmps20
   go_wp2_with fail
   refine HK.out.mono ?_;rintro e w1 ⟨rfl,hw1⟩
   subst hw1
   go_wp2_with fail
   refine HC.out.mono ?_;rintro e w2 ⟨rfl,hb⟩
   go_wp2_with fail
   go_ret2
   exact ⟨rfl,hb⟩
  | some l =>
   go_enter Tryz.func20,Tryz.ntmps20
   go_wp2_with fail
   refine HK.out.mono ?_;rintro e w1 ⟨rfl,hw1⟩
   subst hw1
   go_wp2_with fail
   refine HC.out.mono ?_;rintro e w2 ⟨⟨u,rfl,ho⟩,hb⟩
   have HO:=Lib.hid ho
   obtain ⟨ad,cap,rfl⟩:=bslice_form ho
   clear ho
   go_wp2_with fail
   go_ret2
   exact ⟨⟨_,rfl,HO.out⟩,hb⟩
def textsV (L:List (List UInt8)):List Val:=L.map textV
set_option maxRecDepth 100000 in
theorem readBest_3 (s:ByteArray) (n:Nat) (T:TypeId) (x:Value) (w:World) (hn:n ≤ 20000) (hs:s.size ≤ 200000) (hev:w.cell? ⟨1,0,none⟩ = some (.iface T x)) :
  Calls Tryz.prog 20 #[.int .i64 4,.int .i64 3,.string s,.int .i64 (n:Nat)] w fun e w'=>RdRet (.iface T x) w.heap.size ((readX s.data.toList n).map textsV) e w' ∧ Below w.heap.size w w':=by
 have HK:=Lib.hid (known_ok 4 n w (by omega) (by omega) (by omega) (by omega))
 have HC:=Lib.hid (readPrefix_any s n T x w hn hs hev)
 clear hev
 cases hX:readX s.data.toList n with
 | none =>
  rw [hX] at HC
  clear hX
  go_enter Tryz.func20,Tryz.ntmps20
  go_wp2_with fail
  refine HK.out.mono ?_;rintro e w1 ⟨rfl,hw1⟩
  subst hw1
  go_wp2_with fail
  refine HC.out.mono ?_;rintro e w2 ⟨rfl,hb⟩
  go_wp2_with fail
  go_ret2
  exact ⟨rfl,hb⟩
 | some L =>
  rw [hX] at HC
  have hxi:=(readX_inv hX).2.1
  have hLn:L.length ≤ 20000:=by omega
  clear hX hxi
  go_enter Tryz.func20,Tryz.ntmps20
  go_wp2_with fail
  refine HK.out.mono ?_;rintro e w1 ⟨rfl,hw1⟩
  subst hw1
  go_wp2_with fail
  refine HC.out.mono ?_;rintro e w2 ⟨⟨u,ls,rfl,hbl,ho⟩,hb⟩
  have hll:ls.length ≤ 20000:=by rw [← hbl] at hLn;simpa [bytesL] using hLn
  have HI:=Lib.hid (IsStrs.of_own ho)
  have Hbl:=Lib.hid hbl;have Hb:=Lib.hid hb
  have hbs:=hb.size
  obtain ⟨ad,cap,rfl⟩:=bslice_form ho
  clear ho hbl hb hLn
  go_wp2_with fail
  go_loopw [13,75] (fun lv iv wr=>∃ j:Nat,j ≤ ls.length ∧ iv = .int .i64 (j:Nat) ∧ wr.ownsRow w2.heap.size 41 3 lv ((textsV (bytesL (ls.take j))).length) ((textsV (bytesL (ls.take j))).flatMap valCells) ∧ Below w2.heap.size w2 wr) (fun _ iv _=>ls.length - (intOf iv).toNat)
  case atStart=>exact ⟨0,Nat.zero_le _,rfl,World.ownsRow_nil _ _ _ _,Below.refl _ _⟩
  case round =>
   obtain ⟨j,hj,rfl,hown,hb9⟩:=hrel
   have Hown:=Lib.hid hown;have Hb9:=Lib.hid hb9
   have hbs9:=hb9.size
   clear hown hb9
   by_cases hlt:j < ls.length
   ·have hltI:(j:Int) < (ls.length:Int):=by omega
    obtain ⟨b0,off,rfl,hq,hlt0,hc⟩:=(HI.out.below Hb9.out (Nat.le_refl _)).at (by omega)
    have hcx:=hc j _ (List.getElem?_eq_getElem hlt)
    have htk:textsV (bytesL (ls.take (j + 1))) = textsV (bytesL (ls.take j)) ++ [⟨4,0,ls[j]⟩]:=by
     rw [List.take_succ_eq_append_getElem hlt]
     unfold textsV bytesL
     rw [List.map_append,List.map_append]
     rfl
    have hl2:(textsV (bytesL (ls.take j))).length ≤ 20000:=by
     unfold textsV bytesL
     rw [List.length_map,List.length_map,List.length_take];omega
    generalize ls[j] = b at *
    generalize textsV (bytesL (ls.take j)) = tv at *
    have Htk:=Lib.hid htk
    clear hc hq htk
    go_wp2_with (at_builtin;refine wpList_pushVal rfl _ _ rfl w2.heap.size _ tv rfl Hown.out _ _ rfl rfl hl2 hbs9 ⟨4,0,b⟩ _ rfl ?_;intro v' w8 hown' hgrow' hb';have HO8:=Lib.hid hown';have HB8:=Lib.hid (Hb9.out.trans hb');clear hown' hgrow' hb')
    go_roundw
    case rel =>
     have hO9:=HO8.out
     rw [← Htk.out] at hO9
     exact ⟨j + 1,by omega,by go_num,hO9,HB8.out⟩
    case measure=>simp [intOf];omega
   ·obtain rfl:j = ls.length:=by omega
    rw [List.take_length,Hbl.out] at Hown
    obtain ⟨adl,capl,rfl⟩:=bslice_form Hown.out
    go_wp2_with fail
    go_ret2
    exact ⟨⟨_,rfl,bown_base Hown.out hbs⟩,Hb.out.trans (Hb9.out.mono hbs)⟩
set_option maxRecDepth 100000 in
theorem readBest_shape (kind code:Int) (s:ByteArray) (n:Nat) (v:Value) (w:World) (h1:1 ≤ kind) (h5:kind ≤ 5) (hn:n ≤ 20000) (hev:w.cell? ⟨0,0,none⟩ = some v)
  (h0:code ≠ 0) (h11:code ≠ 1) (h2:¬ (code = 2 ∧ (kind = 2 ∨ kind = 3))) (h3:¬ (code = 3 ∧ kind = 4)) :
  Calls Tryz.prog 20 #[.int .i64 kind,.int .i64 code,.string s,.int .i64 (n:Nat)] w fun e w'=>e = .returned (.tuple #[.slice none 0 0,v]) ∧ Below w.heap.size w w':=by
 have HK:=Lib.hid (known_ok kind n w h1 h5 (by omega) (by omega))
 have c0:(code == 0) = false:=by simpa using h0
 have c1:(code == 1) = false:=by simpa using h11
 by_cases c2:code = 2
 ·have k2:(kind == 2) = false:=by rw [beq_eq_false_iff_ne];exact fun e=>h2 ⟨c2,.inl e⟩
  have k3:(kind == 3) = false:=by rw [beq_eq_false_iff_ne];exact fun e=>h2 ⟨c2,.inr e⟩
  subst c2
  clear h2 h3 h0 h11
  go_enter Tryz.func20,Tryz.ntmps20
  go_wp2_with fail
  refine HK.out.mono ?_;rintro e w1 ⟨rfl,hw1⟩
  subst hw1
  go_wp2_with fail
  go_quiet (fail)
  go_wp2_with fail
  go_ret2
  exact ⟨rfl,below_drewN (Below.refl _ _) _⟩
 ·have d2:(code == 2) = false:=by simpa using c2
  by_cases c3:code = 3
  ·have k4:(kind == 4) = false:=by rw [beq_eq_false_iff_ne];exact fun e=>h3 ⟨c3,e⟩
   subst c3
   clear h2 h3 h0 h11
   go_enter Tryz.func20,Tryz.ntmps20
   go_wp2_with fail
   refine HK.out.mono ?_;rintro e w1 ⟨rfl,hw1⟩
   subst hw1
   go_wp2_with fail
   go_quiet (fail)
   go_wp2_with fail
   go_ret2
   exact ⟨rfl,below_drewN (Below.refl _ _) _⟩
  ·have d3:(code == 3) = false:=by simpa using c3
   clear h2 h3 h0 h11 c2 c3
   go_enter Tryz.func20,Tryz.ntmps20
   go_wp2_with fail
   refine HK.out.mono ?_;rintro e w1 ⟨rfl,hw1⟩
   subst hw1
   go_wp2_with fail
   go_quiet (fail)
   go_wp2_with fail
   go_ret2
   exact ⟨rfl,below_drewN (Below.refl _ _) _⟩
end Go.Proofs.YtapiabmmfmfaeaaGreatDoor
