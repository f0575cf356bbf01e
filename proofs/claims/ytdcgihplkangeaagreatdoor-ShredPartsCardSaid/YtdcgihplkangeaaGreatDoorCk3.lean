/- The walks of shred.Begins and of the document's CountOf. -/
import Derived.Test.YtdcgihplkangeaaGreatDoorMCol
import Derived.Test.YtdcgihplkangeaaGreatDoorMEnc
import Derived.Test.YtdcgihplkangeaaGreatDoorColC
namespace Go.Proofs.YtdcgihplkangeaaGreatDoor
set_option maxHeartbeats 4000000
set_option linter.unusedVariables false
open Go Go.RowKit Go.ChangeShapes
theorem begs_short (l:List Int) (k:Nat):(begs (l.take k)).length ≤ k:=by
 rw [begs_len]
 unfold countC
 exact Nat.le_trans (List.length_filter_le _ _) (by rw [List.length_take];omega)
set_option maxRecDepth 100000 in
theorem begins_any (c:Col) (vc:Value) (w:World) (hc:IsCol w vc c) (hl:c.rep.length ≤ 100000) :
  Calls Tryz.prog 30 #[vc] w fun e w'=>(∃ u,e = .returned u ∧ w'.ownsRow w.heap.size 3 1 u (begs c.rep).length ((begs c.rep).map natV)) ∧ Below w.heap.size w w':=by
 obtain ⟨i0,hi,hz0,hz1,hz2⟩:=info_parts info_int
 obtain ⟨a,b,d,rfl,ha,hb,hd⟩:=hc
 have HA:=Lib.hid ha
 obtain ⟨a1,q1,e1⟩:=ha.form
 subst e1
 clear ha hb hd
 unfold colA
 go_enter Tryz.func30,Tryz.ntmps30
 go_wp2_with fail
 go_loopw [3,9] (fun u i wr=>∃ k:Nat,k ≤ c.rep.length ∧ i = .int .i64 k ∧ wr.ownsRow w.heap.size 3 1 u (begs (c.rep.take k)).length ((begs (c.rep.take k)).map natV) ∧ Below w.heap.size w wr) (fun _ i _=>c.rep.length - (intOf i).toNat)
 case atStart=>exact ⟨0,Nat.zero_le _,rfl,World.ownsRow_nil _ _ _ _,(Below.refl _ _).alloc (Nat.le_refl _) _⟩
 case round =>
  obtain ⟨k,hk,rfl,hown,hb⟩:=hrel
  have Ho:=Lib.hid hown;have Hb:=Lib.hid hb
  have hJ:=HA.out.below hb (Nat.le_refl _)
  clear hown hb
  by_cases hlt:k < c.rep.length
  ·obtain ⟨g2,o2,rfl,_,_,e2⟩:=hJ.at (by omega)
   have v2:=e2 k c.rep[k] (List.getElem?_eq_getElem hlt)
   have HS:=Lib.hid (begs_take c.rep k hlt)
   have hsh:=begs_short c.rep k
   clear e2
   generalize hx:c.rep[k] = x at *
   clear hx
   by_cases h0:x = 0
   ·have hz:(x == 0) = true:=by rw [h0];rfl
    rw [if_pos h0] at HS
    have h63:(begs (c.rep.take k)).length + 1 ≤ maxLen:=by unfold maxLen;omega
    have h64:((begs (c.rep.take k)).length + 1) * 8 ≤ 140737488355328:=by omega
    generalize begs (c.rep.take k) = L at *
    clear h0
    go_wp2_with (at_builtin;refine wpList_push rfl _ _ 22 rfl w.heap.size 3 i0 (.int .i64 0) 8 Tryz.underlying22 hi hz0 hz1 hz2 rfl natV (fun _=>rfl) _ _ rfl Ho.out _ _ rfl h63 h64 Hb.out.size k rfl ?_;intro v' w2 hown' hb' hnn;have Ho':=Lib.hid hown';have Hb':=Lib.hid hb';clear hown' hb')
    go_roundw
    case rel=>exact ⟨k + 1,hlt,by go_num,by rw [HS.out];exact Ho'.out,Hb.out.trans Hb'.out⟩
    case measure=>simp [intOf];omega
   ·have hz:(x == 0) = false:=by simpa using h0
    rw [if_neg h0,List.append_nil] at HS
    generalize begs (c.rep.take k) = L at *
    clear h0
    go_wp2_with fail
    go_roundw
    case rel=>exact ⟨k + 1,hlt,by go_num,by rw [HS.out];exact Ho.out,Hb.out⟩
    case measure=>simp [intOf];omega
  ·obtain rfl:k = c.rep.length:=by omega
   rw [List.take_length] at Ho
   go_wp2_with fail
   go_ret
   exact ⟨⟨_,rfl,Ho.out⟩,Hb.out⟩
set_option maxRecDepth 100000 in
theorem countOf_any (c:Col) (vc:Value) (w:World) (hc:IsCol w vc c) (hl:c.rep.length ≤ 100000) :
  Calls Tryz.prog 8 #[vc] w fun e w'=>e = .returned (.int .i64 (countC c.rep:Nat)) ∧ Below w.heap.size w w':=by
 obtain ⟨a,b,d,rfl,ha,hb,hd⟩:=hc
 have HA:=Lib.hid ha
 obtain ⟨a1,q1,e1⟩:=ha.form
 subst e1
 clear ha hb hd
 unfold colA
 go_enter Tryz.func8,Tryz.ntmps8
 go_upto_region 3 with fail
 obtain ⟨rB,hbw,hz⟩:=rows1 (w:=w) (A:=.cells #[.int .i64 c.id,.slice a1 c.rep.length q1,b,d] 27) (Below.refl _ _)
 have RB:=Lib.hid rB;have Hbw:=Lib.hid hbw
 clear rB hbw hz
 generalize w.alloc (.cells #[.int .i64 c.id,.slice a1 c.rep.length q1,b,d] 27) = w0 at *
 have cB:=rowc RB.out;have fB:=rowf RB.out
 go_loop [3,4] (fun n i=>∃ k:Nat,k ≤ c.rep.length ∧ i = .int .i64 k ∧ n = .int .i64 (countC (c.rep.take k):Nat)) (fun _ i=>c.rep.length - (intOf i).toNat)
 case atStart=>exact ⟨0,Nat.zero_le _,rfl,rfl⟩
 case round =>
  obtain ⟨k,hk,rfl,rfl⟩:=hrel
  have hJ:=HA.out.below Hbw.out (Nat.le_refl _)
  by_cases hlt:k < c.rep.length
  ·obtain ⟨g2,o2,rfl,_,_,e2⟩:=hJ.at (by omega)
   have v2:=e2 k c.rep[k] (List.getElem?_eq_getElem hlt)
   have HS:=Lib.hid (countC_take c.rep k hlt)
   have hsh:countC (c.rep.take k) ≤ k:=by rw [← begs_len];exact begs_short c.rep k
   clear e2
   generalize hx:c.rep[k] = x at *
   clear hx
   by_cases h0:x = 0
   ·have hz:(x == 0) = true:=by rw [h0];rfl
    rw [if_pos h0] at HS
    generalize countC (c.rep.take k) = L at *
    clear h0
    go_wp2_with fail
    go_round
    case rel=>exact ⟨k + 1,hlt,by go_num,by rw [HS.out];go_num⟩
    case measure=>simp [intOf];omega
   ·have hz:(x == 0) = false:=by simpa using h0
    rw [if_neg h0,Nat.add_zero] at HS
    generalize countC (c.rep.take k) = L at *
    clear h0
    go_wp2_with fail
    go_round
    case rel=>exact ⟨k + 1,hlt,by go_num,by rw [HS.out];rfl⟩
    case measure=>simp [intOf];omega
  ·obtain rfl:k = c.rep.length:=by omega
   rw [List.take_length]
   go_wp2_with fail
   go_ret
   exact ⟨rfl,Hbw.out⟩
end Go.Proofs.YtdcgihplkangeaaGreatDoor
