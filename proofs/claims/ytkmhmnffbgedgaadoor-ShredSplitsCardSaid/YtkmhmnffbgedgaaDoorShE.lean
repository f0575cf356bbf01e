/- The walk of the laws' light. -/
import Derived.Test.YtkmhmnffbgedgaaDoorShD
import Derived.Test.YtkmhmnffbgedgaaDoorWk5
namespace Go.Proofs.YtkmhmnffbgedgaaDoor
set_option maxHeartbeats 16000000
set_option linter.unusedVariables false
set_option linter.unusedSimpArgs false
open Go Go.RowKit Go.ChangeShapes
theorem weightG_any (d:Dt) (u t:Value) (w:World) (hl:IsDts (· < w.heap.size) w u d.l) (hf:IsDts (· < w.heap.size) w t d.f) (hD:∀ y ∈ dts d,y.Ok1) :
  Calls Tryd.prog 34 #[.agg (dtA d u t)] w fun e w'=>∃ q:Int,(wgt d ≤ 4611686018427387904 → q = ((wgt d:Nat):Int)) ∧ e = .returned (.int .i64 q) ∧ Below w.heap.size w w':=by
 by_cases h:wgt d ≤ 4611686018427387904
 ·exact (weightE_any d u t w hl hf hD h).mono fun e w' ⟨h1,h2⟩=>⟨_,fun _=>rfl,h1,h2⟩
 ·exact (weight_any d u t w hl hf hD).mono fun e w' ⟨q,h1,h2⟩=>⟨q,fun h9=>absurd h9 h,h1,h2⟩
set_option maxRecDepth 100000 in
theorem light_gen (l:List Dt) (v:Value) (w:World) (hL:IsDts (· < w.heap.size) w v l) (hD:∀ y ∈ dtsL l,y.Ok1) (hlen:l.length * 88 ≤ 140737488355328) :
    Calls Tryd.prog 15 #[v] w fun e w'=>∃ q:Int,(wgtL l ≤ 4611686018427387904 → q = ((wgtL l:Nat):Int)) ∧ e = .returned (.bool (decide (l.length ≤ 150) && decide (q ≤ 3000))) ∧ Below w.heap.size w w':=by
  obtain ⟨al,cl,rfl⟩:=hL.form
  have HL:=Lib.hid hL;have HD:=Lib.hid hD
  obtain ⟨nl,hnl⟩:∃ nl,l.length = nl:=⟨_,rfl⟩
  rw [hnl] at HL hlen ⊢
  have HNL:=Lib.hid hnl;have HLB:=Lib.hid hlen
  clear hL hD hnl hlen
  go_enter Tryd.func15,Tryd.ntmps15
  go_wp2_with fail
  go_loopw [3,4] (fun s1 i wr=>∃ (k:Nat) (q:Int),k ≤ nl ∧ i = .int .i64 (k:Nat) ∧ s1 = .int .i64 q ∧ Hid (wgtL (l.take k) ≤ 4611686018427387904 → q = ((wgtL (l.take k):Nat):Int)) ∧ Hid (Below w.heap.size w wr)) (fun _ i _=>nl - (intOf i).toNat)
  case atStart=>exact ⟨0,_,Nat.zero_le _,rfl,rfl,Lib.hid (fun _=>by simp [wgtL]),Below.refl _ _⟩
  case round =>
    obtain ⟨k,q,hk,rfl,rfl,HQ,HBr⟩:=hrel
    by_cases hlt:k < nl
    case neg =>
      obtain rfl:k = nl:=Nat.le_antisymm hk (Nat.le_of_not_lt hlt)
      have dk:decide (k < k) = false:=by simp
      clear hlt hk
      have HQ2:=Lib.hid (show wgtL l ≤ 4611686018427387904 → q = ((wgtL l:Nat):Int) from fun h=>by
        have e:l.take k = l:=List.take_of_length_le (Nat.le_of_eq HNL.out)
        have:=HQ.out (by rw [e];exact h)
        rw [e] at this;exact this)
      go_wp2_with fail
      all_goals go_ret
      all_goals refine ⟨q,HQ2.out,?_,HBr.out⟩
      · rename_i h
        rw [decide_eq_true (show k ≤ 150 by omega),Bool.true_and]
        rfl
      · rename_i h
        rw [decide_eq_false (show ¬ k ≤ 150 by omega),Bool.false_and]
        rfl
    obtain ⟨x,hx⟩:∃ x,l[k]? = some x:=⟨_,List.getElem?_eq_getElem (by rw [HNL.out];exact hlt)⟩
    have hxm:x ∈ l:=List.mem_of_getElem? hx
    have hbw:=HBr.out
    obtain ⟨b1,off1,h17,hPb1,hb1,hat1⟩:=(HL.out.under hbw).at (by rw [HNL.out];omega)
    subst h17
    obtain ⟨xu,xt,hcx,hu,ht⟩:=hat1 k x hx
    obtain ⟨xau,xcu,rfl⟩:=hu.form
    obtain ⟨xaf,xcf,rfl⟩:=ht.form
    have hcl:=weightG_any x (.slice xau x.l.length xcu) (.slice xaf x.f.length xcf) wr (hu.mono fun b hb _=>Nat.lt_of_lt_of_le hb hbw.size) (ht.mono fun b hb _=>Nat.lt_of_lt_of_le hb hbw.size) (fun z hz=>HD.out z (dtsL_mem hxm hz))
    have HT:=Lib.hid (wgtL_take hx)
    unfold DtAt dtA at hcx
    unfold dtA at hcl
    have HCX:=Lib.hid hcx;have HCL:=Lib.hid hcl;have Hlt:=Lib.hid hlt
    have hin:(k:Int) < (nl:Int):=Int.ofNat_lt.2 hlt
    have dk:decide (k < nl) = true:=decide_eq_true hlt
    clear hx hxm hbw hat1 hcx hu ht hcl hlt hk hPb1 hb1
    go_wp2_with (refine wpList_load_cells rfl 63 _ rfl b1 (off1 + k * 6) rfl #[.bool x.no,.int .i64 x.v.k,.int .i64 x.v.n,.string x.v.s,.slice xau x.l.length xcu,.slice xaf x.f.length xcf] _ HCX.out Tryd.underlying63 rfl dt_info ?_)
    refine HCL.out.mono ?_;rintro e w4 ⟨q2,hq2,rfl,hb4⟩
    have HB4:=Lib.hid (HBr.out.trans (hb4.mono HBr.out.size));have HQ2:=Lib.hid hq2
    clear hb4 HCL HCX hq2
    have hcap:=HLB.out
    go_wp2_with fail
    go_roundw
    case rel=>exact ⟨k + 1,_,Hlt.out,by go_num,rfl,Lib.hid (fun h=>by
      have h1:=HT.out
      rw [wrap_nat (HQ.out (by omega)) (HQ2.out (by omega)) (by omega),h1.1]),HB4.out⟩
    case measure=>have:=Hlt.out;simp [intOf];omega
end Go.Proofs.YtkmhmnffbgedgaaDoor
