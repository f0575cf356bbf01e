/- Merged texts: Best1, Best2, Best3. -/
import Derived.Test.YtapiabmmfmfaeaaGreatDoorMPre
import Derived.Test.YtapiabmmfmfaeaaGreatDoorMDict
import Derived.Test.YtapiabmmfmfaeaaGreatDoorMDelc
/- The walks of enc.texts, the document's TextsOf, and enc.Best's own try. -/
namespace Go.Proofs.YtapiabmmfmfaeaaGreatDoor
set_option maxHeartbeats 4000000
set_option linter.unusedVariables false
open Go Go.RowKit Go.ChangeShapes
def strsV (l:List Val):List ByteArray:=l.map (·.s)
def BestAt (bc bs:Nat) (k:Int) (s:List UInt8) (w:World):Prop :=
 w.heap[bc]? = some (.cells #[.int .i64 k] 3 (0,0)) ∧ w.heap[bs]? = some (.cells #[.string ⟨s.toArray⟩] 9 (0,0))
theorem BestAt.below {bc bs:Nat} {k:Int} {s:List UInt8} {w w':World} (h:BestAt bc bs k s w) (hb:Below w.heap.size w w'):BestAt bc bs k s w' :=
 ⟨(hb.block _ (Array.getElem?_eq_some_iff.1 h.1).1).trans h.1,(hb.block _ (Array.getElem?_eq_some_iff.1 h.2).1).trans h.2⟩
def tryS (a:Int × List UInt8) (k:Int) (t:List UInt8):Int × List UInt8:=if t.length < a.2.length then (k,t) else a
set_option maxRecDepth 100000 in
theorem try_nil (B bc bs:Nat) (hBc:B ≤ bc) (hBs:B ≤ bs) (hne:bc ≠ bs) (k k':Int) (s t:List UInt8) (w:World) (h:BestAt bc bs k s w) (hs:s.length ≤ 100000000) (ht:t.length ≤ 100000000) :
  Calls Tryz.prog 105 #[.int .i64 k',.string ⟨t.toArray⟩,.nilIface,.pointer (some ⟨bs,0,none⟩),.pointer (some ⟨bc,0,none⟩)] w fun e w'=>e = .returned (.tuple #[]) ∧ BestAt bc bs (tryS (k,s) k' t).1 (tryS (k,s) k' t).2 w' ∧ Below B w w':=by
 have c0:w.cell? ⟨bs,0,none⟩ = some (.string ⟨s.toArray⟩):=by rw [Lib.cell_of_heap h.2];rfl
 have f0:w.frozen? ⟨bs,0,none⟩ = false:=Lib.frozen_of_heap h.2 0
 have f1:w.frozen? ⟨bc,0,none⟩ = false:=Lib.frozen_of_heap h.1 0
 have q1:w.cell? ⟨bc,0,none⟩ = some (.int .i64 k):=by rw [Lib.cell_of_heap h.1];rfl
 have H:=Lib.hid h
 clear h
 by_cases hl:t.length < s.length
 ·have d1:decide ((t.length:Int) < (s.length:Int)) = true:=by simp;omega
  have ht':tryS (k,s) k' t = (k',t):=if_pos hl
  rw [ht']
  clear ht'
  go_enter Tryz.func105,Tryz.ntmps105
  go_wp2_with fail
  go_end0
  refine ⟨rfl,⟨?_,?_⟩,((Below.refl _ _).setCell (p:=⟨bc,0,none⟩) hBc _).setCell (p:=⟨bs,0,none⟩) hBs _⟩
  ·rw [heap_setCell_other _ _ _ _ hne,heap_setCell_same _ _ _ _ _ _ H.out.1];rfl
  ·rw [heap_setCell_same _ _ _ _ _ _ (show (w.setCell ⟨bc,0,none⟩ (.int .i64 k')).heap[bs]? = some (.cells #[.string ⟨s.toArray⟩] 9 (0,0)) by rw [heap_setCell_other _ _ _ _ (Ne.symm hne)];exact H.out.2)];rfl
 ·have d1:decide (t.length < s.length) = false:=by simp;omega
  have ht':tryS (k,s) k' t = (k,s):=if_neg hl
  rw [ht']
  clear ht'
  go_enter Tryz.func105,Tryz.ntmps105
  go_wp2_with fail
  go_end0
  exact ⟨rfl,H.out,Below.refl _ _⟩
set_option maxRecDepth 100000 in
theorem try_err (bc bs:Nat) (k':Int) (t:ByteArray) (T:TypeId) (hT:T = 211 ∨ T = 107) (a:Addr) (w:World) :
  Calls Tryz.prog 105 #[.int .i64 k',.string t,.iface T (.pointer (some a)),.pointer (some ⟨bs,0,none⟩),.pointer (some ⟨bc,0,none⟩)] w fun e w'=>e = .returned (.tuple #[]) ∧ w' = w:=by
 rcases hT with rfl | rfl
 all_goals
  go_enter Tryz.func105,Tryz.ntmps105
  go_wp2_with fail
  go_end0
  exact ⟨rfl,rfl⟩
end Go.Proofs.YtapiabmmfmfaeaaGreatDoor
/- The walk of enc.Best. -/
namespace Go.Proofs.YtapiabmmfmfaeaaGreatDoor
set_option maxHeartbeats 4000000
set_option linter.unusedVariables false
open Go Go.RowKit Go.ChangeShapes
theorem tryS_len (a:Int × List UInt8) (k:Int) (t:List UInt8):(tryS a k t).2.length ≤ a.2.length:=by
 unfold tryS;split
 ·exact Nat.le_of_lt ‹_›
 ·exact Nat.le_refl _
def best1 (kind:Int) (l:List Val):Int × List UInt8:=tryS (0,plainB kind l) 1 (dictB kind l)
def best2 (kind:Int) (l:List Val):Int × List UInt8:=if kind = 2 ∨ kind = 3 then tryS (best1 kind l) 2 (deltaB (numsI l)) else best1 kind l
def bestB (kind:Int) (l:List Val):Int × List UInt8:=if kind = 4 then tryS (best2 kind l) 3 (prefixB [] (bytesL (strsV l))) else best2 kind l
theorem dictB_len {kind:Int} {l:List Val} (hl:l.length ≤ 1000) (hO:∀ x ∈ l,x.Ok) (hP:∀ x ∈ l,OkP kind x):(dictB kind l).length ≤ 1000000:=by
 obtain ⟨uO,uP⟩:=unlike_right hO hP
 have hul:=(unlikeV_len l []).2
 have hpl:=placesV_len l []
 rw [List.length_nil,Nat.zero_add] at hul
 have hplen:=plainB_len kind (unlikeV [] l) fun h4 x hx=>((uP x hx).text h4).2
 have hrl:=runsB_len (placeW (unlikeV [] l).length) (placeW_le (by omega)) _ (placesV [] l) [] rfl (by simp;omega)
 rw [List.length_nil,hpl] at hrl
 have hs7:=seven_len (show (unlikeV [] l).length < 18446744073709551616 by omega)
 have hs8:=seven_len (show (plainB kind (unlikeV [] l)).length < 18446744073709551616 by omega)
 unfold dictB textOf
 rw [List.length_append,List.length_append,List.length_append]
 omega
theorem delta_tried (kind:Int) (v:Value) (l:List Val) (w:World) (adr:Nat → Addr) (hE:ErrsAt w adr [2,4]) (hI:IsVals w v l) (hO:∀ x ∈ l,x.Ok) (hn:valsErr kind l = .nil) (hl:l.length ≤ 1000) (hk1:kind = 1) :
  ∃ (td:List UInt8) (ev:Value),(∀ w1,Below w.heap.size w w1 → Calls Tryz.prog 82 #[.int .i64 kind,v] w1 fun e w'=>e = .returned (.tuple #[.string ⟨td.toArray⟩,ev]) ∧ Below w1.heap.size w1 w') ∧
   ∀ (B bc bs:Nat) (w1:World),B ≤ bc → B ≤ bs → bc ≠ bs → (best1 kind l).2.length ≤ 100000000 → BestAt bc bs (best1 kind l).1 (best1 kind l).2 w1 →
    Calls Tryz.prog 105 #[.int .i64 2,.string ⟨td.toArray⟩,ev,.pointer (some ⟨bs,0,none⟩),.pointer (some ⟨bc,0,none⟩)] w1 fun e w'=>e = .returned (.tuple #[]) ∧ BestAt bc bs (best2 kind l).1 (best2 kind l).2 w' ∧ Below B w1 w':=by
 by_cases hk:kind = 2 ∨ kind = 3
 ·exfalso;omega
 ·refine ⟨[],_,fun w1 hb=>delta_kind kind v l w1 adr (hE.below hb) (hI.below hb (Nat.le_refl _)) (fun h=>hk (.inl h)) (fun h=>hk (.inr h)),fun B bc bs w1 h1 h2 h3 h4 h5=>?_⟩
  unfold best2
  rw [if_neg hk]
  exact (try_err bc bs 2 _ _ (.inl rfl) (adr 4) w1).mono fun e w' ⟨g1,g2⟩=>⟨g1,by rw [g2];exact h5,by rw [g2];exact Below.refl _ _⟩
set_option maxRecDepth 100000 in
theorem best_ok (kind:Int) (v:Value) (l:List Val) (w:World) (adr:Nat → Addr) (hE:ErrsAt w adr [2,4]) (hI:IsVals w v l) (hl:l.length ≤ 1000) (hO:∀ x ∈ l,x.Ok) (hn:valsErr kind l = .nil) (hk1:kind = 1) :
    Calls Tryz.prog 68 #[.int .i64 kind,v] w fun e w'=>e = .returned (.tuple #[.int .i64 (bestB kind l).1,.string ⟨(bestB kind l).2.toArray⟩,.nilIface]) ∧ Below w.heap.size w w':=by
  have Hk1:=Lib.hid hk1;clear hk1
  obtain ⟨h1,h5,_,hP⟩:=valsErr_nil hn
  have hmf:∀ (fn:Fn) (first cap:Array Value) (w:World),(Instr.makeFunc fn first cap).run Tryz.prog w = .ok (.func fn first cap) w:=fun _ _ _ _=>rfl
  have HC:=Lib.hid (fun w1 h=>check_vals kind v l w1 h h1 h5 (by omega) hO hP)
  have HPl:=Lib.hid (fun w1 h=>plain_right kind v l w1 h (by omega) hO h1 h5 hP)
  have HDi:=Lib.hid (fun w1 h=>dict_ok kind v l w1 h hl hO hn)
  obtain ⟨td,ev,hdt,htr⟩:=delta_tried kind v l w adr hE hI hO hn hl Hk1.out
  have HDt:=Lib.hid hdt;have HTr:=Lib.hid htr
  have hpl:=plainB_len kind l fun h4 x hx=>((hP x hx).text h4).2
  have hdl:=dictB_len hl hO hP
  have hb1l:(tryS (0,plainB kind l) 1 (dictB kind l)).2.length ≤ (plainB kind l).length:=tryS_len (0,plainB kind l) 1 (dictB kind l)
  have HT1:=Lib.hid (fun B bc bs w1 g1 g2 g3 (g:BestAt bc bs 0 (plainB kind l) w1)=>show Calls Tryz.prog 105 #[.int .i64 1,.string ⟨(dictB kind l).toArray⟩,.nilIface,.pointer (some ⟨bs,0,none⟩),.pointer (some ⟨bc,0,none⟩)] w1 fun e w'=>e = .returned (.tuple #[]) ∧ BestAt bc bs (best1 kind l).1 (best1 kind l).2 w' ∧ Below B w1 w' from try_nil B bc bs g1 g2 g3 0 1 (plainB kind l) (dictB kind l) w1 g (by omega) (by omega))
  have hb1':(best1 kind l).2.length ≤ 100000000:=by unfold best1;omega
  have Hb1':=Lib.hid hb1'
  have HI:=Lib.hid hI
  obtain ⟨ad,cap,rfl⟩:=hI.form
  clear hI hE hdt htr hpl hdl hb1l hb1'
  have hbw:Below w.heap.size w ((w.alloc (.cells #[.int .i64 0] 3)).alloc (.cells #[.string ⟨#[]⟩] 9)):=((Below.refl _ _).alloc (Nat.le_refl _) _).alloc (by simp) _
  have hB1:((w.alloc (.cells #[.int .i64 0] 3)).alloc (.cells #[.string ⟨#[]⟩] 9)).heap[w.heap.size]? = some (.cells #[.int .i64 0] 3 (0,0)):=by
    rw [Lib.alloc_old _ _ _ (by simp)];exact heap_alloc_new w _
  have hB2:((w.alloc (.cells #[.int .i64 0] 3)).alloc (.cells #[.string ⟨#[]⟩] 9)).heap[w.heap.size + 1]? = some (.cells #[.string ⟨#[]⟩] 9 (0,0)):=by
    simpa using heap_alloc_new (w.alloc (.cells #[.int .i64 0] 3)) (.cells #[.string ⟨#[]⟩] 9)
  have Hbw:=Lib.hid hbw;have HB1:=Lib.hid hB1;have HB2:=Lib.hid hB2
  clear hbw hB1 hB2
  by_cases h4:kind = 4
  · have:=Hk1.out;exfalso;omega
  · have d4:(kind == 4) = false:=by simpa using h4
    have Hbest:=Lib.hid (show best2 kind l = bestB kind l by unfold bestB;rw [if_neg h4])
    clear h4 hn h1 h5 hP
    go_enter Tryz.func68,Tryz.ntmps68
    go_wp2_with fail
    generalize (w.alloc (.cells #[.int .i64 0] 3)).alloc (.cells #[.string ⟨#[]⟩] 9) = W2 at *
    refine (HC.out W2 (HI.out.below Hbw.out (Nat.le_refl _))).mono ?_;rintro e w1 ⟨rfl,hb1⟩
    have HB11:=Lib.hid ((hb1.block _ (Array.getElem?_eq_some_iff.1 HB1.out).1).trans HB1.out);have HB21:=Lib.hid ((hb1.block _ (Array.getElem?_eq_some_iff.1 HB2.out).1).trans HB2.out)
    have hb1:=Hbw.out.trans (hb1.mono Hbw.out.size)
    go_wp2_with fail
    refine (HPl.out w1 (HI.out.below hb1 (Nat.le_refl _))).mono ?_;rintro e w2 ⟨rfl,hb2⟩
    have HB12:=Lib.hid ((hb2.block _ (Array.getElem?_eq_some_iff.1 HB11.out).1).trans HB11.out);have HB22:=Lib.hid ((hb2.block _ (Array.getElem?_eq_some_iff.1 HB21.out).1).trans HB21.out)
    have hb2:=below_trans hb1 hb2
    have c22:w2.cell? ⟨w.heap.size + 1,0,none⟩ = some ((.string ⟨#[]⟩)):=by rw [Lib.cell_of_heap HB22.out];rfl
    have f22:w2.frozen? ⟨w.heap.size + 1,0,none⟩ = false:=Lib.frozen_of_heap HB22.out 0
    clear hb1
    go_wp2_with fail
    have hbe:Below w.heap.size w (w2.setCell ⟨w.heap.size + 1,0,none⟩ (.string ⟨(plainB kind l).toArray⟩)):=hb2.setCell (p:=⟨w.heap.size + 1,0,none⟩) (Nat.le_succ _) _
    have hBA:BestAt w.heap.size (w.heap.size + 1) 0 (plainB kind l) (w2.setCell ⟨w.heap.size + 1,0,none⟩ (.string ⟨(plainB kind l).toArray⟩)) :=
      ⟨by rw [heap_setCell_other _ _ _ _ (by simp)];exact HB12.out,by rw [heap_setCell_same _ _ _ _ _ _ HB22.out];rfl⟩
    generalize w2.setCell ⟨w.heap.size + 1,0,none⟩ (.string ⟨(plainB kind l).toArray⟩) = w3 at *
    have HBA:=Lib.hid hBA;have Hbe:=Lib.hid hbe
    clear hbe hBA hb2 c22 f22
    refine (HDi.out w3 (HI.out.below Hbe.out (Nat.le_refl _))).mono ?_;rintro e w4 ⟨rfl,hb4⟩
    have HBA4:=Lib.hid (HBA.out.below hb4)
    have Hb4:=Lib.hid (below_trans Hbe.out hb4)
    clear hb4
    go_wp2_with fail
    refine (HT1.out w.heap.size w.heap.size (w.heap.size + 1) w4 (Nat.le_refl _) (Nat.le_succ _) (by omega) HBA4.out).mono ?_;rintro e w5 ⟨rfl,hBA5,hb5⟩
    have HBA5:=Lib.hid hBA5
    have Hb5:=Lib.hid (Hb4.out.trans hb5)
    clear hb5 hBA5
    go_wp2_with fail
    refine (HDt.out w5 Hb5.out).mono ?_;rintro e w6 ⟨rfl,hb6⟩
    have HBA6:=Lib.hid (HBA5.out.below hb6)
    have Hb6:=Lib.hid (below_trans Hb5.out hb6)
    clear hb6
    go_wp2_with fail
    refine (HTr.out w.heap.size w.heap.size (w.heap.size + 1) w6 (Nat.le_refl _) (Nat.le_succ _) (by omega) Hb1'.out HBA6.out).mono ?_;rintro e w7 ⟨rfl,hBA7,hb7⟩
    have Hb7:=Lib.hid (Hb6.out.trans hb7)
    rw [Hbest.out] at hBA7
    have HBA7:=Lib.hid hBA7
    clear hb7 hBA7
    have q0:w7.cell? ⟨w.heap.size,0,none⟩ = some (.int .i64 (bestB kind l).1):=by rw [Lib.cell_of_heap HBA7.out.1];rfl
    have q1:w7.cell? ⟨w.heap.size + 1,0,none⟩ = some (.string ⟨(bestB kind l).2.toArray⟩):=by rw [Lib.cell_of_heap HBA7.out.2];rfl
    have g0:w7.frozen? ⟨w.heap.size,0,none⟩ = false:=Lib.frozen_of_heap HBA7.out.1 0
    have g1:w7.frozen? ⟨w.heap.size + 1,0,none⟩ = false:=Lib.frozen_of_heap HBA7.out.2 0
    generalize hrk:(bestB kind l).1 = rk at *
    generalize hrs:(bestB kind l).2 = rs at *
    have Hrk:=Lib.hid hrk;have Hrs:=Lib.hid hrs
    clear hrk hrs
    have z0:(w7.setCell ⟨w.heap.size,0,none⟩ (.int .i64 rk)).cell? ⟨w.heap.size,0,none⟩ = some (.int .i64 rk):=by
      rw [Lib.cell_of_heap (heap_setCell_same _ _ _ _ _ _ HBA7.out.1)];rfl
    have z1:((w7.setCell ⟨w.heap.size,0,none⟩ (.int .i64 rk)).setCell ⟨w.heap.size + 1,0,none⟩ (.string ⟨rs.toArray⟩)).cell? ⟨w.heap.size + 1,0,none⟩ = some (.string ⟨rs.toArray⟩):=by
      rw [Lib.cell_of_heap (heap_setCell_same _ _ _ _ _ _ (show (w7.setCell ⟨w.heap.size,0,none⟩ (.int .i64 rk)).heap[w.heap.size + 1]? = some (.cells #[.string ⟨rs.toArray⟩] 9 (0,0)) by
        rw [heap_setCell_other _ _ _ _ (by simp)];exact HBA7.out.2))];rfl
    go_wp2_with fail
    go_region
    all_goals
      go_wp2_with fail
      refine bodyPost_ret (v:=.tuple #[.int .i64 rk,.string ⟨rs.toArray⟩,.nilIface]) (by simp [results,Tryz.results68,go_sem,z0,z1]) rfl ⟨ret_of (by rw [Hrk.out,Hrs.out]),?_⟩
      exact ((Hb7.out.setCell (p:=⟨w.heap.size,0,none⟩) (Nat.le_refl _) _).setCell (p:=⟨w.heap.size + 1,0,none⟩) (Nat.le_succ _) _).drew
end Go.Proofs.YtapiabmmfmfaeaaGreatDoor
/- The walk of the document's BestOf; enc.Best where something is wrong; the statement EncBest. -/
namespace Go.Proofs.YtapiabmmfmfaeaaGreatDoor
set_option maxHeartbeats 4000000
set_option linter.unusedVariables false
open Go Go.RowKit Go.ChangeShapes
end Go.Proofs.YtapiabmmfmfaeaaGreatDoor
