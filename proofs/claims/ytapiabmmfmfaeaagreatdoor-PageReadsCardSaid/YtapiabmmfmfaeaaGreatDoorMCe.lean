/- Merged texts: CErr, StR. -/
import Derived.Test.YtapiabmmfmfaeaaGreatDoorMOw
import Derived.Test.YtapiabmmfmfaeaaGreatDoorMRef
import Derived.Test.YtapiabmmfmfaeaaGreatDoorMHow
import Derived.BigQuiet
import Derived.Deep.DeepCutAuto
import Derived.Deep.CutRange
/- The walk of the document's ColumnError. -/
namespace Go.Proofs.YtapiabmmfmfaeaaGreatDoor
set_option maxHeartbeats 20000000
set_option linter.unusedVariables false
open Go Go.RowKit Go.ChangeShapes
set_option maxRecDepth 100000 in
theorem cerr_right (f:Lf) (c:Col) (free:Bool) (vf vc:Value) (w:World) (hf:IsLf w vf f) (hc:IsCol w vc c) (h:rightB f = false) :
  Calls Tryz.prog 30 #[vf,vc,.bool free] w fun e w'=>e = .returned (faultV 3 (-1)) ∧ Below w.heap.size w w':=by
 obtain ⟨p,rfl,hp⟩:=hf
 obtain ⟨a,b,d,rfl,ha,hb,hd⟩:=hc
 clear hp ha hb hd
 unfold lfA colA
 go_enter Tryz.func30,Tryz.ntmps30
 go_wp2_with fail
 refine (isLeaf_no f p _ h).mono ?_;rintro e w1 ⟨rfl,hb1⟩
 obtain ⟨rA,rB,rF,hbw,hz⟩:=rows3 hb1
 have RF:=Lib.hid rF;have Hbw:=Lib.hid hbw
 clear hb1 h rA rB rF hbw
 go_wp2_with fail
 refine (bare_any _ _).mono ?_;rintro e w3 ⟨rfl,hb3⟩
 have RF3:=Lib.hid (row_keep hb3 RF.out);have Hb3:=Lib.hid (Hbw.out.trans (hb3.mono Hbw.out.size))
 clear hb3
 unfold faultV
 go_wp2_with (refine wpList_store_part rfl 75 _ _ rfl (w.heap.size + 1 + 1) 0 _ 75 #[.int .i64 3,.int .i64 (-1)] rfl rfl RF3.out (by kernel_rfl) (by simp [Value.oneCell']) (Nat.le_of_ble_eq_true rfl) #[.int .i64 3,.int .i64 (-1)] rfl ?_;intro w5 rR5 hoth hbl hsz5;have hbw5:=Lib.hid (Hb3.out.trans (hbl.mono (by omega)));have RR5:=Lib.hid rR5;clear hoth hbl hsz5 rR5)
 refine bodyPost_ret (v:=faultV 3 (-1)) (results_cell_row Tryz.results30 _ _ (w.heap.size + 1 + 1) 75 _ (0,0) _ rfl RR5.out Tryz.underlying75 rfl (by kernel_rfl)) rfl ⟨rfl,hbw5.out⟩
set_option maxRecDepth 100000 in
theorem cerr_id (f:Lf) (c:Col) (free:Bool) (vf vc:Value) (w:World) (hf:IsLf w vf f) (hc:IsCol w vc c) (h:rightB f = true) (h1:¬ f.id = c.id) :
  Calls Tryz.prog 30 #[vf,vc,.bool free] w fun e w'=>e = .returned (faultV 3 (-1)) ∧ Below w.heap.size w w':=by
 obtain ⟨p,rfl,hp⟩:=hf
 obtain ⟨a,b,d,rfl,ha,hb,hd⟩:=hc
 have h1':(f.id != c.id) = true:=by simpa using h1
 clear hp ha hb hd h1
 unfold lfA colA
 go_enter Tryz.func30,Tryz.ntmps30
 go_wp2_with fail
 refine (isLeaf_yes f p _ h).mono ?_;rintro e w1 ⟨rfl,hb1⟩
 obtain ⟨rA,rB,rF,hbw,hz⟩:=rows3 hb1
 have cA:=rowc rA;have cB:=rowc rB;have RF:=Lib.hid rF;have Hbw:=Lib.hid hbw
 clear hb1 h rA rB rF hbw
 go_wp2_with fail
 refine (bare_any _ _).mono ?_;rintro e w3 ⟨rfl,hb3⟩
 have RF3:=Lib.hid (row_keep hb3 RF.out);have Hb3:=Lib.hid (Hbw.out.trans (hb3.mono Hbw.out.size))
 clear hb3
 unfold faultV
 go_wp2_with (refine wpList_store_part rfl 75 _ _ rfl (w.heap.size + 1 + 1) 0 _ 75 #[.int .i64 3,.int .i64 (-1)] rfl rfl RF3.out (by kernel_rfl) (by simp [Value.oneCell']) (Nat.le_of_ble_eq_true rfl) #[.int .i64 3,.int .i64 (-1)] rfl ?_;intro w5 rR5 hoth hbl hsz5;have hbw5:=Lib.hid (Hb3.out.trans (hbl.mono (by omega)));have RR5:=Lib.hid rR5;clear hoth hbl hsz5 rR5)
 refine bodyPost_ret (v:=faultV 3 (-1)) (results_cell_row Tryz.results30 _ _ (w.heap.size + 1 + 1) 75 _ (0,0) _ rfl RR5.out Tryz.underlying75 rfl (by kernel_rfl)) rfl ⟨rfl,hbw5.out⟩
set_option maxRecDepth 100000 in
theorem cerr_len (f:Lf) (c:Col) (free:Bool) (vf vc:Value) (w:World) (hf:IsLf w vf f) (hc:IsCol w vc c) (h:rightB f = true) (h1:f.id = c.id) (h2:¬ c.rep.length = c.df.length) (co:c.Ok) :
  Calls Tryz.prog 30 #[vf,vc,.bool free] w fun e w'=>e = .returned (faultV 3 (-1)) ∧ Below w.heap.size w w':=by
 obtain ⟨p,rfl,hp⟩:=hf
 obtain ⟨a,b,d,rfl,ha,hb,hd⟩:=hc
 have h1':(f.id != c.id) = false:=by simpa using h1
 obtain ⟨a1,q1,rfl⟩:=ha.form
 obtain ⟨a2,q2,rfl⟩:=hb.form
 have h2':((c.rep.length:Int) != (c.df.length:Int)) = true:=by simp;omega
 have hm1:c.rep.length ≤ 9223372036854775807:=by have:=co.rep.1;unfold maxLen at this;omega
 have hm2:c.df.length ≤ 9223372036854775807:=by have:=co.df.1;unfold maxLen at this;omega
 generalize c.rep.length = n1 at *
 generalize c.df.length = n2 at *
 clear hp ha hb hd h1 h2 co
 unfold lfA colA
 go_enter Tryz.func30,Tryz.ntmps30
 go_wp2_with fail
 refine (isLeaf_yes f p _ h).mono ?_;rintro e w1 ⟨rfl,hb1⟩
 obtain ⟨rA,rB,rF,hbw,hz⟩:=rows3 hb1
 have cA:=rowc rA;have cB:=rowc rB;have RF:=Lib.hid rF;have Hbw:=Lib.hid hbw
 clear hb1 h rA rB rF hbw
 go_wp2_with fail
 refine (bare_any _ _).mono ?_;rintro e w3 ⟨rfl,hb3⟩
 have RF3:=Lib.hid (row_keep hb3 RF.out);have Hb3:=Lib.hid (Hbw.out.trans (hb3.mono Hbw.out.size))
 clear hb3
 unfold faultV
 go_wp2_with (refine wpList_store_part rfl 75 _ _ rfl (w.heap.size + 1 + 1) 0 _ 75 #[.int .i64 3,.int .i64 (-1)] rfl rfl RF3.out (by kernel_rfl) (by simp [Value.oneCell']) (Nat.le_of_ble_eq_true rfl) #[.int .i64 3,.int .i64 (-1)] rfl ?_;intro w5 rR5 hoth hbl hsz5;have hbw5:=Lib.hid (Hb3.out.trans (hbl.mono (by omega)));have RR5:=Lib.hid rR5;clear hoth hbl hsz5 rR5)
 refine bodyPost_ret (v:=faultV 3 (-1)) (results_cell_row Tryz.results30 _ _ (w.heap.size + 1 + 1) 75 _ (0,0) _ rfl RR5.out Tryz.underlying75 rfl (by kernel_rfl)) rfl ⟨rfl,hbw5.out⟩
theorem isVal_at (kind:Int) (y:Val) (hy:y.Ok) (b:Bool) (h:isV kind y = b) (w:World):Calls Tryz.prog 63 #[.int .i64 kind,.agg #[.int .i64 y.k,.int .i64 y.n,.string y.s]] w fun e w'=>e = .returned (.bool b) ∧ Below w.heap.size w w':=by
 subst h
 exact isValue_any kind y hy w
theorem isV_yes {k:Int} {x:Val} (h:OkP k x) (h1:1 ≤ k) (h5:k ≤ 5):isV k x = true:=by
 unfold isV
 rw [(okB_iff k x).2 h,decide_eq_true ⟨h1,h5⟩];rfl
theorem isV_no {k:Int} {x:Val} (h:¬ OkP k x):isV k x = false:=by
 unfold isV
 rw [(okB_false k x).2 h,Bool.and_false]
theorem below_drewN2 {w w':World} {n:Nat} (h:Below (w.drewN n).heap.size (w.drewN n) w'):Below w.heap.size w w':=by
 have h1:=below_drewN (Below.refl w.heap.size w) n
 exact h1.trans (h.mono h1.size)
set_option maxRecDepth 100000 in
theorem cerr_main (f:Lf) (c:Col) (free:Bool) (vf vc:Value) (w:World) (hf:IsLf w vf f) (hc:IsCol w vc c) (fo:f.Ok) (co:c.Ok) (hR:rightB f = true) (h1:f.id = c.id) (h2:c.rep.length = c.df.length) :
  Calls Tryz.prog 30 #[vf,vc,.bool free] w fun e w'=>e = .returned (faultV (colErr f c free).code (colErr f c free).at') ∧ Below w.heap.size w w':=by
 obtain ⟨p,rfl,hp⟩:=hf
 obtain ⟨a,b,d,rfl,ha,hb,hd⟩:=hc
 obtain ⟨n,hn1,hn2⟩:∃ n,c.rep.length = n ∧ c.df.length = n:=⟨_,rfl,h2.symm⟩
 obtain ⟨a1,q1,rfl⟩:∃ x y,a = .slice x n y:=by obtain ⟨x,y,hx⟩:=ha.form;exact ⟨x,y,by rw [hx,hn1]⟩
 obtain ⟨a2,q2,rfl⟩:∃ x y,b = .slice x n y:=by obtain ⟨x,y,hx⟩:=hb.form;exact ⟨x,y,by rw [hx,hn2]⟩
 obtain ⟨a3,q3,rfl⟩:=hd.form
 have Ha:=Lib.hid ha;have Hb:=Lib.hid hb;have Hd:=Lib.hid hd;have Hco:=Lib.hid co
 have hml:n ≤ 9223372036854775807:=by have:=co.rep.1;unfold maxLen at this;omega
 have hvl:c.vals.length ≤ 9223372036854775807:=by have:=co.vals.1;unfold maxLen at this;exact this
 have h1':(f.id != c.id) = false:=by simpa using h1
 have h2':((n:Int) != (n:Int)) = false:=by simp
 have Hn1:=Lib.hid hn1;have Hn2:=Lib.hid hn2
 have HfA:=Lib.hid (show f.mr ≤ 40 ∧ f.md ≤ 40 ∧ 0 ≤ f.mr ∧ 0 ≤ f.md from by unfold rightB at hR;rw [decide_eq_true_iff] at hR;omega)
 have Hk:Hid (1 ≤ f.kind ∧ f.kind ≤ 5):=Lib.hid (by unfold rightB at hR;rw [decide_eq_true_iff] at hR;omega)
 have Hhd:Hid (∀ fr,(fr || (c.rep.head?.getD 0 == 0)) = true → headB f c fr = true):=Lib.hid (fun fr hh=>by unfold headB;rw [hR,decide_eq_true h1,decide_eq_true h2,hh];rfl)
 have Hhn:Hid (∀ fr,(fr || (c.rep.head?.getD 0 == 0)) = false → headB f c fr = false):=Lib.hid (fun fr hh=>by unfold headB;rw [hR,decide_eq_true h1,decide_eq_true h2,hh];rfl)
 clear hp ha hb hd h1 h2 hn1 hn2 fo co
 unfold lfA colA
 go_enter Tryz.func30,Tryz.ntmps30
 go_wp2_with fail
 refine (isLeaf_yes f p _ hR).mono ?_;rintro e w1 ⟨rfl,hb1⟩
 obtain ⟨rA,rB,rF,hbw,hz⟩:=rows3 hb1
 have cA:=rowc rA;have cB:=rowc rB;have RA:=Lib.hid rA;have RB:=Lib.hid rB;have RF:=Lib.hid rF;have Hbw:=Lib.hid hbw
 clear hb1 hR rA rB rF hbw
 go_wp2_with fail
 go_loopw [7,8] (fun v i wr=>∃ (k m:Nat),k ≤ n ∧ v = .int .i64 (m:Nat) ∧ i = .int .i64 (k:Nat) ∧ CkSo f c k m true ∧ Below w1.heap.size w1 wr) (fun _ i _=>n - (intOf i).toNat)
 case atStart=>exact ⟨0,0,Nat.zero_le _,rfl,rfl,⟨Nat.zero_le _,by simp [many]⟩,Below.refl _ _⟩
 case round =>
  obtain ⟨k,m,hk,rfl,rfl,hso,hbr⟩:=hrel
  have rAr:=row_keep hbr RA.out;have rBr:=row_keep hbr RB.out;have rFr:=row_keep hbr RF.out
  have cA:=rowc rAr;have cB:=rowc rBr
  have RAr:=Lib.hid rAr;have RBr:=Lib.hid rBr;have RFr:=Lib.hid rFr
  have hmk:=hso.1
  have Hso:=Lib.hid hso;have Hbr:=Lib.hid hbr
  have Hbwr:=Lib.hid (Hbw.out.trans (hbr.mono Hbw.out.size))
  clear hso hbr rAr rBr rFr
  by_cases hlt:k < n
  ·have hl1:k < c.rep.length:=by rw [Hn1.out];exact hlt
   have hl2:k < c.df.length:=by rw [Hn2.out];exact hlt
   obtain ⟨b1,o1,rfl,-,hlt1,hc1⟩:=Ha.out.at (by omega)
   obtain ⟨b2,o2,rfl,-,hlt2,hc2⟩:=Hb.out.at (by omega)
   have cr:wr.cell? ⟨b1,o1 + k,none⟩ = _:=(Hbwr.out.cell (p:=⟨b1,o1 + k,none⟩) hlt1).trans (hc1 k _ (List.getElem?_eq_getElem hl1))
   have cd:wr.cell? ⟨b2,o2 + k,none⟩ = _:=(Hbwr.out.cell (p:=⟨b2,o2 + k,none⟩) hlt2).trans (hc2 k _ (List.getElem?_eq_getElem hl2))
   have Hr:=Lib.hid (List.getElem?_eq_getElem hl1);have Hdd:=Lib.hid (List.getElem?_eq_getElem hl2)
   have hin:(k:Int) < (n:Int):=by omega
   have hmd:=HfA.out.2.2.2
   generalize c.rep[k] = r at *
   generalize c.df[k] = d at *
   clear hc1 hc2 hl1 hl2
   have Hbad:Hid (¬ lvl f r d → colErr f c free = .sent 3):=Lib.hid (fun hn=>colErr_levels (levelsB_bad f c.rep c.df k r d Hr.out Hdd.out hn))
   by_cases hr0:0 ≤ r
   ·by_cases hr1:r ≤ f.mr
    ·by_cases hd0:0 ≤ d
     ·by_cases hd1:d ≤ f.md
      ·by_cases hdm:d = f.md
       ·have hr0':decide (0 ≤ r) = true:=by simpa using hr0
        have hr1':decide (r ≤ f.mr) = true:=by simpa using hr1
        have hd0':decide (0 ≤ d) = true:=by simpa using hd0
        have hd1':decide (d ≤ f.md) = true:=by simpa using hd1
        have hnx:=Hso.out.next Hr.out Hdd.out (m + 1) (by simp [hdm])
        rw [show decide (lvl f r d) = true from decide_eq_true ⟨hr0,hr1,hd0,hd1⟩] at hnx
        have Hnx:=Lib.hid hnx;have hdm':(d == f.md) = true:=by simpa using hdm
        clear hnx hdm
        go_wp2_with fail
        go_quiet (fail)
        go_wp2_with fail
        go_quiet (fail)
        go_wp2_with fail
        go_roundw
        case rel=>exact ⟨k + 1,_,by omega,by go_num,by go_num,Hnx.out,below_drewN Hbr.out _⟩
        case measure=>simp [intOf];omega
       ·have hr0':decide (0 ≤ r) = true:=by simpa using hr0
        have hr1':decide (r ≤ f.mr) = true:=by simpa using hr1
        have hd0':decide (0 ≤ d) = true:=by simpa using hd0
        have hd1':decide (d ≤ f.md) = true:=by simpa using hd1
        have hnx:=Hso.out.next Hr.out Hdd.out (m) (by simp [hdm])
        rw [show decide (lvl f r d) = true from decide_eq_true ⟨hr0,hr1,hd0,hd1⟩] at hnx
        have Hnx:=Lib.hid hnx;have hdm':(d == f.md) = false:=by simpa using hdm
        clear hnx hdm
        go_wp2_with fail
        go_quiet (fail)
        go_wp2_with fail
        go_quiet (fail)
        go_wp2_with fail
        go_roundw
        case rel=>exact ⟨k + 1,_,by omega,by go_num,by go_num,Hnx.out,below_drewN Hbr.out _⟩
        case measure=>simp [intOf];omega
      ·have HC:=Lib.hid (Hbad.out (fun hh=>by obtain ⟨q0,q1,q2,q3⟩:=hh;omega))
       have hr0':decide (r < 0) = false:=by simp;omega
       have hr1':decide (f.mr < r) = false:=by simp;omega
       have hd0':decide (d < 0) = false:=by simp;omega
       have hd1':decide (f.md < d) = true:=by simp;omega
       go_wp2_with fail
       go_quiet (fail)
       go_wp2_with fail
       refine (bare_any _ _).mono ?_;rintro e w3 ⟨rfl,hb3⟩
       have hb3':=below_drewN2 hb3
       have RF3:=Lib.hid (row_keep hb3' RFr.out);have Hb3:=Lib.hid (Hbwr.out.trans (hb3'.mono Hbwr.out.size))
       clear hb3 hb3'
       unfold faultV
       go_wp2_with (refine wpList_store_part rfl 75 _ _ rfl (w.heap.size + 1 + 1) 0 _ 75 #[.int .i64 3,.int .i64 (-1)] rfl rfl RF3.out (by kernel_rfl) (by simp [Value.oneCell']) (Nat.le_of_ble_eq_true rfl) #[.int .i64 3,.int .i64 (-1)] rfl ?_;intro w5 rR5 hoth hbl hsz5;have hbw5:=Lib.hid (Hb3.out.trans (hbl.mono (by omega)));have RR5:=Lib.hid rR5;clear hoth hbl hsz5 rR5)
       refine bodyPost_ret (v:=faultV 3 (-1)) (results_cell_row Tryz.results30 _ _ (w.heap.size + 1 + 1) 75 _ (0,0) _ rfl RR5.out Tryz.underlying75 rfl (by kernel_rfl)) rfl ⟨by rw [HC.out];rfl,hbw5.out⟩
     ·have HC:=Lib.hid (Hbad.out (fun hh=>by obtain ⟨q0,q1,q2,q3⟩:=hh;omega))
      have hr0':decide (r < 0) = false:=by simp;omega
      have hr1':decide (f.mr < r) = false:=by simp;omega
      have hd0':decide (d < 0) = true:=by simp;omega
      go_wp2_with fail
      go_quiet (fail)
      go_wp2_with fail
      refine (bare_any _ _).mono ?_;rintro e w3 ⟨rfl,hb3⟩
      have hb3':=below_drewN2 hb3
      have RF3:=Lib.hid (row_keep hb3' RFr.out);have Hb3:=Lib.hid (Hbwr.out.trans (hb3'.mono Hbwr.out.size))
      clear hb3 hb3'
      unfold faultV
      go_wp2_with (refine wpList_store_part rfl 75 _ _ rfl (w.heap.size + 1 + 1) 0 _ 75 #[.int .i64 3,.int .i64 (-1)] rfl rfl RF3.out (by kernel_rfl) (by simp [Value.oneCell']) (Nat.le_of_ble_eq_true rfl) #[.int .i64 3,.int .i64 (-1)] rfl ?_;intro w5 rR5 hoth hbl hsz5;have hbw5:=Lib.hid (Hb3.out.trans (hbl.mono (by omega)));have RR5:=Lib.hid rR5;clear hoth hbl hsz5 rR5)
      refine bodyPost_ret (v:=faultV 3 (-1)) (results_cell_row Tryz.results30 _ _ (w.heap.size + 1 + 1) 75 _ (0,0) _ rfl RR5.out Tryz.underlying75 rfl (by kernel_rfl)) rfl ⟨by rw [HC.out];rfl,hbw5.out⟩
    ·have HC:=Lib.hid (Hbad.out (fun hh=>by obtain ⟨q0,q1,q2,q3⟩:=hh;omega))
     have hr0':decide (r < 0) = false:=by simp;omega
     have hr1':decide (f.mr < r) = true:=by simp;omega
     go_wp2_with fail
     go_quiet (fail)
     go_wp2_with fail
     refine (bare_any _ _).mono ?_;rintro e w3 ⟨rfl,hb3⟩
     have hb3':=below_drewN2 hb3
     have RF3:=Lib.hid (row_keep hb3' RFr.out);have Hb3:=Lib.hid (Hbwr.out.trans (hb3'.mono Hbwr.out.size))
     clear hb3 hb3'
     unfold faultV
     go_wp2_with (refine wpList_store_part rfl 75 _ _ rfl (w.heap.size + 1 + 1) 0 _ 75 #[.int .i64 3,.int .i64 (-1)] rfl rfl RF3.out (by kernel_rfl) (by simp [Value.oneCell']) (Nat.le_of_ble_eq_true rfl) #[.int .i64 3,.int .i64 (-1)] rfl ?_;intro w5 rR5 hoth hbl hsz5;have hbw5:=Lib.hid (Hb3.out.trans (hbl.mono (by omega)));have RR5:=Lib.hid rR5;clear hoth hbl hsz5 rR5)
     refine bodyPost_ret (v:=faultV 3 (-1)) (results_cell_row Tryz.results30 _ _ (w.heap.size + 1 + 1) 75 _ (0,0) _ rfl RR5.out Tryz.underlying75 rfl (by kernel_rfl)) rfl ⟨by rw [HC.out];rfl,hbw5.out⟩
   ·have HC:=Lib.hid (Hbad.out (fun hh=>by obtain ⟨q0,q1,q2,q3⟩:=hh;omega))
    have hr0':decide (r < 0) = true:=by simp;omega
    go_wp2_with fail
    go_quiet (fail)
    go_wp2_with fail
    refine (bare_any _ _).mono ?_;rintro e w3 ⟨rfl,hb3⟩
    have hb3':=below_drewN2 hb3
    have RF3:=Lib.hid (row_keep hb3' RFr.out);have Hb3:=Lib.hid (Hbwr.out.trans (hb3'.mono Hbwr.out.size))
    clear hb3 hb3'
    unfold faultV
    go_wp2_with (refine wpList_store_part rfl 75 _ _ rfl (w.heap.size + 1 + 1) 0 _ 75 #[.int .i64 3,.int .i64 (-1)] rfl rfl RF3.out (by kernel_rfl) (by simp [Value.oneCell']) (Nat.le_of_ble_eq_true rfl) #[.int .i64 3,.int .i64 (-1)] rfl ?_;intro w5 rR5 hoth hbl hsz5;have hbw5:=Lib.hid (Hb3.out.trans (hbl.mono (by omega)));have RR5:=Lib.hid rR5;clear hoth hbl hsz5 rR5)
    refine bodyPost_ret (v:=faultV 3 (-1)) (results_cell_row Tryz.results30 _ _ (w.heap.size + 1 + 1) 75 _ (0,0) _ rfl RR5.out Tryz.underlying75 rfl (by kernel_rfl)) rfl ⟨by rw [HC.out];rfl,hbw5.out⟩
  ·obtain rfl:k = n:=by omega
   clear cA cB
   have cA:=rowc RAr.out;have cB:=rowc RBr.out
   have hso2:=Hso.out.2
   simp only [if_true] at hso2
   obtain ⟨hl1,hm1⟩:=hso2
   have hlev:levelsB f c.rep c.df = true:=levelsB_all f c.rep c.df fun j r d hr hd=>hl1 j r d (by have:=(List.getElem?_eq_some_iff.1 hr).1;rw [Hn1.out] at this;exact this) hr hd
   rw [List.take_of_length_le (by rw [Hn2.out];exact Nat.le_refl _)] at hm1
   have Hm1:=Lib.hid hm1;have Hlev:=Lib.hid hlev
   clear hl1 hm1 hlev
   by_cases hmv:m = c.vals.length
   ·subst hmv
    by_cases hfr:(free || (c.rep.head?.getD 0 == 0)) = true
    ·have hce:=colErr_vals (Hhd.out free hfr) Hlev.out Hm1.out.symm
     have Hce:=Lib.hid hce;have Hfr:=Lib.hid hfr
     clear hce hfr
     go_upto_region 11 with fail
     go_cut [104] (fun s104 wx=>s104 = .bool false ∧ Below wr.heap.size wr wx)
     case first =>
      by_cases hn0:k = 0
      ·subst hn0
       go_wp2_with fail
       go_meet
       exact ⟨rfl,Below.refl _ _⟩
      ·have hl0:0 < c.rep.length:=by rw [Hn1.out];omega
       obtain ⟨b1,o1,rfl,-,hlt1,hc1⟩:=Ha.out.at hl0
       have hl':(0:Int) < (k:Int):=by omega
       have hl'':0 < k:=by omega
       obtain ⟨r0,hr0⟩:∃ r0,c.rep[0]? = some r0:=⟨_,List.getElem?_eq_getElem hl0⟩
       have cr:wr.cell? ⟨b1,o1,none⟩ = some (.int .i64 r0):=(Hbwr.out.cell (p:=⟨b1,o1,none⟩) hlt1).trans (by simpa using hc1 0 r0 hr0)
       have hfr:=Hfr.out
       rw [List.head?_eq_getElem?,hr0] at hfr
       clear hc1 hl0 hn0 hr0
       by_cases hz0:r0 = 0
       ·subst hz0
        clear hfr
        go_wp2_with fail
        go_meet
        exact ⟨rfl,Below.refl _ _⟩
       ·have hz1:(r0 != 0) = true:=by simpa using hz0
        have hfree:free = true:=by simpa [hz0] using hfr
        subst hfree
        clear hfr hz0
        go_wp2_with fail
        go_meet
        exact ⟨rfl,Below.refl _ _⟩
     case rest =>
      obtain ⟨rfl,hbx⟩:=hcut
      replace RAr:=Lib.hid (row_keep hbx RAr.out);replace RBr:=Lib.hid (row_keep hbx RBr.out);replace RFr:=Lib.hid (row_keep hbx RFr.out);replace Hbwr:=Lib.hid (Hbwr.out.trans (hbx.mono Hbwr.out.size))
      clear hbx cA cB
      have cA:=rowc RAr.out;have cB:=rowc RBr.out
      obtain ⟨wo,rfl⟩:∃ wo:World,wo = wc:=⟨_,rfl⟩
      cases hbad:badAt f.kind c.vals 0 with
      | none =>
       have HP:=Lib.hid ((badAt_none f.kind c.vals 0).1 hbad)
       have HC:Hid (colErr f c free = .nil):=Lib.hid (by rw [Hce.out,hbad])
       clear hbad
       go_wp2_with fail
       go_loopw [9] (fun q wr=>∃ j:Nat,j ≤ c.vals.length ∧ q = .int .i64 (j:Nat) ∧ Below wo.heap.size wo wr) (fun q _=>c.vals.length - (intOf q).toNat)
       case atStart=>exact ⟨0,Nat.zero_le _,rfl,Below.refl _ _⟩
       case round =>
        obtain ⟨j,hj,rfl,hb2⟩:=hrel
        by_cases hjl:j < c.vals.length
        ·obtain ⟨b0,off,rfl,-,hlt0,hcv⟩:=((Hd.out.below Hbwr.out (Nat.le_refl _)).below hb2 (Nat.le_refl _)).at (by omega)
         have hin:(j:Int) < (c.vals.length:Int):=by omega
         have hcx:=hcv j c.vals[j] (List.getElem?_eq_getElem hjl)
         have hox:=Hco.out.vals.2 c.vals[j] (List.getElem_mem hjl)
         have hpx:=HP.out c.vals[j] (List.getElem_mem hjl)
         generalize c.vals[j] = y at *
         have hOK:=Lib.hid (fun w5=>isVal_at f.kind y hox true (isV_yes hpx Hk.out.1 Hk.out.2) w5)
         clear hcv hox hpx
         obtain ⟨hx0,hx1,hx2⟩:=hcx
         replace cA:=rowc (row_keep hb2 RAr.out);replace cB:=rowc (row_keep hb2 RBr.out)
         have RA2:=Lib.hid (row_keep hb2 RAr.out);have RB2:=Lib.hid (row_keep hb2 RBr.out);have HX:=Lib.hid (And.intro hx0 (And.intro hx1 hx2))
         have HB:=Lib.hid hb2
         clear hb2
         go_upto_region 16 with fail
         go_region_held3 (fun w'=>(∀ j,w'.cell? ⟨w.heap.size,j,none⟩ = (#[.int .i64 f.id,.int .i64 f.kind,.int .i64 f.mr,.int .i64 f.md,p]:Array Value)[j]?) ∧ (∀ j,w'.cell? ⟨w.heap.size + 1,j,none⟩ = (#[.int .i64 c.id,.slice a1 k q1,.slice a2 k q2,.slice (some ⟨b0,off,none⟩) c.vals.length q3]:Array Value)[j]?) ∧ w'.cell? ⟨b0,off + j * 3,none⟩ = some (.int .i64 y.k) ∧ w'.cell? ⟨b0,off + j * 3 + 1,none⟩ = some (.int .i64 y.n) ∧ w'.cell? ⟨b0,off + j * 3 + 2,none⟩ = some (.string y.s))
          (first | (with_reducible exact ⟨rowc RA2.out,rowc RB2.out,HX.out.1,HX.out.2.1,HX.out.2.2⟩) | exact ⟨rowc_drew RA2.out,rowc_drew RB2.out,HX.out.1,HX.out.2.1,HX.out.2.2⟩)
          (first
          | (go_at_call 63;(with_reducible refine (hOK.out _).mono ?_);rintro e w9 ⟨rfl,hb9⟩;(first | (with_reducible have hbs:=drew_first hb9) | (have hbs:=hb9));replace HX:=Lib.hid (And.intro ((hbs.cell (p:=⟨b0,off + j * 3,none⟩) hlt0).trans HX.out.1) (And.intro ((hbs.cell (p:=⟨b0,off + j * 3 + 1,none⟩) hlt0).trans HX.out.2.1) ((hbs.cell (p:=⟨b0,off + j * 3 + 2,none⟩) hlt0).trans HX.out.2.2)));replace RA2:=Lib.hid (row_keep hbs RA2.out);replace RB2:=Lib.hid (row_keep hbs RB2.out);replace HB:=Lib.hid (HB.out.trans (hbs.mono HB.out.size));clear hb9 hbs))
         go_wp2_with fail
         go_roundw
         case rel=>exact ⟨j + 1,by omega,by go_num,HB.out⟩
         case measure=>simp [intOf];omega
        ·clear cA cB
         have cA:=rowc (row_keep hb2 RAr.out);have cB:=rowc (row_keep hb2 RBr.out)
         have RF2:=Lib.hid (row_keep hb2 RFr.out);have Hb2:=Lib.hid (Hbwr.out.trans (hb2.mono Hbwr.out.size))
         clear hb2
         go_wp2_with fail
         refine (fine_any _).mono ?_;rintro e w3 ⟨rfl,hb3⟩
         have RF3:=Lib.hid (row_keep hb3 RF2.out);have Hb3:=Lib.hid (Hb2.out.trans (hb3.mono Hb2.out.size))
         clear hb3
         unfold faultV
         go_wp2_with (refine wpList_store_part rfl 75 _ _ rfl (w.heap.size + 1 + 1) 0 _ 75 #[.int .i64 0,.int .i64 (-1)] rfl rfl RF3.out (by kernel_rfl) (by simp [Value.oneCell']) (Nat.le_of_ble_eq_true rfl) #[.int .i64 0,.int .i64 (-1)] rfl ?_;intro w5 rR5 hoth hbl hsz5;have hbw5:=Lib.hid (Hb3.out.trans (hbl.mono (by omega)));have RR5:=Lib.hid rR5;clear hoth hbl hsz5 rR5)
         refine bodyPost_ret (v:=faultV 0 (-1)) (results_cell_row Tryz.results30 _ _ (w.heap.size + 1 + 1) 75 _ (0,0) _ rfl RR5.out Tryz.underlying75 rfl (by kernel_rfl)) rfl ⟨by rw [HC.out];rfl,hbw5.out⟩
      | some i =>
       obtain ⟨q,y,hj,hx,hn,hPP⟩:=badAt_some f.kind c.vals 0 i hbad
       obtain rfl:i = q:=by omega
       have HP:=Lib.hid hPP;have HY:=Lib.hid (And.intro hx hn)
       have hil:i < c.vals.length:=(List.getElem?_eq_some_iff.1 hx).1
       have HC:Hid (colErr f c free = .fault 4 (i:Nat)):=Lib.hid (by rw [Hce.out,hbad])
       clear hbad hj hx hn hPP
       go_wp2_with fail
       go_loopw [9] (fun q wr=>∃ j:Nat,j ≤ i ∧ q = .int .i64 (j:Nat) ∧ Below wo.heap.size wo wr) (fun q _=>c.vals.length - (intOf q).toNat)
       case atStart=>exact ⟨0,Nat.zero_le _,rfl,Below.refl _ _⟩
       case round =>
        obtain ⟨j,hj,rfl,hb2⟩:=hrel
        have hjl:j < c.vals.length:=by omega
        obtain ⟨b0,off,rfl,-,hlt0,hcv⟩:=((Hd.out.below Hbwr.out (Nat.le_refl _)).below hb2 (Nat.le_refl _)).at (by omega)
        have hin:(j:Int) < (c.vals.length:Int):=by omega
        by_cases hji:j < i
        ·have hcx:=hcv j c.vals[j] (List.getElem?_eq_getElem hjl)
         have hox:=Hco.out.vals.2 c.vals[j] (List.getElem_mem hjl)
         have hpx:=HP.out j c.vals[j] hji (List.getElem?_eq_getElem hjl)
         generalize c.vals[j] = y at *
         have hOK:=Lib.hid (fun w5=>isVal_at f.kind y hox true (isV_yes hpx Hk.out.1 Hk.out.2) w5)
         clear hcv hox hpx
         obtain ⟨hx0,hx1,hx2⟩:=hcx
         replace cA:=rowc (row_keep hb2 RAr.out);replace cB:=rowc (row_keep hb2 RBr.out)
         have RA2:=Lib.hid (row_keep hb2 RAr.out);have RB2:=Lib.hid (row_keep hb2 RBr.out);have HX:=Lib.hid (And.intro hx0 (And.intro hx1 hx2))
         have HB:=Lib.hid hb2
         clear hb2
         go_upto_region 16 with fail
         go_region_held3 (fun w'=>(∀ j,w'.cell? ⟨w.heap.size,j,none⟩ = (#[.int .i64 f.id,.int .i64 f.kind,.int .i64 f.mr,.int .i64 f.md,p]:Array Value)[j]?) ∧ (∀ j,w'.cell? ⟨w.heap.size + 1,j,none⟩ = (#[.int .i64 c.id,.slice a1 k q1,.slice a2 k q2,.slice (some ⟨b0,off,none⟩) c.vals.length q3]:Array Value)[j]?) ∧ w'.cell? ⟨b0,off + j * 3,none⟩ = some (.int .i64 y.k) ∧ w'.cell? ⟨b0,off + j * 3 + 1,none⟩ = some (.int .i64 y.n) ∧ w'.cell? ⟨b0,off + j * 3 + 2,none⟩ = some (.string y.s))
          (first | (with_reducible exact ⟨rowc RA2.out,rowc RB2.out,HX.out.1,HX.out.2.1,HX.out.2.2⟩) | exact ⟨rowc_drew RA2.out,rowc_drew RB2.out,HX.out.1,HX.out.2.1,HX.out.2.2⟩)
          (first
          | (go_at_call 63;(with_reducible refine (hOK.out _).mono ?_);rintro e w9 ⟨rfl,hb9⟩;(first | (with_reducible have hbs:=drew_first hb9) | (have hbs:=hb9));replace HX:=Lib.hid (And.intro ((hbs.cell (p:=⟨b0,off + j * 3,none⟩) hlt0).trans HX.out.1) (And.intro ((hbs.cell (p:=⟨b0,off + j * 3 + 1,none⟩) hlt0).trans HX.out.2.1) ((hbs.cell (p:=⟨b0,off + j * 3 + 2,none⟩) hlt0).trans HX.out.2.2)));replace RA2:=Lib.hid (row_keep hbs RA2.out);replace RB2:=Lib.hid (row_keep hbs RB2.out);replace HB:=Lib.hid (HB.out.trans (hbs.mono HB.out.size));clear hb9 hbs))
         go_wp2_with fail
         go_roundw
         case rel=>exact ⟨j + 1,by omega,by go_num,HB.out⟩
         case measure=>simp [intOf];omega
        ·obtain rfl:j = i:=by omega
         have hcx:=hcv j y HY.out.1
         have hox:=Hco.out.vals.2 y (List.mem_of_getElem? HY.out.1)
         have hOK:=Lib.hid (fun w5=>isVal_at f.kind y hox false (isV_no HY.out.2) w5)
         clear hcv hox
         obtain ⟨hx0,hx1,hx2⟩:=hcx
         replace cA:=rowc (row_keep hb2 RAr.out);replace cB:=rowc (row_keep hb2 RBr.out)
         have RA2:=Lib.hid (row_keep hb2 RAr.out);have RB2:=Lib.hid (row_keep hb2 RBr.out);have HX:=Lib.hid (And.intro hx0 (And.intro hx1 hx2))
         have HB:=Lib.hid hb2
         clear hb2
         go_upto_region 16 with fail
         go_region_held3 (fun w'=>(∀ j,w'.cell? ⟨w.heap.size,j,none⟩ = (#[.int .i64 f.id,.int .i64 f.kind,.int .i64 f.mr,.int .i64 f.md,p]:Array Value)[j]?) ∧ (∀ j,w'.cell? ⟨w.heap.size + 1,j,none⟩ = (#[.int .i64 c.id,.slice a1 k q1,.slice a2 k q2,.slice (some ⟨b0,off,none⟩) c.vals.length q3]:Array Value)[j]?) ∧ w'.cell? ⟨b0,off + j * 3,none⟩ = some (.int .i64 y.k) ∧ w'.cell? ⟨b0,off + j * 3 + 1,none⟩ = some (.int .i64 y.n) ∧ w'.cell? ⟨b0,off + j * 3 + 2,none⟩ = some (.string y.s))
          (first | (with_reducible exact ⟨rowc RA2.out,rowc RB2.out,HX.out.1,HX.out.2.1,HX.out.2.2⟩) | exact ⟨rowc_drew RA2.out,rowc_drew RB2.out,HX.out.1,HX.out.2.1,HX.out.2.2⟩)
          (first
          | (go_at_call 63;(with_reducible refine (hOK.out _).mono ?_);rintro e w9 ⟨rfl,hb9⟩;(first | (with_reducible have hbs:=drew_first hb9) | (have hbs:=hb9));replace HX:=Lib.hid (And.intro ((hbs.cell (p:=⟨b0,off + j * 3,none⟩) hlt0).trans HX.out.1) (And.intro ((hbs.cell (p:=⟨b0,off + j * 3 + 1,none⟩) hlt0).trans HX.out.2.1) ((hbs.cell (p:=⟨b0,off + j * 3 + 2,none⟩) hlt0).trans HX.out.2.2)));replace RA2:=Lib.hid (row_keep hbs RA2.out);replace RB2:=Lib.hid (row_keep hbs RB2.out);replace HB:=Lib.hid (HB.out.trans (hbs.mono HB.out.size));clear hb9 hbs))
         have RF2:=Lib.hid (row_keep HB.out RFr.out);have Hb2:=Lib.hid (Hbwr.out.trans (HB.out.mono Hbwr.out.size))
         go_wp2_with (refine wpList_store_part rfl 75 _ _ rfl (w.heap.size + 1 + 1) 0 _ 75 #[.int .i64 4,.int .i64 (j:Nat)] rfl rfl RF2.out (by kernel_rfl) (by simp [Value.oneCell']) (Nat.le_of_ble_eq_true rfl) #[.int .i64 4,.int .i64 (j:Nat)] rfl ?_;intro w5 rR5 hoth hbl hsz5;have hbw5:=Lib.hid (Hb2.out.trans (hbl.mono (by omega)));have RR5:=Lib.hid rR5;clear hoth hbl hsz5 rR5)
         refine bodyPost_ret (v:=faultV 4 (j:Nat)) (results_cell_row Tryz.results30 _ _ (w.heap.size + 1 + 1) 75 _ (0,0) _ rfl RR5.out Tryz.underlying75 rfl (by kernel_rfl)) rfl ⟨by rw [HC.out];rfl,hbw5.out⟩
    ·have hfr':(free || (c.rep.head?.getD 0 == 0)) = false:=by simpa using hfr
     have HC:=Lib.hid (colErr_head (c:=c) (Hhn.out free hfr'))
     rw [Bool.or_eq_false_iff] at hfr'
     obtain ⟨rfl,h6⟩:=hfr'
     cases hrr:c.rep with
     | nil=>rw [hrr] at h6;simp at h6
     | cons r0 rl =>
      have hl0:0 < c.rep.length:=by rw [hrr];simp
      obtain ⟨b1,o1,rfl,-,hlt1,hc1⟩:=Ha.out.at hl0
      have cr:wr.cell? ⟨b1,o1,none⟩ = some (.int .i64 r0):=(Hbwr.out.cell (p:=⟨b1,o1,none⟩) hlt1).trans (by simpa using hc1 0 r0 (by rw [hrr];rfl))
      have hr0:(r0 != 0) = true:=by rw [hrr] at h6;simpa using h6
      have hl':(0:Int) < (k:Int):=by rw [Hn1.out] at hl0;omega
      have hl'':0 < k:=by omega
      clear hc1 hl0 h6 hfr hrr
      go_wp2_with fail
      refine (bare_any _ _).mono ?_;rintro e w3 ⟨rfl,hb3⟩
      have RF3:=Lib.hid (row_keep hb3 RFr.out);have Hb3:=Lib.hid (Hbwr.out.trans (hb3.mono Hbwr.out.size))
      clear hb3
      unfold faultV
      go_wp2_with (refine wpList_store_part rfl 75 _ _ rfl (w.heap.size + 1 + 1) 0 _ 75 #[.int .i64 3,.int .i64 (-1)] rfl rfl RF3.out (by kernel_rfl) (by simp [Value.oneCell']) (Nat.le_of_ble_eq_true rfl) #[.int .i64 3,.int .i64 (-1)] rfl ?_;intro w5 rR5 hoth hbl hsz5;have hbw5:=Lib.hid (Hb3.out.trans (hbl.mono (by omega)));have RR5:=Lib.hid rR5;clear hoth hbl hsz5 rR5)
      refine bodyPost_ret (v:=faultV 3 (-1)) (results_cell_row Tryz.results30 _ _ (w.heap.size + 1 + 1) 75 _ (0,0) _ rfl RR5.out Tryz.underlying75 rfl (by kernel_rfl)) rfl ⟨by rw [HC.out];rfl,hbw5.out⟩
   ·have hmv':((m:Int) != (c.vals.length:Int)) = true:=by simp;omega
    have HC:=Lib.hid (colErr_many (f:=f) (c:=c) (free:=free) (fun hh=>hmv (Hm1.out.trans hh)))
    clear hmv
    go_wp2_with fail
    refine (bare_any _ _).mono ?_;rintro e w3 ⟨rfl,hb3⟩
    have RF3:=Lib.hid (row_keep hb3 RFr.out);have Hb3:=Lib.hid (Hbwr.out.trans (hb3.mono Hbwr.out.size))
    clear hb3
    unfold faultV
    go_wp2_with (refine wpList_store_part rfl 75 _ _ rfl (w.heap.size + 1 + 1) 0 _ 75 #[.int .i64 3,.int .i64 (-1)] rfl rfl RF3.out (by kernel_rfl) (by simp [Value.oneCell']) (Nat.le_of_ble_eq_true rfl) #[.int .i64 3,.int .i64 (-1)] rfl ?_;intro w5 rR5 hoth hbl hsz5;have hbw5:=Lib.hid (Hb3.out.trans (hbl.mono (by omega)));have RR5:=Lib.hid rR5;clear hoth hbl hsz5 rR5)
    refine bodyPost_ret (v:=faultV 3 (-1)) (results_cell_row Tryz.results30 _ _ (w.heap.size + 1 + 1) 75 _ (0,0) _ rfl RR5.out Tryz.underlying75 rfl (by kernel_rfl)) rfl ⟨by rw [HC.out];rfl,hbw5.out⟩
theorem cerr_any (f:Lf) (c:Col) (free:Bool) (vf vc:Value) (w:World) (hf:IsLf w vf f) (hc:IsCol w vc c) (fo:f.Ok) (co:c.Ok) :
  Calls Tryz.prog 30 #[vf,vc,.bool free] w fun e w'=>e = .returned (faultV (colErr f c free).code (colErr f c free).at') ∧ Below w.heap.size w w':=by
 by_cases hR:rightB f = true
 ·by_cases h1:f.id = c.id
  ·by_cases h2:c.rep.length = c.df.length
   ·exact cerr_main f c free vf vc w hf hc fo co hR h1 h2
   ·rw [colErr_head (show headB f c free = false by unfold headB;simp [h2])]
    exact cerr_len f c free vf vc w hf hc hR h1 h2 co
  ·rw [colErr_head (show headB f c free = false by unfold headB;simp [h1])]
   exact cerr_id f c free vf vc w hf hc hR h1
 ·rw [colErr_head (show headB f c free = false by unfold headB;simp [hR])]
  exact cerr_right f c free vf vc w hf hc (by simpa using hR)
end Go.Proofs.YtapiabmmfmfaeaaGreatDoor
/- The walk of the document's StatsOf. -/
namespace Go.Proofs.YtapiabmmfmfaeaaGreatDoor
set_option maxHeartbeats 20000000
set_option linter.unusedVariables false
open Go Go.RowKit Go.ChangeShapes
set_option maxRecDepth 100000 in
theorem statsOfR_any (c:Col) (vc:Value) (w:World) (hc:IsCol w vc c) (co:c.Ok) :
  Calls Tryz.prog 31 #[vc] w fun e w'=>e = .returned (.agg (stA (knownSt c))) ∧ Below w.heap.size w w':=by
 obtain ⟨a,b,d,rfl,ha,hb,hd⟩:=hc
 have hml:c.rep.length ≤ 9223372036854775807:=by have:=co.rep.1;unfold maxLen at this;exact this
 have hvl:c.vals.length ≤ 9223372036854775807:=by have:=co.vals.1;unfold maxLen at this;exact this
 obtain ⟨a1,q1,rfl⟩:=ha.form
 obtain ⟨a3,q3,rfl⟩:=hd.form
 have hkn:stA (knownSt c) = stA ⟨(c.rep.length:Nat),(c.rep.length:Int) - (c.vals.length:Nat),!c.vals.isEmpty,loOf c.vals,hiOf c.vals⟩:=rfl
 rw [hkn]
 have Hd:=Lib.hid hd;have Hco:=Lib.hid co
 have Hemp:Hid ((!c.vals.isEmpty) = decide (0 < c.vals.length)):=Lib.hid (by cases c.vals <;> simp)
 generalize c.rep.length = n at *
 obtain ⟨L,hL⟩:∃ L,c.vals.length = L:=⟨_,rfl⟩
 rw [hL] at hvl ⊢
 have HL:=Lib.hid hL
 obtain ⟨bb,hbb⟩:∃ bb,decide (0 < L) = bb:=⟨_,rfl⟩
 have hbi:decide ((0:Int) < (L:Int)) = bb:=by rw [← hbb];simp
 have HBB:=Lib.hid hbb
 rw [show (!c.vals.isEmpty) = bb from by rw [Hemp.out,HL.out,hbb]]
 clear ha hb hd co hkn hL hbb
 unfold colA
 go_enter Tryz.func31,Tryz.ntmps31
 go_upto_region 2 with fail
 obtain ⟨rC,rR,rS,hbw,hz⟩:=rows3 (w:=w) (A:=.cells #[.int .i64 c.id,.slice a1 n q1,b,.slice a3 L q3] 29) (B:=.cells #[.int .i64 0,.int .i64 0,.bool false,.int .i64 0,.int .i64 0,.string ⟨#[]⟩,.int .i64 0,.int .i64 0,.string ⟨#[]⟩] 46) (C:=.cells #[.int .i64 (n:Nat),.int .i64 ((n:Int) - (L:Nat)),.bool (decide (0 < L)),.int .i64 0,.int .i64 0,.string ⟨#[]⟩,.int .i64 0,.int .i64 0,.string ⟨#[]⟩] 46) (Below.refl _ _)
 have RC:=Lib.hid rC;have RR:=Lib.hid rR;have RS:=Lib.hid rS;have Hbw:=Lib.hid hbw
 clear rC rR rS hbw
 generalize (((w.alloc (.cells #[.int .i64 c.id,.slice a1 n q1,b,.slice a3 L q3] 29)).alloc (.cells #[.int .i64 0,.int .i64 0,.bool false,.int .i64 0,.int .i64 0,.string ⟨#[]⟩,.int .i64 0,.int .i64 0,.string ⟨#[]⟩] 46)).alloc (.cells #[.int .i64 (n:Nat),.int .i64 ((n:Int) - (L:Nat)),.bool (decide (0 < L)),.int .i64 0,.int .i64 0,.string ⟨#[]⟩,.int .i64 0,.int .i64 0,.string ⟨#[]⟩] 46)) = w1 at *
 replace RS:=Lib.hid (by have h:=RS.out;rw [HBB.out] at h;exact h)
 clear hbi
 go_wp2_with fail
 go_loopw [4] (fun q wr=>∃ k:Nat,k ≤ L ∧ q = .int .i64 (k:Nat) ∧ Below w.heap.size w wr ∧ w.heap.size + 2 < wr.heap.size ∧ wr.heap[w.heap.size]? = some (.cells #[.int .i64 c.id,.slice a1 n q1,b,.slice a3 L q3] 29 (0,0)) ∧ wr.heap[w.heap.size + 1]? = some (.cells #[.int .i64 0,.int .i64 0,.bool false,.int .i64 0,.int .i64 0,.string ⟨#[]⟩,.int .i64 0,.int .i64 0,.string ⟨#[]⟩] 46 (0,0)) ∧ wr.heap[w.heap.size + 1 + 1]? = some (.cells (stA ⟨(n:Nat),(n:Int) - (L:Nat),bb,loOf (c.vals.take k),hiOf (c.vals.take k)⟩) 46 (0,0))) (fun q _=>L - (intOf q).toNat)
 case atStart =>
  refine ⟨0,Nat.zero_le _,rfl,Hbw.out,hz,RC.out,RR.out,?_⟩
  exact RS.out
 case round =>
  obtain ⟨k,hk,rfl,hbr,hzr,rC,rR,rS⟩:=hrel
  clear RC RR RS Hbw hz
  have RC:=Lib.hid rC;have RR:=Lib.hid rR;have RS:=Lib.hid rS;have Hbr:=Lib.hid hbr
  clear rC rR rS hbr
  have cC:=rowc RC.out
  by_cases hlt:k < L
  ·have hkl:k < c.vals.length:=by rw [HL.out];exact hlt
   have hbt:bb = true:=by rw [← HBB.out];simp;omega
   subst hbt
   obtain ⟨b0,off,rfl,-,hlt0,hcv⟩:=Hd.out.at (by omega)
   have hin:(k:Int) < (L:Int):=by omega
   have hcx:=hcv k c.vals[k] (List.getElem?_eq_getElem hkl)
   have hox:=Hco.out.vals.2 c.vals[k] (List.getElem_mem hkl)
   have htk:c.vals.take (k + 1) = c.vals.take k ++ [c.vals[k]]:=List.take_succ_eq_append_getElem hkl
   have hmem:∀ x ∈ c.vals.take k,x.Ok:=fun x hx=>Hco.out.vals.2 x (List.mem_of_mem_take hx)
   have Htk:=Lib.hid htk;have Hmem:=Lib.hid hmem
   generalize c.vals[k] = y at *
   have HX0:=Lib.hid hcx
   have HX:=Lib.hid (hcx.below Hbr.out hlt0)
   clear hcv hcx htk hmem hkl
   by_cases hk0:k = 0
   ·subst hk0
    have Hf:Hid (loOf (c.vals.take (0 + 1)) = y ∧ hiOf (c.vals.take (0 + 1)) = y):=Lib.hid (by rw [Htk.out];exact ⟨rfl,rfl⟩)
    have RS0:Hid (wr.heap[w.heap.size + 1 + 1]? = some (.cells #[.int .i64 (n:Nat),.int .i64 ((n:Int) - (L:Nat)),.bool true,.int .i64 0,.int .i64 0,.string ⟨#[]⟩,.int .i64 0,.int .i64 0,.string ⟨#[]⟩] 46 (0,0))):=Lib.hid (by have h:=RS.out;rw [show c.vals.take 0 = [] from rfl] at h;simpa [stA,loOf,hiOf,zv] using h)
    replace HX0:=Lib.hid (by have h:=HX0.out;rw [Nat.zero_mul,Nat.add_zero] at h;exact h)
    clear HX
    have HX:=Lib.hid (HX0.out.below Hbr.out hlt0)
    have cS:=rowc RS0.out
    go_upto_region 5 with fail
    go_cut [38] from 20 to 62 (fun s wx=>s = .bool true ∧ Below wr.heap.size wr wx)
    case first =>
     go_quiet (fail)
     go_wp2_with fail
     go_meet
     exact ⟨rfl,below_drewN (Below.refl _ _) _⟩
    case rest =>
     obtain ⟨rfl,hbx⟩:=hcut
     replace RC:=Lib.hid (row_keep hbx RC.out);replace RR:=Lib.hid (row_keep hbx RR.out);replace RS0:=Lib.hid (row_keep hbx RS0.out);replace Hbr:=Lib.hid (Hbr.out.trans (hbx.mono Hbr.out.size));replace hzr:=Nat.lt_of_lt_of_le hzr hbx.size
     clear HX;have HX:=Lib.hid (HX0.out.below Hbr.out hlt0)
     clear hbx cC cS
     have cC:=rowc RC.out;have cS:=rowc RS0.out;have fS:=rowf RS0.out
     obtain ⟨w5,rfl⟩:∃ w5:World,w5 = wc:=⟨_,rfl⟩
     obtain ⟨hx0,hx1,hx2⟩:=HX.out
     go_upto_region 7 with fail
     obtain ⟨p1,p2,p3,p4⟩:=set3_row (x:=.int .i64 y.k) (y:=.int .i64 y.n) (z:=.string y.s) 3 RS0.out (by simp)
     replace RS0:=Lib.hid (p1.trans (show _ = some (.cells #[.int .i64 (n:Nat),.int .i64 ((n:Int) - (L:Nat)),.bool true,.int .i64 y.k,.int .i64 y.n,.string y.s,.int .i64 0,.int .i64 0,.string ⟨#[]⟩] 46 (0,0)) from rfl));replace RC:=Lib.hid ((p2 _ (by omega)).trans RC.out);replace RR:=Lib.hid ((p2 _ (by omega)).trans RR.out);replace Hbr:=Lib.hid (Hbr.out.trans (p3.mono (by omega)))
     replace hzr:=Nat.lt_of_lt_of_le hzr (Nat.le_of_eq p4.symm)
     clear HX;have HX:=Lib.hid (HX0.out.below Hbr.out hlt0)
     clear p1 p2 p3 p4 cC cS fS hx0 hx1 hx2
     generalize (((w5.setCell ⟨w.heap.size + 1 + 1,3,none⟩ (.int .i64 y.k)).setCell ⟨w.heap.size + 1 + 1,4,none⟩ (.int .i64 y.n)).setCell ⟨w.heap.size + 1 + 1,5,none⟩ (.string y.s)) = w6 at *
     have cC:=rowc RC.out;have cS:=rowc RS0.out
     go_upto_region 7 with fail
     go_cut [56] from 20 to 62 (fun s wx=>s = .bool true ∧ Below w6.heap.size w6 wx)
     case first =>
      go_quiet (fail)
      go_wp2_with fail
      go_meet
      exact ⟨rfl,below_drewN (Below.refl _ _) _⟩
     case rest =>
      obtain ⟨rfl,hbx⟩:=hcut
      replace RC:=Lib.hid (row_keep hbx RC.out);replace RR:=Lib.hid (row_keep hbx RR.out);replace RS0:=Lib.hid (row_keep hbx RS0.out);replace Hbr:=Lib.hid (Hbr.out.trans (hbx.mono Hbr.out.size));replace hzr:=Nat.lt_of_lt_of_le hzr hbx.size
      clear HX;have HX:=Lib.hid (HX0.out.below Hbr.out hlt0)
      clear hbx cC cS
      have cC:=rowc RC.out;have cS:=rowc RS0.out;have fS:=rowf RS0.out
      obtain ⟨w7,rfl⟩:∃ w7:World,w7 = wc:=⟨_,rfl⟩
      obtain ⟨hx0,hx1,hx2⟩:=HX.out
      go_wp2_with fail
      obtain ⟨p1,p2,p3,p4⟩:=set3_row (x:=.int .i64 y.k) (y:=.int .i64 y.n) (z:=.string y.s) 6 RS0.out (by simp)
      replace RS0:=Lib.hid (p1.trans (show _ = some (.cells #[.int .i64 (n:Nat),.int .i64 ((n:Int) - (L:Nat)),.bool true,.int .i64 y.k,.int .i64 y.n,.string y.s,.int .i64 y.k,.int .i64 y.n,.string y.s] 46 (0,0)) from rfl));replace RC:=Lib.hid ((p2 _ (by omega)).trans RC.out);replace RR:=Lib.hid ((p2 _ (by omega)).trans RR.out);replace Hbr:=Lib.hid (Hbr.out.trans (p3.mono (by omega)))
      replace hzr:=Nat.lt_of_lt_of_le hzr (Nat.le_of_eq p4.symm)
      clear HX;have HX:=Lib.hid (HX0.out.below Hbr.out hlt0)
      clear p1 p2 p3 p4 cC cS fS hx0 hx1 hx2
      go_roundw
      case rel =>
       refine ⟨0 + 1,by omega,by go_num,Hbr.out,hzr,RC.out,RR.out,?_⟩
       rw [Hf.out.1,Hf.out.2];exact RS0.out
      case measure=>simp [intOf];omega
   ·have hnil:c.vals.take k ≠ []:=by
     intro h
     have h2:=congrArg List.length h
     rw [List.length_take,HL.out] at h2
     simp at h2;omega
    have hlo:=Hmem.out _ (loOf_mem _ hnil);have hhi:=Hmem.out _ (hiOf_mem _ hnil)
    have Hlo:=Lib.hid (loOf_snoc (c.vals.take k) hnil y);have Hhi:=Lib.hid (hiOf_snoc (c.vals.take k) hnil y)
    have RS0:Hid (wr.heap[w.heap.size + 1 + 1]? = some (.cells (stA ⟨(n:Nat),(n:Int) - (L:Nat),true,loOf (c.vals.take k),hiOf (c.vals.take k)⟩) 46 (0,0))):=RS
    clear hnil
    generalize loOf (c.vals.take k) = lo at *
    generalize hiOf (c.vals.take k) = hi at *
    have hk0':((k:Int) == 0) = false:=by simp;omega
    simp only [stA] at RS0
    cases t1:y.less lo <;> cases t2:hi.less y
    ·skip
     have HA:=Lib.hid (fun w1=>lessOf_at y lo hox hlo _ t1 w1)
     have HB2:=Lib.hid (fun w1=>lessOf_at hi y hhi hox _ t2 w1)
     have Hf:Hid (loOf (c.vals.take (k + 1)) = lo ∧ hiOf (c.vals.take (k + 1)) = hi):=Lib.hid ⟨by rw [Htk.out,Hlo.out];unfold pickLo;rw [t1];rfl,by rw [Htk.out,Hhi.out];unfold pickHi;rw [t2];rfl⟩
     clear hox hlo hhi t1 t2
     have cS:=rowc RS0.out
     go_upto_region 5 with fail
     go_cut [38] from 20 to 62 (fun s wx=>s = .bool false ∧ Below wr.heap.size wr wx)
     case first =>
      have HBq:=Lib.hid (Below.refl wr.heap.size wr)
      go_region_held3 (fun w'=>(∀ j,w'.cell? ⟨w.heap.size,j,none⟩ = (#[.int .i64 c.id,.slice a1 n q1,b,.slice (some ⟨b0,off,none⟩) L q3]:Array Value)[j]?) ∧ (∀ j,w'.cell? ⟨w.heap.size + 1 + 1,j,none⟩ = (#[.int .i64 (n:Nat),.int .i64 ((n:Int) - (L:Nat)),.bool true,.int .i64 lo.k,.int .i64 lo.n,.string lo.s,.int .i64 hi.k,.int .i64 hi.n,.string hi.s]:Array Value)[j]?) ∧ w'.cell? ⟨b0,off + k * 3,none⟩ = some (.int .i64 y.k) ∧ w'.cell? ⟨b0,off + k * 3 + 1,none⟩ = some (.int .i64 y.n) ∧ w'.cell? ⟨b0,off + k * 3 + 2,none⟩ = some (.string y.s))
       (first | (with_reducible exact ⟨rowc RC.out,rowc RS0.out,HX.out.1,HX.out.2.1,HX.out.2.2⟩) | exact ⟨rowc_drew RC.out,rowc_drew RS0.out,HX.out.1,HX.out.2.1,HX.out.2.2⟩)
       (first
       | (go_at_call 56;(with_reducible refine (HA.out _).mono ?_);rintro e w9 ⟨rfl,hb9⟩;(first | (with_reducible have hbs:=drew_first hb9) | (have hbs:=hb9));replace HX:=Lib.hid (HX.out.below hbs (by omega));replace RC:=Lib.hid (row_keep hbs RC.out);replace RS0:=Lib.hid (row_keep hbs RS0.out);replace HBq:=Lib.hid (HBq.out.trans (hbs.mono HBq.out.size));clear hb9 hbs))
      all_goals (go_wp2_with fail;go_meet)
      all_goals (exact ⟨rfl,HBq.out⟩)
     case rest =>
      obtain ⟨rfl,hbx⟩:=hcut
      replace RC:=Lib.hid (row_keep hbx RC.out);replace RR:=Lib.hid (row_keep hbx RR.out);replace RS0:=Lib.hid (row_keep hbx RS0.out);replace Hbr:=Lib.hid (Hbr.out.trans (hbx.mono Hbr.out.size));replace hzr:=Nat.lt_of_lt_of_le hzr hbx.size
      clear HX;have HX:=Lib.hid (HX0.out.below Hbr.out hlt0)
      clear hbx cC cS
      have cC:=rowc RC.out;have cS:=rowc RS0.out;have fS:=rowf RS0.out
      obtain ⟨w5,rfl⟩:∃ w5:World,w5 = wc:=⟨_,rfl⟩
      go_upto_region 7 with fail
      go_upto_region 7 with fail
      go_cut [56] from 20 to 62 (fun s wx=>s = .bool false ∧ Below w5.heap.size w5 wx)
      case first =>
       have HBq:=Lib.hid (Below.refl w5.heap.size w5)
       go_region_held3 (fun w'=>(∀ j,w'.cell? ⟨w.heap.size,j,none⟩ = (#[.int .i64 c.id,.slice a1 n q1,b,.slice (some ⟨b0,off,none⟩) L q3]:Array Value)[j]?) ∧ (∀ j,w'.cell? ⟨w.heap.size + 1 + 1,j,none⟩ = (#[.int .i64 (n:Nat),.int .i64 ((n:Int) - (L:Nat)),.bool true,.int .i64 lo.k,.int .i64 lo.n,.string lo.s,.int .i64 hi.k,.int .i64 hi.n,.string hi.s]:Array Value)[j]?) ∧ w'.cell? ⟨b0,off + k * 3,none⟩ = some (.int .i64 y.k) ∧ w'.cell? ⟨b0,off + k * 3 + 1,none⟩ = some (.int .i64 y.n) ∧ w'.cell? ⟨b0,off + k * 3 + 2,none⟩ = some (.string y.s))
        (first | (with_reducible exact ⟨rowc RC.out,rowc RS0.out,HX.out.1,HX.out.2.1,HX.out.2.2⟩) | exact ⟨rowc_drew RC.out,rowc_drew RS0.out,HX.out.1,HX.out.2.1,HX.out.2.2⟩)
        (first
        | (go_at_call 56;(with_reducible refine (HB2.out _).mono ?_);rintro e w9 ⟨rfl,hb9⟩;(first | (with_reducible have hbs:=drew_first hb9) | (have hbs:=hb9));replace HX:=Lib.hid (HX.out.below hbs (by omega));replace RC:=Lib.hid (row_keep hbs RC.out);replace RS0:=Lib.hid (row_keep hbs RS0.out);replace HBq:=Lib.hid (HBq.out.trans (hbs.mono HBq.out.size));clear hb9 hbs))
       all_goals (go_wp2_with fail;go_meet)
       all_goals (exact ⟨rfl,HBq.out⟩)
      case rest =>
       obtain ⟨rfl,hbx⟩:=hcut
       replace RC:=Lib.hid (row_keep hbx RC.out);replace RR:=Lib.hid (row_keep hbx RR.out);replace RS0:=Lib.hid (row_keep hbx RS0.out);replace Hbr:=Lib.hid (Hbr.out.trans (hbx.mono Hbr.out.size));replace hzr:=Nat.lt_of_lt_of_le hzr hbx.size
       clear HX;have HX:=Lib.hid (HX0.out.below Hbr.out hlt0)
       clear hbx cC cS
       have cC:=rowc RC.out;have cS:=rowc RS0.out;have fS:=rowf RS0.out
       obtain ⟨w7,rfl⟩:∃ w7:World,w7 = wc:=⟨_,rfl⟩
       go_wp2_with fail
       go_roundw
       case rel =>
        refine ⟨k + 1,by omega,by go_num,Hbr.out,hzr,RC.out,RR.out,?_⟩
        rw [Hf.out.1,Hf.out.2];exact RS0.out
       case measure=>simp [intOf];omega
    ·skip
     have HA:=Lib.hid (fun w1=>lessOf_at y lo hox hlo _ t1 w1)
     have HB2:=Lib.hid (fun w1=>lessOf_at hi y hhi hox _ t2 w1)
     have Hf:Hid (loOf (c.vals.take (k + 1)) = lo ∧ hiOf (c.vals.take (k + 1)) = y):=Lib.hid ⟨by rw [Htk.out,Hlo.out];unfold pickLo;rw [t1];rfl,by rw [Htk.out,Hhi.out];unfold pickHi;rw [t2];rfl⟩
     clear hox hlo hhi t1 t2
     have cS:=rowc RS0.out
     go_upto_region 5 with fail
     go_cut [38] from 20 to 62 (fun s wx=>s = .bool false ∧ Below wr.heap.size wr wx)
     case first =>
      have HBq:=Lib.hid (Below.refl wr.heap.size wr)
      go_region_held3 (fun w'=>(∀ j,w'.cell? ⟨w.heap.size,j,none⟩ = (#[.int .i64 c.id,.slice a1 n q1,b,.slice (some ⟨b0,off,none⟩) L q3]:Array Value)[j]?) ∧ (∀ j,w'.cell? ⟨w.heap.size + 1 + 1,j,none⟩ = (#[.int .i64 (n:Nat),.int .i64 ((n:Int) - (L:Nat)),.bool true,.int .i64 lo.k,.int .i64 lo.n,.string lo.s,.int .i64 hi.k,.int .i64 hi.n,.string hi.s]:Array Value)[j]?) ∧ w'.cell? ⟨b0,off + k * 3,none⟩ = some (.int .i64 y.k) ∧ w'.cell? ⟨b0,off + k * 3 + 1,none⟩ = some (.int .i64 y.n) ∧ w'.cell? ⟨b0,off + k * 3 + 2,none⟩ = some (.string y.s))
       (first | (with_reducible exact ⟨rowc RC.out,rowc RS0.out,HX.out.1,HX.out.2.1,HX.out.2.2⟩) | exact ⟨rowc_drew RC.out,rowc_drew RS0.out,HX.out.1,HX.out.2.1,HX.out.2.2⟩)
       (first
       | (go_at_call 56;(with_reducible refine (HA.out _).mono ?_);rintro e w9 ⟨rfl,hb9⟩;(first | (with_reducible have hbs:=drew_first hb9) | (have hbs:=hb9));replace HX:=Lib.hid (HX.out.below hbs (by omega));replace RC:=Lib.hid (row_keep hbs RC.out);replace RS0:=Lib.hid (row_keep hbs RS0.out);replace HBq:=Lib.hid (HBq.out.trans (hbs.mono HBq.out.size));clear hb9 hbs))
      all_goals (go_wp2_with fail;go_meet)
      all_goals (exact ⟨rfl,HBq.out⟩)
     case rest =>
      obtain ⟨rfl,hbx⟩:=hcut
      replace RC:=Lib.hid (row_keep hbx RC.out);replace RR:=Lib.hid (row_keep hbx RR.out);replace RS0:=Lib.hid (row_keep hbx RS0.out);replace Hbr:=Lib.hid (Hbr.out.trans (hbx.mono Hbr.out.size));replace hzr:=Nat.lt_of_lt_of_le hzr hbx.size
      clear HX;have HX:=Lib.hid (HX0.out.below Hbr.out hlt0)
      clear hbx cC cS
      have cC:=rowc RC.out;have cS:=rowc RS0.out;have fS:=rowf RS0.out
      obtain ⟨w5,rfl⟩:∃ w5:World,w5 = wc:=⟨_,rfl⟩
      go_upto_region 7 with fail
      go_upto_region 7 with fail
      go_cut [56] from 20 to 62 (fun s wx=>s = .bool true ∧ Below w5.heap.size w5 wx)
      case first =>
       have HBq:=Lib.hid (Below.refl w5.heap.size w5)
       go_region_held3 (fun w'=>(∀ j,w'.cell? ⟨w.heap.size,j,none⟩ = (#[.int .i64 c.id,.slice a1 n q1,b,.slice (some ⟨b0,off,none⟩) L q3]:Array Value)[j]?) ∧ (∀ j,w'.cell? ⟨w.heap.size + 1 + 1,j,none⟩ = (#[.int .i64 (n:Nat),.int .i64 ((n:Int) - (L:Nat)),.bool true,.int .i64 lo.k,.int .i64 lo.n,.string lo.s,.int .i64 hi.k,.int .i64 hi.n,.string hi.s]:Array Value)[j]?) ∧ w'.cell? ⟨b0,off + k * 3,none⟩ = some (.int .i64 y.k) ∧ w'.cell? ⟨b0,off + k * 3 + 1,none⟩ = some (.int .i64 y.n) ∧ w'.cell? ⟨b0,off + k * 3 + 2,none⟩ = some (.string y.s))
        (first | (with_reducible exact ⟨rowc RC.out,rowc RS0.out,HX.out.1,HX.out.2.1,HX.out.2.2⟩) | exact ⟨rowc_drew RC.out,rowc_drew RS0.out,HX.out.1,HX.out.2.1,HX.out.2.2⟩)
        (first
        | (go_at_call 56;(with_reducible refine (HB2.out _).mono ?_);rintro e w9 ⟨rfl,hb9⟩;(first | (with_reducible have hbs:=drew_first hb9) | (have hbs:=hb9));replace HX:=Lib.hid (HX.out.below hbs (by omega));replace RC:=Lib.hid (row_keep hbs RC.out);replace RS0:=Lib.hid (row_keep hbs RS0.out);replace HBq:=Lib.hid (HBq.out.trans (hbs.mono HBq.out.size));clear hb9 hbs))
       all_goals (go_wp2_with fail;go_meet)
       all_goals (exact ⟨rfl,HBq.out⟩)
      case rest =>
       obtain ⟨rfl,hbx⟩:=hcut
       replace RC:=Lib.hid (row_keep hbx RC.out);replace RR:=Lib.hid (row_keep hbx RR.out);replace RS0:=Lib.hid (row_keep hbx RS0.out);replace Hbr:=Lib.hid (Hbr.out.trans (hbx.mono Hbr.out.size));replace hzr:=Nat.lt_of_lt_of_le hzr hbx.size
       clear HX;have HX:=Lib.hid (HX0.out.below Hbr.out hlt0)
       clear hbx cC cS
       have cC:=rowc RC.out;have cS:=rowc RS0.out;have fS:=rowf RS0.out
       obtain ⟨w7,rfl⟩:∃ w7:World,w7 = wc:=⟨_,rfl⟩
       obtain ⟨hx0,hx1,hx2⟩:=HX.out
       go_wp2_with fail
       obtain ⟨p1,p2,p3,p4⟩:=set3_row (x:=.int .i64 y.k) (y:=.int .i64 y.n) (z:=.string y.s) 6 RS0.out (by simp)
       replace RS0:=Lib.hid (p1.trans (show _ = some (.cells #[.int .i64 (n:Nat),.int .i64 ((n:Int) - (L:Nat)),.bool true,.int .i64 lo.k,.int .i64 lo.n,.string lo.s,.int .i64 y.k,.int .i64 y.n,.string y.s] 46 (0,0)) from rfl));replace RC:=Lib.hid ((p2 _ (by omega)).trans RC.out);replace RR:=Lib.hid ((p2 _ (by omega)).trans RR.out);replace Hbr:=Lib.hid (Hbr.out.trans (p3.mono (by omega)))
       replace hzr:=Nat.lt_of_lt_of_le hzr (Nat.le_of_eq p4.symm)
       clear HX;have HX:=Lib.hid (HX0.out.below Hbr.out hlt0)
       clear p1 p2 p3 p4 cC cS fS hx0 hx1 hx2
       go_roundw
       case rel =>
        refine ⟨k + 1,by omega,by go_num,Hbr.out,hzr,RC.out,RR.out,?_⟩
        rw [Hf.out.1,Hf.out.2];exact RS0.out
       case measure=>simp [intOf];omega
    ·skip
     have HA:=Lib.hid (fun w1=>lessOf_at y lo hox hlo _ t1 w1)
     have HB2:=Lib.hid (fun w1=>lessOf_at hi y hhi hox _ t2 w1)
     have Hf:Hid (loOf (c.vals.take (k + 1)) = y ∧ hiOf (c.vals.take (k + 1)) = hi):=Lib.hid ⟨by rw [Htk.out,Hlo.out];unfold pickLo;rw [t1];rfl,by rw [Htk.out,Hhi.out];unfold pickHi;rw [t2];rfl⟩
     clear hox hlo hhi t1 t2
     have cS:=rowc RS0.out
     go_upto_region 5 with fail
     go_cut [38] from 20 to 62 (fun s wx=>s = .bool true ∧ Below wr.heap.size wr wx)
     case first =>
      have HBq:=Lib.hid (Below.refl wr.heap.size wr)
      go_region_held3 (fun w'=>(∀ j,w'.cell? ⟨w.heap.size,j,none⟩ = (#[.int .i64 c.id,.slice a1 n q1,b,.slice (some ⟨b0,off,none⟩) L q3]:Array Value)[j]?) ∧ (∀ j,w'.cell? ⟨w.heap.size + 1 + 1,j,none⟩ = (#[.int .i64 (n:Nat),.int .i64 ((n:Int) - (L:Nat)),.bool true,.int .i64 lo.k,.int .i64 lo.n,.string lo.s,.int .i64 hi.k,.int .i64 hi.n,.string hi.s]:Array Value)[j]?) ∧ w'.cell? ⟨b0,off + k * 3,none⟩ = some (.int .i64 y.k) ∧ w'.cell? ⟨b0,off + k * 3 + 1,none⟩ = some (.int .i64 y.n) ∧ w'.cell? ⟨b0,off + k * 3 + 2,none⟩ = some (.string y.s))
       (first | (with_reducible exact ⟨rowc RC.out,rowc RS0.out,HX.out.1,HX.out.2.1,HX.out.2.2⟩) | exact ⟨rowc_drew RC.out,rowc_drew RS0.out,HX.out.1,HX.out.2.1,HX.out.2.2⟩)
       (first
       | (go_at_call 56;(with_reducible refine (HA.out _).mono ?_);rintro e w9 ⟨rfl,hb9⟩;(first | (with_reducible have hbs:=drew_first hb9) | (have hbs:=hb9));replace HX:=Lib.hid (HX.out.below hbs (by omega));replace RC:=Lib.hid (row_keep hbs RC.out);replace RS0:=Lib.hid (row_keep hbs RS0.out);replace HBq:=Lib.hid (HBq.out.trans (hbs.mono HBq.out.size));clear hb9 hbs))
      all_goals (go_wp2_with fail;go_meet)
      all_goals (exact ⟨rfl,HBq.out⟩)
     case rest =>
      obtain ⟨rfl,hbx⟩:=hcut
      replace RC:=Lib.hid (row_keep hbx RC.out);replace RR:=Lib.hid (row_keep hbx RR.out);replace RS0:=Lib.hid (row_keep hbx RS0.out);replace Hbr:=Lib.hid (Hbr.out.trans (hbx.mono Hbr.out.size));replace hzr:=Nat.lt_of_lt_of_le hzr hbx.size
      clear HX;have HX:=Lib.hid (HX0.out.below Hbr.out hlt0)
      clear hbx cC cS
      have cC:=rowc RC.out;have cS:=rowc RS0.out;have fS:=rowf RS0.out
      obtain ⟨w5,rfl⟩:∃ w5:World,w5 = wc:=⟨_,rfl⟩
      obtain ⟨hx0,hx1,hx2⟩:=HX.out
      go_upto_region 7 with fail
      obtain ⟨p1,p2,p3,p4⟩:=set3_row (x:=.int .i64 y.k) (y:=.int .i64 y.n) (z:=.string y.s) 3 RS0.out (by simp)
      replace RS0:=Lib.hid (p1.trans (show _ = some (.cells #[.int .i64 (n:Nat),.int .i64 ((n:Int) - (L:Nat)),.bool true,.int .i64 y.k,.int .i64 y.n,.string y.s,.int .i64 hi.k,.int .i64 hi.n,.string hi.s] 46 (0,0)) from rfl));replace RC:=Lib.hid ((p2 _ (by omega)).trans RC.out);replace RR:=Lib.hid ((p2 _ (by omega)).trans RR.out);replace Hbr:=Lib.hid (Hbr.out.trans (p3.mono (by omega)))
      replace hzr:=Nat.lt_of_lt_of_le hzr (Nat.le_of_eq p4.symm)
      clear HX;have HX:=Lib.hid (HX0.out.below Hbr.out hlt0)
      clear p1 p2 p3 p4 cC cS fS hx0 hx1 hx2
      generalize (((w5.setCell ⟨w.heap.size + 1 + 1,3,none⟩ (.int .i64 y.k)).setCell ⟨w.heap.size + 1 + 1,4,none⟩ (.int .i64 y.n)).setCell ⟨w.heap.size + 1 + 1,5,none⟩ (.string y.s)) = w6 at *
      have cC:=rowc RC.out;have cS:=rowc RS0.out
      go_upto_region 7 with fail
      go_cut [56] from 20 to 62 (fun s wx=>s = .bool false ∧ Below w6.heap.size w6 wx)
      case first =>
       have HBq:=Lib.hid (Below.refl w6.heap.size w6)
       go_region_held3 (fun w'=>(∀ j,w'.cell? ⟨w.heap.size,j,none⟩ = (#[.int .i64 c.id,.slice a1 n q1,b,.slice (some ⟨b0,off,none⟩) L q3]:Array Value)[j]?) ∧ (∀ j,w'.cell? ⟨w.heap.size + 1 + 1,j,none⟩ = (#[.int .i64 (n:Nat),.int .i64 ((n:Int) - (L:Nat)),.bool true,.int .i64 y.k,.int .i64 y.n,.string y.s,.int .i64 hi.k,.int .i64 hi.n,.string hi.s]:Array Value)[j]?) ∧ w'.cell? ⟨b0,off + k * 3,none⟩ = some (.int .i64 y.k) ∧ w'.cell? ⟨b0,off + k * 3 + 1,none⟩ = some (.int .i64 y.n) ∧ w'.cell? ⟨b0,off + k * 3 + 2,none⟩ = some (.string y.s))
        (first | (with_reducible exact ⟨rowc RC.out,rowc RS0.out,HX.out.1,HX.out.2.1,HX.out.2.2⟩) | exact ⟨rowc_drew RC.out,rowc_drew RS0.out,HX.out.1,HX.out.2.1,HX.out.2.2⟩)
        (first
        | (go_at_call 56;(with_reducible refine (HB2.out _).mono ?_);rintro e w9 ⟨rfl,hb9⟩;(first | (with_reducible have hbs:=drew_first hb9) | (have hbs:=hb9));replace HX:=Lib.hid (HX.out.below hbs (by omega));replace RC:=Lib.hid (row_keep hbs RC.out);replace RS0:=Lib.hid (row_keep hbs RS0.out);replace HBq:=Lib.hid (HBq.out.trans (hbs.mono HBq.out.size));clear hb9 hbs))
       all_goals (go_wp2_with fail;go_meet)
       all_goals (exact ⟨rfl,HBq.out⟩)
      case rest =>
       obtain ⟨rfl,hbx⟩:=hcut
       replace RC:=Lib.hid (row_keep hbx RC.out);replace RR:=Lib.hid (row_keep hbx RR.out);replace RS0:=Lib.hid (row_keep hbx RS0.out);replace Hbr:=Lib.hid (Hbr.out.trans (hbx.mono Hbr.out.size));replace hzr:=Nat.lt_of_lt_of_le hzr hbx.size
       clear HX;have HX:=Lib.hid (HX0.out.below Hbr.out hlt0)
       clear hbx cC cS
       have cC:=rowc RC.out;have cS:=rowc RS0.out;have fS:=rowf RS0.out
       obtain ⟨w7,rfl⟩:∃ w7:World,w7 = wc:=⟨_,rfl⟩
       go_wp2_with fail
       go_roundw
       case rel =>
        refine ⟨k + 1,by omega,by go_num,Hbr.out,hzr,RC.out,RR.out,?_⟩
        rw [Hf.out.1,Hf.out.2];exact RS0.out
       case measure=>simp [intOf];omega
    ·skip
     have HA:=Lib.hid (fun w1=>lessOf_at y lo hox hlo _ t1 w1)
     have HB2:=Lib.hid (fun w1=>lessOf_at hi y hhi hox _ t2 w1)
     have Hf:Hid (loOf (c.vals.take (k + 1)) = y ∧ hiOf (c.vals.take (k + 1)) = y):=Lib.hid ⟨by rw [Htk.out,Hlo.out];unfold pickLo;rw [t1];rfl,by rw [Htk.out,Hhi.out];unfold pickHi;rw [t2];rfl⟩
     clear hox hlo hhi t1 t2
     have cS:=rowc RS0.out
     go_upto_region 5 with fail
     go_cut [38] from 20 to 62 (fun s wx=>s = .bool true ∧ Below wr.heap.size wr wx)
     case first =>
      have HBq:=Lib.hid (Below.refl wr.heap.size wr)
      go_region_held3 (fun w'=>(∀ j,w'.cell? ⟨w.heap.size,j,none⟩ = (#[.int .i64 c.id,.slice a1 n q1,b,.slice (some ⟨b0,off,none⟩) L q3]:Array Value)[j]?) ∧ (∀ j,w'.cell? ⟨w.heap.size + 1 + 1,j,none⟩ = (#[.int .i64 (n:Nat),.int .i64 ((n:Int) - (L:Nat)),.bool true,.int .i64 lo.k,.int .i64 lo.n,.string lo.s,.int .i64 hi.k,.int .i64 hi.n,.string hi.s]:Array Value)[j]?) ∧ w'.cell? ⟨b0,off + k * 3,none⟩ = some (.int .i64 y.k) ∧ w'.cell? ⟨b0,off + k * 3 + 1,none⟩ = some (.int .i64 y.n) ∧ w'.cell? ⟨b0,off + k * 3 + 2,none⟩ = some (.string y.s))
       (first | (with_reducible exact ⟨rowc RC.out,rowc RS0.out,HX.out.1,HX.out.2.1,HX.out.2.2⟩) | exact ⟨rowc_drew RC.out,rowc_drew RS0.out,HX.out.1,HX.out.2.1,HX.out.2.2⟩)
       (first
       | (go_at_call 56;(with_reducible refine (HA.out _).mono ?_);rintro e w9 ⟨rfl,hb9⟩;(first | (with_reducible have hbs:=drew_first hb9) | (have hbs:=hb9));replace HX:=Lib.hid (HX.out.below hbs (by omega));replace RC:=Lib.hid (row_keep hbs RC.out);replace RS0:=Lib.hid (row_keep hbs RS0.out);replace HBq:=Lib.hid (HBq.out.trans (hbs.mono HBq.out.size));clear hb9 hbs))
      all_goals (go_wp2_with fail;go_meet)
      all_goals (exact ⟨rfl,HBq.out⟩)
     case rest =>
      obtain ⟨rfl,hbx⟩:=hcut
      replace RC:=Lib.hid (row_keep hbx RC.out);replace RR:=Lib.hid (row_keep hbx RR.out);replace RS0:=Lib.hid (row_keep hbx RS0.out);replace Hbr:=Lib.hid (Hbr.out.trans (hbx.mono Hbr.out.size));replace hzr:=Nat.lt_of_lt_of_le hzr hbx.size
      clear HX;have HX:=Lib.hid (HX0.out.below Hbr.out hlt0)
      clear hbx cC cS
      have cC:=rowc RC.out;have cS:=rowc RS0.out;have fS:=rowf RS0.out
      obtain ⟨w5,rfl⟩:∃ w5:World,w5 = wc:=⟨_,rfl⟩
      obtain ⟨hx0,hx1,hx2⟩:=HX.out
      go_upto_region 7 with fail
      obtain ⟨p1,p2,p3,p4⟩:=set3_row (x:=.int .i64 y.k) (y:=.int .i64 y.n) (z:=.string y.s) 3 RS0.out (by simp)
      replace RS0:=Lib.hid (p1.trans (show _ = some (.cells #[.int .i64 (n:Nat),.int .i64 ((n:Int) - (L:Nat)),.bool true,.int .i64 y.k,.int .i64 y.n,.string y.s,.int .i64 hi.k,.int .i64 hi.n,.string hi.s] 46 (0,0)) from rfl));replace RC:=Lib.hid ((p2 _ (by omega)).trans RC.out);replace RR:=Lib.hid ((p2 _ (by omega)).trans RR.out);replace Hbr:=Lib.hid (Hbr.out.trans (p3.mono (by omega)))
      replace hzr:=Nat.lt_of_lt_of_le hzr (Nat.le_of_eq p4.symm)
      clear HX;have HX:=Lib.hid (HX0.out.below Hbr.out hlt0)
      clear p1 p2 p3 p4 cC cS fS hx0 hx1 hx2
      generalize (((w5.setCell ⟨w.heap.size + 1 + 1,3,none⟩ (.int .i64 y.k)).setCell ⟨w.heap.size + 1 + 1,4,none⟩ (.int .i64 y.n)).setCell ⟨w.heap.size + 1 + 1,5,none⟩ (.string y.s)) = w6 at *
      have cC:=rowc RC.out;have cS:=rowc RS0.out
      go_upto_region 7 with fail
      go_cut [56] from 20 to 62 (fun s wx=>s = .bool true ∧ Below w6.heap.size w6 wx)
      case first =>
       have HBq:=Lib.hid (Below.refl w6.heap.size w6)
       go_region_held3 (fun w'=>(∀ j,w'.cell? ⟨w.heap.size,j,none⟩ = (#[.int .i64 c.id,.slice a1 n q1,b,.slice (some ⟨b0,off,none⟩) L q3]:Array Value)[j]?) ∧ (∀ j,w'.cell? ⟨w.heap.size + 1 + 1,j,none⟩ = (#[.int .i64 (n:Nat),.int .i64 ((n:Int) - (L:Nat)),.bool true,.int .i64 y.k,.int .i64 y.n,.string y.s,.int .i64 hi.k,.int .i64 hi.n,.string hi.s]:Array Value)[j]?) ∧ w'.cell? ⟨b0,off + k * 3,none⟩ = some (.int .i64 y.k) ∧ w'.cell? ⟨b0,off + k * 3 + 1,none⟩ = some (.int .i64 y.n) ∧ w'.cell? ⟨b0,off + k * 3 + 2,none⟩ = some (.string y.s))
        (first | (with_reducible exact ⟨rowc RC.out,rowc RS0.out,HX.out.1,HX.out.2.1,HX.out.2.2⟩) | exact ⟨rowc_drew RC.out,rowc_drew RS0.out,HX.out.1,HX.out.2.1,HX.out.2.2⟩)
        (first
        | (go_at_call 56;(with_reducible refine (HB2.out _).mono ?_);rintro e w9 ⟨rfl,hb9⟩;(first | (with_reducible have hbs:=drew_first hb9) | (have hbs:=hb9));replace HX:=Lib.hid (HX.out.below hbs (by omega));replace RC:=Lib.hid (row_keep hbs RC.out);replace RS0:=Lib.hid (row_keep hbs RS0.out);replace HBq:=Lib.hid (HBq.out.trans (hbs.mono HBq.out.size));clear hb9 hbs))
       all_goals (go_wp2_with fail;go_meet)
       all_goals (exact ⟨rfl,HBq.out⟩)
      case rest =>
       obtain ⟨rfl,hbx⟩:=hcut
       replace RC:=Lib.hid (row_keep hbx RC.out);replace RR:=Lib.hid (row_keep hbx RR.out);replace RS0:=Lib.hid (row_keep hbx RS0.out);replace Hbr:=Lib.hid (Hbr.out.trans (hbx.mono Hbr.out.size));replace hzr:=Nat.lt_of_lt_of_le hzr hbx.size
       clear HX;have HX:=Lib.hid (HX0.out.below Hbr.out hlt0)
       clear hbx cC cS
       have cC:=rowc RC.out;have cS:=rowc RS0.out;have fS:=rowf RS0.out
       obtain ⟨w7,rfl⟩:∃ w7:World,w7 = wc:=⟨_,rfl⟩
       obtain ⟨hx0,hx1,hx2⟩:=HX.out
       go_wp2_with fail
       obtain ⟨p1,p2,p3,p4⟩:=set3_row (x:=.int .i64 y.k) (y:=.int .i64 y.n) (z:=.string y.s) 6 RS0.out (by simp)
       replace RS0:=Lib.hid (p1.trans (show _ = some (.cells #[.int .i64 (n:Nat),.int .i64 ((n:Int) - (L:Nat)),.bool true,.int .i64 y.k,.int .i64 y.n,.string y.s,.int .i64 y.k,.int .i64 y.n,.string y.s] 46 (0,0)) from rfl));replace RC:=Lib.hid ((p2 _ (by omega)).trans RC.out);replace RR:=Lib.hid ((p2 _ (by omega)).trans RR.out);replace Hbr:=Lib.hid (Hbr.out.trans (p3.mono (by omega)))
       replace hzr:=Nat.lt_of_lt_of_le hzr (Nat.le_of_eq p4.symm)
       clear HX;have HX:=Lib.hid (HX0.out.below Hbr.out hlt0)
       clear p1 p2 p3 p4 cC cS fS hx0 hx1 hx2
       go_roundw
       case rel =>
        refine ⟨k + 1,by omega,by go_num,Hbr.out,hzr,RC.out,RR.out,?_⟩
        rw [Hf.out.1,Hf.out.2];exact RS0.out
       case measure=>simp [intOf];omega
  ·obtain rfl:k = L:=by omega
   have htk:c.vals.take k = c.vals:=by rw [← HL.out];exact List.take_length
   rw [htk] at RS
   simp only [stA] at RS
   obtain ⟨lo,hlo⟩:∃ lo,loOf c.vals = lo:=⟨_,rfl⟩
   obtain ⟨hi,hhi⟩:∃ hi,hiOf c.vals = hi:=⟨_,rfl⟩
   rw [hlo,hhi] at RS
   have Hlo:=Lib.hid hlo;have Hhi:=Lib.hid hhi
   clear hlo hhi
   have cS:=rowc RS.out
   go_wp2_with (refine wpList_store_part rfl 46 _ _ rfl (w.heap.size + 1) 0 _ 46 #[.int .i64 (n:Nat),.int .i64 ((n:Int) - (k:Nat)),.bool bb,.int .i64 lo.k,.int .i64 lo.n,.string lo.s,.int .i64 hi.k,.int .i64 hi.n,.string hi.s] rfl rfl RR.out (by kernel_rfl) (by simp [Value.oneCell']) (Nat.le_of_ble_eq_true rfl) #[.int .i64 (n:Nat),.int .i64 ((n:Int) - (k:Nat)),.bool bb,.int .i64 lo.k,.int .i64 lo.n,.string lo.s,.int .i64 hi.k,.int .i64 hi.n,.string hi.s] rfl ?_;intro w5 rR5 hoth hbl hsz5;have hbw5:=Lib.hid (Hbr.out.trans (hbl.mono (by omega)));have RR5:=Lib.hid rR5;clear hoth hbl hsz5 rR5)
   refine bodyPost_ret (v:=.agg #[.int .i64 (n:Nat),.int .i64 ((n:Int) - (k:Nat)),.bool bb,.int .i64 lo.k,.int .i64 lo.n,.string lo.s,.int .i64 hi.k,.int .i64 hi.n,.string hi.s]) (results_cell_row Tryz.results31 _ _ (w.heap.size + 1) 46 _ (0,0) _ rfl RR5.out Tryz.underlying46 rfl (by kernel_rfl)) rfl ⟨ret_of (by rw [Hlo.out,Hhi.out];rfl),hbw5.out⟩
end Go.Proofs.YtapiabmmfmfaeaaGreatDoor
