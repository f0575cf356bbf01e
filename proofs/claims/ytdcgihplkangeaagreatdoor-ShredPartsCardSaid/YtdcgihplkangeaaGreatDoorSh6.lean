/- The walks of the program's schema.Leaves; of shred's question whether a column is too long, where none is. -/
import Derived.Test.YtdcgihplkangeaaGreatDoorSh5
import Derived.Test.YtdcgihplkangeaaGreatDoorColC
import Derived.Test.YtdcgihplkangeaaGreatDoorTw5
namespace Go.Proofs.YtdcgihplkangeaaGreatDoor
set_option maxHeartbeats 8000000
set_option linter.unusedVariables false
set_option linter.unusedSimpArgs false
open Go Go.RowKit Go.ChangeShapes
theorem good_small {n:Nd} (h:validE n = 0):size n ≤ 40 ∧ hgt n ≤ 6:=by
 have:=(valid_facts h).1
 unfold goodB at this;rwa [decide_eq_true_iff] at this
def LeavesPRet (adr:Nat → Addr) (V:Nat) (P:List Lvf) (w:World) (e:Ending) (w':World):Prop:=Below w.heap.size w w' ∧
 ((V = 0 ∧ ∃ v LO,e = .returned (.tuple #[v,.nilIface]) ∧ LsRow w.heap.size w' v LO ∧ LO.map Prod.fst = P) ∨ (V ≠ 0 ∧ e = .returned (.tuple #[.slice none 0 0,eV adr V])))
set_option maxRecDepth 100000 in
theorem leavesP_any (adr:Nat → Addr) (n:Nd) (u:Value) (w:World) (hE:ErrsAt w adr [2,3,5]) (hN:IsNds (· < w.heap.size) w u n.sub) (hO:∀ x ∈ nodes n,x.Ok1) :
  Calls Tryz.prog 39 #[.agg (ndA n u)] w (LeavesPRet adr (validE n) (leavesN n) w):=by
 have HV:=Lib.hid (fun (w1:World) (h:Below w.heap.size w w1)=>valid_any n u w1 adr (hE.below h) ((hN.under h).mono fun b hb _=>Nat.lt_of_lt_of_le hb h.size) hO)
 have HLV:=Lib.hid (fun (hv:validE n = 0) (w1:World) (h:Below w.heap.size w w1)=>leaves_any n u (.slice none 0 0) 0 0 0 0 [] w1 ((hN.under h).mono fun b hb _=>Nat.lt_of_lt_of_le hb h.size) hO (IntsT.nil w1) (by have:=(good_small hv).2;simp;omega) (by have:=(good_small hv).1;omega) (Int.le_refl 0) (by have:=(good_small hv).2;omega) (Int.le_refl 0) (by have:=(good_small hv).2;omega))
 obtain ⟨au,cu,rfl⟩:=hN.form
 obtain ⟨V,hV⟩:∃ V,validE n = V:=⟨_,rfl⟩
 rw [hV] at HV HLV ⊢
 obtain ⟨len,hnl⟩:∃ len,n.sub.length = len:=⟨_,rfl⟩
 rw [hnl] at HV HLV ⊢
 clear hE hN hO hV hnl
 have hbw:=(Below.refl w.heap.size w).alloc (Nat.le_refl _) (.cells #[.int .i64 n.id,.string n.name,.int .i64 n.rep,.int .i64 n.kind,.slice au len cu] 48)
 have rA:=heap_alloc_new w (.cells #[.int .i64 n.id,.string n.name,.int .i64 n.rep,.int .i64 n.kind,.slice au len cu] 48)
 unfold ndA at *
 go_enter Tryz.func39,Tryz.ntmps39
 go_upto_region 1 with fail
 generalize (w.alloc (.cells #[.int .i64 n.id,.string n.name,.int .i64 n.rep,.int .i64 n.kind,.slice au len cu] 48)) = w1 at *
 have HW:=Lib.hid hbw;have RA:=Lib.hid rA
 have cA:=rowc rA
 clear hbw rA
 go_wp2_with fail
 refine (HV.out w1 HW.out).mono ?_;rintro e w2 ⟨rfl,hb2⟩
 replace RA:=Lib.hid (row_keep hb2 RA.out);replace HW:=Lib.hid (HW.out.trans (hb2.mono HW.out.size))
 clear hb2 cA HV
 cases V with
 | succ q =>
  unfold eV
  go_wp2_with fail
  go_ret2
  exact ⟨HW.out,.inr ⟨by omega,rfl⟩⟩
 | zero =>
  have HL:=Lib.hid (HLV.out rfl)
  clear HLV
  have cA:=rowc RA.out
  unfold eV
  go_wp2_with fail
  refine (HL.out w2 HW.out).mono ?_;rintro e w3 ⟨v,LO,rfl,hr,hm,hb3⟩
  have HR:=Lib.hid hr;have HM:=Lib.hid hm
  replace HW:=Lib.hid (HW.out.trans (hb3.mono HW.out.size));have HZ:=Lib.hid (show w.heap.size ≤ w2.heap.size from by have:=(rowc RA.out);exact Nat.le_of_lt (row_lt RA.out))
  clear hr hm hb3 cA HL
  go_wp2_with fail
  go_ret2
  exact ⟨HW.out,.inl ⟨rfl,v,LO,rfl,⟨own_baseN HR.out.1 HZ.out,HR.out.2⟩,HM.out⟩⟩
def SaysNo (v:Value) (w:World) (e:Ending) (w':World):Prop:=e = .returned v ∧ Below w.heap.size w w'
set_option maxRecDepth 100000 in
theorem long_no (c:Col) (vc:Value) (w:World) (hc:IsCol w vc c) (hl:c.rep.length ≤ 20000):Calls Tryz.prog 43 #[vc] w (SaysNo (.bool false) w):=by
 obtain ⟨a,b,d,rfl,ha,hb,hd⟩:=hc
 obtain ⟨a1,q1,rfl⟩:=ha.form
 have hd1:decide ((20000:Int) < (c.rep.length:Nat)) = false:=decide_eq_false (by omega)
 have hd2:decide (20000 < c.rep.length) = false:=decide_eq_false (by omega)
 generalize c.rep.length = n at *
 clear ha hb hd
 unfold colA
 go_enter Tryz.func43,Tryz.ntmps43
 go_wp2_with fail
 go_ret
 exact ⟨rfl,(Below.refl _ _).alloc (Nat.le_refl _) _⟩
set_option maxRecDepth 100000 in
theorem index_no (l:List Col) (v:Value) (w:World) (hv:IsCols w v l) (hl:∀ c ∈ l,c.rep.length ≤ 20000) (hn:l.length ≤ 1000000):Calls Tryz.prog 60 #[v,.func (.func 43) #[] #[]] w (SaysNo (.int .i64 (-1)) w):=by
 obtain ⟨ad,cp,rfl⟩:=hv.form
 obtain ⟨len,hnl⟩:∃ len,l.length = len:=⟨_,rfl⟩
 rw [hnl] at hv hn ⊢
 have HL:=Lib.hid hnl;have HV:=Lib.hid hv;have HB:=Lib.hid hl
 clear hnl hv hl
 go_enter Tryz.func60,Tryz.ntmps60
 go_wp2_with fail
 go_loopw [8] (fun i wr=>∃ k:Nat,k ≤ len ∧ i = .int .i64 (k:Nat) ∧ Hid (Below w.heap.size w wr)) (fun i _=>len - (intOf i).toNat)
 case atStart=>exact ⟨0,Nat.zero_le _,rfl,Below.refl _ _⟩
 case round =>
  obtain ⟨k,hk,rfl,HBr⟩:=hrel
  by_cases hlt:k < len
  case neg =>
   obtain rfl:k = len:=by omega
   go_wp2_with fail
   go_ret
   exact ⟨rfl,HBr.out⟩
  have hkl:k < l.length:=by rw [HL.out];exact hlt
  obtain ⟨b0,off,rfl,-,hb0,hat⟩:=(HV.out.below HBr.out (Nat.le_refl _)).at (by omega)
  obtain ⟨p,q,d,h1,h2,h3,h4⟩:=hat k l[k] (List.getElem?_eq_getElem hkl)
  have hle:=HB.out l[k] (List.getElem_mem hkl)
  have hcl:=long_no l[k] (.agg (colA l[k] p q d)) wr ⟨p,q,d,rfl,h1,h2,h3⟩ hle
  generalize l[k] = c at *
  obtain ⟨a1,q1,rfl⟩:=h1.form
  obtain ⟨a2,q2,rfl⟩:=h2.form
  obtain ⟨a3,q3,rfl⟩:=h3.form
  unfold colA at h4 hcl
  have HC:=Lib.hid h4;have HCL:=Lib.hid hcl;have Hlt:=Lib.hid hlt
  have hin:(k:Int) < (len:Int):=by omega
  clear hkl hat h1 h2 h3 h4 hcl hle
  go_wp2_with (refine wpList_load_cells rfl 27 _ rfl b0 (off + k * 4) rfl #[.int .i64 c.id,.slice a1 c.rep.length q1,.slice a2 c.df.length q2,.slice a3 c.vals.length q3] _ HC.out Tryz.underlying27 rfl col_info ?_)
  refine HCL.out.mono ?_;rintro e w4 ⟨rfl,hb4⟩
  have HB4:=Lib.hid (HBr.out.trans (hb4.mono HBr.out.size))
  clear hb4 HCL HC
  go_wp2_with fail
  go_roundw
  case rel=>exact ⟨k + 1,Hlt.out,by go_num,HB4.out⟩
  case measure=>have:=Hlt.out;simp [intOf];omega
set_option maxRecDepth 100000 in
theorem contains_no (l:List Col) (v:Value) (w:World) (hv:IsCols w v l) (hl:∀ c ∈ l,c.rep.length ≤ 20000) (hn:l.length ≤ 1000000):Calls Tryz.prog 42 #[v,.func (.func 43) #[] #[]] w (SaysNo (.bool false) w):=by
 have HC:=Lib.hid (index_no l v w hv hl hn)
 obtain ⟨ad,cp,rfl⟩:=hv.form
 generalize l.length = len at *
 clear hv hl hn
 go_enter Tryz.func42,Tryz.ntmps42
 go_wp2_with fail
 refine HC.out.mono ?_;rintro e w4 ⟨rfl,hb4⟩
 have HB4:=Lib.hid hb4
 clear hb4 HC
 go_wp2_with fail
 go_ret
 exact ⟨rfl,HB4.out⟩
end Go.Proofs.YtdcgihplkangeaaGreatDoor
