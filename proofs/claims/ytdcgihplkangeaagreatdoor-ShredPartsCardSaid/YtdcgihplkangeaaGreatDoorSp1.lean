/- The walks of the laws' slim, of shred.Count and shred.Part. Written by gen_sp1.py. -/
import Derived.Test.YtdcgihplkangeaaGreatDoorCk6
import Derived.Test.YtdcgihplkangeaaGreatDoorCk3
import Derived.Test.YtdcgihplkangeaaGreatDoorSh2
import Derived.Test.YtdcgihplkangeaaGreatDoorRegS
import Derived.Test.YtdcgihplkangeaaGreatDoorTv3
namespace Go.Proofs.YtdcgihplkangeaaGreatDoor
set_option maxHeartbeats 8000000
set_option linter.unusedVariables false
set_option linter.unusedSimpArgs false
open Go Go.RowKit Go.ChangeShapes
def slimB (c:Col):Bool:=decide (c.rep.length ≤ 400) && (decide (c.df.length ≤ 400) && decide (c.vals.length ≤ 400))
set_option maxRecDepth 100000 in
theorem slim2_any (c:Col) (vc:Value) (w:World) (hc:IsCol w vc c):Calls Tryz.prog 6 #[vc] w fun e w'=>e = .returned (.bool (slimB c)) ∧ Below w.heap.size w w':=by
 obtain ⟨a,b,d,rfl,ha,hb,hd⟩:=hc
 obtain ⟨a1,q1,rfl⟩:=ha.form
 obtain ⟨a2,q2,rfl⟩:=hb.form
 obtain ⟨a3,q3,rfl⟩:=hd.form
 clear ha hb hd
 have key:∀ n:Nat,n ≤ 400 ∨ ¬ n ≤ 400:=fun n=>Nat.lt_or_ge 400 n |>.elim (fun h=>.inr (by omega)) .inl
 unfold slimB colA
 generalize c.rep.length = n1 at *
 generalize c.df.length = n2 at *
 generalize c.vals.length = n3 at *
 by_cases h1:n1 ≤ 400
 ·by_cases h2:n2 ≤ 400
  ·by_cases h3:n3 ≤ 400
   ·have d1:(n1:Int) ≤ 400:=by omega
    have d2:(n2:Int) ≤ 400:=by omega
    have d3:(n3:Int) ≤ 400:=by omega
    rw [decide_eq_true h1,decide_eq_true h2,decide_eq_true h3]
    clear key
    go_enter Tryz.func6,Tryz.ntmps6
    go_wp2_with fail
    go_ret
    exact ⟨rfl,(Below.refl _ _).alloc (Nat.le_refl _) _⟩
   ·have d1:(n1:Int) ≤ 400:=by omega
    have d2:(n2:Int) ≤ 400:=by omega
    have d3:¬ (n3:Int) ≤ 400:=by omega
    rw [decide_eq_true h1,decide_eq_true h2,decide_eq_false h3]
    clear key
    go_enter Tryz.func6,Tryz.ntmps6
    go_wp2_with fail
    go_ret
    exact ⟨rfl,(Below.refl _ _).alloc (Nat.le_refl _) _⟩
  ·have d1:(n1:Int) ≤ 400:=by omega
   have d2:¬ (n2:Int) ≤ 400:=by omega
   rw [decide_eq_true h1,decide_eq_false h2]
   clear key
   go_enter Tryz.func6,Tryz.ntmps6
   go_wp2_with fail
   go_ret
   exact ⟨rfl,(Below.refl _ _).alloc (Nat.le_refl _) _⟩
 ·have d1:¬ (n1:Int) ≤ 400:=by omega
  rw [decide_eq_false h1]
  clear key
  go_enter Tryz.func6,Tryz.ntmps6
  go_wp2_with fail
  go_ret
  exact ⟨rfl,(Below.refl _ _).alloc (Nat.le_refl _) _⟩
set_option maxRecDepth 100000 in
theorem count_any (c:Col) (vc:Value) (w:World) (hc:IsCol w vc c) (hl:c.rep.length ≤ 100000) :
  Calls Tryz.prog 13 #[vc] w fun e w'=>e = .returned (.int .i64 (countC c.rep:Nat)) ∧ Below w.heap.size w w':=by
 obtain ⟨a,b,d,rfl,ha,hb,hd⟩:=hc
 have HA:=Lib.hid ha
 obtain ⟨a1,q1,rfl⟩:=ha.form
 clear ha hb hd
 obtain ⟨len,hlen⟩:∃ len,c.rep.length = len:=⟨_,rfl⟩
 rw [hlen] at HA hl ⊢
 have HL:=Lib.hid hlen
 clear hlen
 have hb0:=(Below.refl w.heap.size w).alloc (Nat.le_refl _) (.cells (colA c (.slice a1 len q1) b d) 27)
 have hr0:=heap_alloc_new w (.cells (colA c (.slice a1 len q1) b d) 27)
 unfold colA at *
 go_enter Tryz.func13,Tryz.ntmps13
 go_upto_region 2 with fail
 generalize w.alloc (.cells #[.int .i64 c.id,.slice a1 len q1,b,d] 27) = w1 at *
 have HB:=Lib.hid hb0;have cC:=rowc hr0
 clear hb0 hr0
 go_wp2_with fail
 clear cC
 go_loop [3,9] (fun s i=>∃ k:Nat,k ≤ len ∧ i = .int .i64 (k:Nat) ∧ s = .int .i64 (countC (c.rep.take k):Nat)) (fun _ i=>len - (intOf i).toNat)
 case atStart=>exact ⟨0,Nat.zero_le _,rfl,rfl⟩
 case round =>
  obtain ⟨k,hk,rfl,rfl⟩:=hrel
  by_cases hlt:k < len
  ·have hkl:k < c.rep.length:=by rw [HL.out];exact hlt
   obtain ⟨b0,off,rfl,-,hlt0,hcv⟩:=(HA.out.below HB.out (Nat.le_refl _)).at (by omega)
   have hcx:=hcv k c.rep[k] (List.getElem?_eq_getElem hkl)
   have hct:=countC_take c.rep k hkl
   have hle:countC (c.rep.take k) ≤ k:=by unfold countC;exact Nat.le_trans (List.length_filter_le _ _) (List.length_take_le _ _)
   have hin:(k:Int) < (len:Int):=by omega
   generalize c.rep[k] = y at *
   have HCT:=Lib.hid hct;have Hlt:=Lib.hid hlt
   generalize hq:countC (c.rep.take k) = q at *
   clear hcv hkl hct hq
   by_cases h0:y = 0
   ·have d0:((y:Int) == 0) = true:=by simpa using h0
    have H0:=Lib.hid h0
    clear h0
    go_wp2_with fail
    go_round
    case rel=>exact ⟨k + 1,Hlt.out,by go_num,by rw [HCT.out,if_pos H0.out];go_num⟩
    case measure=>have:=Hlt.out;simp [intOf];omega
   ·have d0:((y:Int) == 0) = false:=by simpa using h0
    have H0:=Lib.hid h0
    clear h0
    go_wp2_with fail
    go_round
    case rel=>exact ⟨k + 1,Hlt.out,by go_num,by rw [HCT.out,if_neg H0.out];rfl⟩
    case measure=>have:=Hlt.out;simp [intOf];omega
  ·obtain rfl:k = len:=by omega
   have hT:=Lib.hid (show c.rep.take k = c.rep from List.take_of_length_le (Nat.le_of_eq HL.out))
   go_wp2_with fail
   go_ret
   exact ⟨by rw [hT.out];rfl,HB.out⟩
theorem IsErr.off1 {w w':World} {adr:Nat → Addr} {e:GErr} {u:Value} (h:IsErr w adr e u) {g:Nat} {c:Value} (hg:w.cell? ⟨g,1,none⟩ = some c) (hc:∀ T p,c ≠ .iface T p) (hk:∀ b,b ≠ g → w'.heap[b]? = w.heap[b]?):IsErr w' adr e u:=by
 cases e with
 | nil=>exact h
 | sent k=>exact h
 | fault k p =>
  obtain ⟨h1,h2,b,h3,h4,h5⟩:=h
  have hb:b ≠ g:=by
   intro e
   subst e
   rw [hg] at h5
   exact hc _ _ (Option.some.inj h5)
  exact ⟨h1,h2,b,h3,(World.cell?_of_block (a:=⟨b,0,none⟩) (hk b hb)).trans h4,(World.cell?_of_block (a:=⟨b,1,none⟩) (hk b hb)).trans h5⟩
theorem err_if {w:World} {adr:Nat → Addr} {e:GErr} {u:Value} (h:IsErr w adr e u) (hn:e ≠ .nil):∃ T p,u = .iface T p:=by
 cases e with
 | nil=>exact absurd rfl hn
 | sent k=>exact ⟨_,_,h.2.2⟩
 | fault k p=>obtain ⟨-,-,b,h,-⟩:=h;exact ⟨_,_,h⟩
def PartBad (adr:Nat → Addr) (G:GErr) (w:World) (e:Ending) (w':World):Prop:=(∃ u,e = .returned (.tuple #[.agg #[.int .i64 0,.slice none 0 0,.slice none 0 0,.slice none 0 0],u]) ∧ IsErr w' adr G u) ∧ Below w.heap.size w w'
set_option maxRecDepth 100000 in
theorem part_bad (f:Lf) (c:Col) (x y:Int) (vf vc:Value) (w:World) (adr:Nat → Addr) (hE:ErrsAt w adr [3,4]) (hf:IsLf w vf f) (hc:IsCol w vc c) (fo:f.Ok) (co:c.Ok) (hG:colErr f c false ≠ .nil) :
  Calls Tryz.prog 10 #[vf,vc,.int .i64 x,.int .i64 y] w (PartBad adr (colErr f c false) w):=by
 have HCK:=Lib.hid (fun (w1:World) (h:Below w.heap.size w w1)=>ck_any f c false vf vc w1 adr (hE.below h) (hf.below h (Nat.le_refl _)) (hc.below h (Nat.le_refl _)) fo co)
 obtain ⟨p,rfl,hp⟩:=hf
 obtain ⟨a,b,d,rfl,ha,hb,hd⟩:=hc
 have HFL:=Lib.hid hp;have HA:=Lib.hid ha;have HB:=Lib.hid hb;have HD:=Lib.hid hd
 obtain ⟨pa,pc,rfl⟩:=hp.form
 obtain ⟨a1,q1,rfl⟩:=ha.form
 obtain ⟨a2,q2,rfl⟩:=hb.form
 obtain ⟨a3,q3,rfl⟩:=hd.form
 obtain ⟨G,hGG⟩:∃ G,colErr f c false = G:=⟨_,rfl⟩
 rw [hGG] at HCK hG ⊢
 have HG:=Lib.hid hG
 clear hE ha hb hd hp fo co hGG hG
 unfold lfA colA at *
 go_enter Tryz.func10,Tryz.ntmps10
 go_upto_region 1 with fail
 obtain ⟨rL,rC,rZ,hbw,hz⟩:=rows3 (w:=w) (A:=.cells #[.int .i64 f.id,.int .i64 f.kind,.int .i64 f.mr,.int .i64 f.md,.slice pa f.path.length pc] 39) (B:=.cells #[.int .i64 c.id,.slice a1 c.rep.length q1,.slice a2 c.df.length q2,.slice a3 c.vals.length q3] 27) (C:=.cells #[.int .i64 0,.slice none 0 0,.slice none 0 0,.slice none 0 0] 27) (Below.refl _ _)
 have RL:=Lib.hid rL;have RC:=Lib.hid rC;have RZ:=Lib.hid rZ;have HW:=Lib.hid hbw
 clear rL rC rZ hbw hz
 generalize (((w.alloc (.cells #[.int .i64 f.id,.int .i64 f.kind,.int .i64 f.mr,.int .i64 f.md,.slice pa f.path.length pc] 39)).alloc (.cells #[.int .i64 c.id,.slice a1 c.rep.length q1,.slice a2 c.df.length q2,.slice a3 c.vals.length q3] 27)).alloc (.cells #[.int .i64 0,.slice none 0 0,.slice none 0 0,.slice none 0 0] 27)) = w1 at *
 have cL:=rowc RL.out;have cC:=rowc RC.out
 go_wp2_with fail
 refine (HCK.out w1 HW.out).mono ?_;rintro e w2 ⟨⟨u,rfl,hu⟩,hb2⟩
 replace RL:=Lib.hid (row_keep hb2 RL.out);replace RC:=Lib.hid (row_keep hb2 RC.out);replace RZ:=Lib.hid (row_keep hb2 RZ.out);replace HW:=Lib.hid (HW.out.trans (hb2.mono HW.out.size))
 clear hb2 cL cC
 obtain ⟨T,q,rfl⟩:=err_if hu HG.out
 have HU:=Lib.hid hu
 clear hu
 go_wp2_with (refine wpList_store_part rfl 27 _ _ rfl (w.heap.size + 1 + 1) 0 _ 27 #[.int .i64 0,.slice none 0 0,.slice none 0 0,.slice none 0 0] rfl rfl RZ.out (by kernel_rfl) (by simp [Value.oneCell']) (Nat.le_of_ble_eq_true rfl) #[.int .i64 0,.slice none 0 0,.slice none 0 0,.slice none 0 0] rfl ?_;intro w9 r9 ho9 hb9 hz9;have R9:=Lib.hid r9;have HO9:=Lib.hid ho9;have HB9:=Lib.hid hb9;clear r9 ho9 hb9 hz9)
 refine bodyPost_ret (v:=.tuple #[.agg #[.int .i64 0,.slice none 0 0,.slice none 0 0,.slice none 0 0],.iface T q]) (results_row_tmp Tryz.results10 _ _ (w.heap.size + 1 + 1) 27 _ (0,0) _ rfl R9.out Tryz.underlying27 rfl (by kernel_rfl)) rfl ⟨⟨_,rfl,HU.out.off1 (rowc RZ.out 1) (fun T p h=>by cases h) HO9.out⟩,HW.out.trans (HB9.out.mono (by omega))⟩
set_option maxRecDepth 100000 in
theorem part_bound (f:Lf) (c:Col) (x y:Int) (vf vc:Value) (w:World) (adr:Nat → Addr) (hE:ErrsAt w adr [2,3,4]) (hf:IsLf w vf f) (hc:IsCol w vc c) (fo:f.Ok) (co:c.Ok) (hG:colErr f c false = .nil) (hl:c.rep.length ≤ 100000) (hxy:x < 0 ∨ y < x ∨ (countC c.rep:Int) < y) :
  Calls Tryz.prog 10 #[vf,vc,.int .i64 x,.int .i64 y] w (PartBad adr (.sent 2) w):=by
 have HCK:=Lib.hid (fun (w1:World) (h:Below w.heap.size w w1)=>ck_any f c false vf vc w1 adr ((hE.sub (by decide)).below h) (hf.below h (Nat.le_refl _)) (hc.below h (Nat.le_refl _)) fo co)
 have HCT:=Lib.hid (fun (w1:World) (h:Below w.heap.size w w1)=>count_any c vc w1 (hc.below h (Nat.le_refl _)) hl)
 have e2:=hE.cell 2 (by decide)
 have g2:=block_lt_of_cell e2
 unfold gErr at e2 g2
 have HE2:=Lib.hid (fun (w1:World) (h:Below w.heap.size w w1)=>((bcell h).1 _ 0 g2).trans e2)
 obtain ⟨p,rfl,hp⟩:=hf
 obtain ⟨a,b,d,rfl,ha,hb,hd⟩:=hc
 have HFL:=Lib.hid hp;have HA:=Lib.hid ha;have HB:=Lib.hid hb;have HD:=Lib.hid hd
 obtain ⟨pa,pc,rfl⟩:=hp.form
 obtain ⟨a1,q1,rfl⟩:=ha.form
 obtain ⟨a2,q2,rfl⟩:=hb.form
 obtain ⟨a3,q3,rfl⟩:=hd.form
 rw [hG] at HCK
 obtain ⟨n,hn⟩:∃ n,countC c.rep = n:=⟨_,rfl⟩
 rw [hn] at HCT hxy
 have HXY:=Lib.hid hxy
 clear hE ha hb hd hp fo co hG e2 g2 hn hl hxy
 unfold lfA colA at *
 go_enter Tryz.func10,Tryz.ntmps10
 go_upto_region 1 with fail
 obtain ⟨rL,rC,rZ,hbw,hz⟩:=rows3 (w:=w) (A:=.cells #[.int .i64 f.id,.int .i64 f.kind,.int .i64 f.mr,.int .i64 f.md,.slice pa f.path.length pc] 39) (B:=.cells #[.int .i64 c.id,.slice a1 c.rep.length q1,.slice a2 c.df.length q2,.slice a3 c.vals.length q3] 27) (C:=.cells #[.int .i64 0,.slice none 0 0,.slice none 0 0,.slice none 0 0] 27) (Below.refl _ _)
 have RL:=Lib.hid rL;have RC:=Lib.hid rC;have RZ:=Lib.hid rZ;have HW:=Lib.hid hbw
 clear rL rC rZ hbw hz
 generalize (((w.alloc (.cells #[.int .i64 f.id,.int .i64 f.kind,.int .i64 f.mr,.int .i64 f.md,.slice pa f.path.length pc] 39)).alloc (.cells #[.int .i64 c.id,.slice a1 c.rep.length q1,.slice a2 c.df.length q2,.slice a3 c.vals.length q3] 27)).alloc (.cells #[.int .i64 0,.slice none 0 0,.slice none 0 0,.slice none 0 0] 27)) = w1 at *
 have cL:=rowc RL.out;have cC:=rowc RC.out
 go_wp2_with fail
 refine (HCK.out w1 HW.out).mono ?_;rintro e w2 ⟨⟨u,rfl,hu⟩,hb2⟩
 replace RL:=Lib.hid (row_keep hb2 RL.out);replace RC:=Lib.hid (row_keep hb2 RC.out);replace RZ:=Lib.hid (row_keep hb2 RZ.out);replace HW:=Lib.hid (HW.out.trans (hb2.mono HW.out.size))
 clear hb2 cL cC
 obtain rfl:u = .nilIface:=hu
 have key:∀ (wq:World),wq.heap[w.heap.size + 1 + 1]? = some (.cells #[.int .i64 0,.slice none 0 0,.slice none 0 0,.slice none 0 0] 27 (0,0)) → Below w.heap.size w wq → True:=fun _ _ _=>trivial
 by_cases h1:x < 0
 case' pos =>
  have d1:(x:Int) < 0:=h1
  clear HCT HXY h1
  go_upto_region 5 with fail
  obtain ⟨w3,hw3⟩:∃ w3,w3 = w2:=⟨_,rfl⟩
  subst hw3
 case' neg =>
  by_cases h2:y < x
  case' pos =>
   have d1:¬ (x:Int) < 0:=h1
   have d2:(y:Int) < x:=h2
   clear HCT HXY h1 h2
   go_upto_region 5 with fail
   obtain ⟨w3,hw3⟩:∃ w3,w3 = w2:=⟨_,rfl⟩
   subst hw3
  case' neg =>
   have d1:¬ (x:Int) < 0:=h1
   have d2:¬ (y:Int) < x:=h2
   have d3:(n:Int) < y:=by have:=HXY.out;omega
   clear HXY h1 h2
   have cC:=rowc RC.out
   go_upto_region 5 with (refine (HCT.out w2 HW.out).mono ?_;rintro e w3 ⟨rfl,hb3⟩;replace RZ:=Lib.hid (row_keep hb3 RZ.out);replace RC:=Lib.hid (row_keep hb3 RC.out);replace HW:=Lib.hid (HW.out.trans (hb3.mono HW.out.size));clear hb3)
   clear cC
 all_goals
  refine AnyE.region (S:=fun w'=>w'.cell? ⟨0,0,none⟩ = some (.iface 176 (.pointer (some (adr 2))))) (E:=[]) (by kernel_rfl) ?_
  have hbd:=(Below.refl w3.heap.size w3).drew
  replace RZ:=Lib.hid (row_keep hbd RZ.out);replace HW:=Lib.hid (HW.out.trans (hbd.mono HW.out.size))
  clear hbd
  generalize w3.drew = wd at *
  have hS:=(HE2.out wd HW.out:(fun w'=>w'.cell? ⟨0,0,none⟩ = some (.iface 176 (.pointer (some (adr 2))))) wd)
  refine AnyE.take (i:=0) (v:=?_) rfl (by kernel_rfl) (by kernel_rfl) (by kernel_rfl) (by kernel_rfl) (by kernel_rfl) (fun _ _ _ h=>h) (Or.inl ⟨by rfl,?_⟩) hS ?_
  rotate_left
  focus (intro wq hSq;obtain hS1:=hSq;go_simp;with_reducible rfl)
  try simp only [Act.put,List.getElem_toArray,List.getElem_cons_succ,List.getElem_cons_zero,List.setIfInBounds_toArray,List.set_cons_zero,List.set_cons_succ]
  refine AnyE.take (i:=1) (v:=?_) rfl (by kernel_rfl) (by kernel_rfl) (by kernel_rfl) (by kernel_rfl) (by kernel_rfl) (fun _ _ _ h=>h) (Or.inl ⟨by rfl,?_⟩) hS ?_
  rotate_left
  focus (intro wq hSq;obtain hS1:=hSq;go_simp;with_reducible rfl)
  try simp only [Act.put,List.getElem_toArray,List.getElem_cons_succ,List.getElem_cons_zero,List.setIfInBounds_toArray,List.set_cons_zero,List.set_cons_succ]
  refine AnyE.one (i:=2) (by kernel_rfl) rfl rfl ?_
  intro K hK
  simp only [List.getElem_toArray,List.getElem_cons_succ,List.getElem_cons_zero]
  refine wp_store_part rfl 27 _ _ rfl (w.heap.size + 1 + 1) 0 #[.int .i64 0,.slice none 0 0,.slice none 0 0,.slice none 0 0] 27 #[.int .i64 0,.slice none 0 0,.slice none 0 0,.slice none 0 0] rfl rfl RZ.out (by kernel_rfl) (by simp [Value.oneCell']) (Nat.le_of_ble_eq_true rfl) #[.int .i64 0,.slice none 0 0,.slice none 0 0,.slice none 0 0] rfl ?_;intro w9 r9 ho9 hb9 hz9
  have hS9:=HE2.out w9 (HW.out.trans (hb9.mono (by omega)))
  refine hK _ _ (fun _=>hS9) ?_
  clear hK K hS
  try simp only [Act.put,List.getElem_toArray,List.getElem_cons_succ,List.getElem_cons_zero,List.setIfInBounds_toArray,List.set_cons_zero,List.set_cons_succ]
  have hS:=hS9
  refine AnyE.take (i:=3) (v:=?_) rfl (by kernel_rfl) (by kernel_rfl) (by kernel_rfl) (by kernel_rfl) (by kernel_rfl) (fun _ _ _ h=>h) (Or.inl ⟨by rfl,?_⟩) hS ?_
  rotate_left
  focus (intro wq hSq;obtain hS1:=hSq;go_simp;with_reducible rfl)
  try simp only [Act.put,List.getElem_toArray,List.getElem_cons_succ,List.getElem_cons_zero,List.setIfInBounds_toArray,List.set_cons_zero,List.set_cons_succ]
  refine AnyE.done (by kernel_rfl) ?_ _
  have R9:=Lib.hid r9;have HB9:=Lib.hid hb9
  clear r9 ho9 hb9 hz9
  go_wp2_with fail
  refine bodyPost_ret (v:=.tuple #[.agg #[.int .i64 0,.slice none 0 0,.slice none 0 0,.slice none 0 0],.iface 176 (.pointer (some (adr 2)))]) (results_row_tmp Tryz.results10 _ _ (w.heap.size + 1 + 1) 27 _ (0,0) _ rfl R9.out Tryz.underlying27 rfl (by kernel_rfl)) rfl ⟨⟨_,rfl,by omega,by omega,rfl⟩,HW.out.trans (HB9.out.mono (by omega))⟩
end Go.Proofs.YtdcgihplkangeaaGreatDoor
