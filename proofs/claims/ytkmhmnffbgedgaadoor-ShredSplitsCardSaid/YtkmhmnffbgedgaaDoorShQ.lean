/- Plain: the columns of right records are right ones; joined, cut, counted; their values are those of Walk. -/
import Derived.Test.YtkmhmnffbgedgaaDoorShC
import Derived.Test.YtkmhmnffbgedgaaDoorWk0
import Derived.Test.YtkmhmnffbgedgaaDoorMPp
import Derived.Test.YtkmhmnffbgedgaaDoorMCe
import Derived.Test.YtkmhmnffbgedgaaDoorWk6
namespace Go.Proofs.YtkmhmnffbgedgaaDoor
set_option linter.unusedVariables false
set_option linter.unusedSimpArgs false
open Go Go.RowKit Go.ChangeShapes
theorem way_all {n:Nd} (hv:validE n = 0) {k:Nat} {f:Lvf} (hf:(leavesN n)[k]? = some f):∃ q,f = lvfOf 0 0 [] q ∧ q ∈ chsL n.sub ∧ ∀ l:List Dt,(∀ d ∈ l,datE n false d = 0) → Way n l k f q:=by
 have h0:=hf
 rw [leaves_chs,List.getElem?_map] at h0
 obtain ⟨q,hq,hqf⟩:=Option.map_eq_some_iff.1 h0
 have hqm:=List.mem_of_getElem? hq
 refine ⟨q,hqf.symm,hqm,fun l hd=>?_⟩
 obtain ⟨f',h1,h2,h3,_⟩:=doc_col hv (valid_nodup hv) hd hq
 rw [hf] at h1
 injection h1 with h1
 subst h1
 have hs:=chs_short.2 n.sub q hqm
 have hsz:=(good_small hv).1
 rw [size_eq] at hsz
 refine ⟨h2,?_,by omega,fun j y hy=>findD_way (valid_flat hv) (ids_nodup _ _ (valid_facts hv).2.2.2).1 (valid_id0 hv).2 (chs_in.2 n.sub q hqm y (List.mem_of_getElem? hy)),h3,?_⟩
 ·rw [chs_eq,if_pos (valid_root hv).1]
  exact List.mem_map.2 ⟨q,hqm,rfl⟩
 ·unfold lvId;rw [hf];rfl
def DL (n:Nd) (way:List Nd) (l:List Dt):List EntD:=l.flatMap fun d=>docE (n :: way) d 0 0 0 false
theorem DL_app (n:Nd) (way:List Nd) (a b:List Dt):DL n way (a ++ b) = DL n way a ++ DL n way b:=List.flatMap_append
theorem shAll_doc {n:Nd} {l:List Dt} {k:Nat} {f:Lvf} {way:List Nd} (hw:Way n l k f way):(shAll n l k).map (entD (lvMd n k)) = DL n way l:=by
 have key:∀ l':List Dt,(∀ d ∈ l',d ∈ l) → (shAll n l' k).map (entD (lvMd n k)) = DL n way l':=by
  intro l'
  induction l' with
  | nil=>intro _;rfl
  | cons x r ih =>
   intro h
   have h1:=ih fun y hy=>h y (List.mem_cons_of_mem _ hy)
   unfold shAll DL at h1 ⊢
   rw [List.flatMap_cons,List.flatMap_cons,List.map_append,h1,hw.doc x (h x (List.mem_cons_self ..))]
 exact key l fun _ h=>h
theorem shCol_doc {n:Nd} {l:List Dt} {k:Nat} {f:Lvf} {way:List Nd} (hw:Way n l k f way):shCol n l k = addD ⟨f.id,[],[],[]⟩ (DL n way l):=by
 unfold shCol
 rw [← addD_map,shAll_doc hw,hw.id]
def lfOf (f:Lvf):Lf:=⟨f.id,f.kind,f.mr,f.md,f.path⟩
structure DlOk (n:Nd) (f:Lvf) (l:List Dt) (L:List EntD):Prop where
 ents:EntsIn f.kind 0 0 f.mr f.md L
 rep:∀ x ∈ L,0 ≤ x.r ∧ x.r ≤ f.mr
 many:countC (L.map EntD.r) = l.length
 head:(L.map EntD.r).head?.getD 0 = 0
 vals:L.filterMap EntD.v = l.flatMap (walkV n f.id false)
theorem countC_zero:∀ l:List EntD,(∀ x ∈ l,0 + 1 ≤ x.r) → countC (l.map EntD.r) = 0
 | [],_=>rfl
 | a :: r,h=>by
  have h0:=h a (List.mem_cons_self ..)
  have ih:=countC_zero r fun x hx=>h x (List.mem_cons_of_mem _ hx)
  unfold countC at ih ⊢
  rw [List.map_cons,List.filter_cons_of_neg (by simp;omega),ih]
theorem dl_ok {n:Nd} {way:List Nd} {f:Lvf} (hv:validE n = 0) (hq:way ∈ chsL n.sub) (hf:f = lvfOf 0 0 [] way):∀ l:List Dt,(∀ d ∈ l,datE n false d = 0) → DlOk n f l (DL n way l):=by
 have hr1:=(valid_root hv).2.2
 have hne:way ≠ []:=by obtain ⟨m,p',rfl,_,_⟩:=chsL_memP _ _ hq;simp
 have hch:(n :: way) ∈ chs n:=by rw [chs_eq,if_pos (valid_root hv).1];exact List.mem_map.2 ⟨way,hq,rfl⟩
 have hM:(0:Int) + reps (n :: way) - own3 n false = f.mr:=by rw [reps_cons,if_neg (by omega),hf];simp [own3,lvfOf]
 have hm:(0:Int) + opts (n :: way) - own1 n false = f.md:=by rw [opts_cons,if_neg (by omega),hf];simp [own1,lvfOf]
 have hl:lastN (n :: way) = lastN way:=lastN_cons n way hne
 have hk:(lastN way).kind = f.kind:=by rw [hf];rfl
 have hi:(lastN way).id = f.id:=by rw [hf];rfl
 have hmr:0 ≤ f.mr:=by rw [hf];show (0:Int) ≤ 0 + reps way;unfold reps;omega
 intro l
 induction l with
 | nil=>intro _;exact ⟨EntsIn.nil ..,fun x hx=>(by cases hx),rfl,rfl,rfl⟩
 | cons x r ih =>
  intro h
  have h0:=ih fun y hy=>h y (List.mem_cons_of_mem _ hy)
  obtain ⟨a1,a2,a3⟩:=doc_ok x n way 0 0 0 false (valid_shapes hv) (valid_nodup hv) (h x (List.mem_cons_self ..)) hch (by omega)
  rw [hM,hm,hl,hk] at a1
  rw [hM] at a2
  rw [hl,hi] at a3
  obtain ⟨e,t,e1,e2,e3⟩:=a2
  have hD:DL n way (x :: r) = docE (n :: way) x 0 0 0 false ++ DL n way r:=by unfold DL;rw [List.flatMap_cons]
  rw [hD]
  refine ⟨a1.app h0.ents,fun y hy=>?_,?_,?_,?_⟩
  ·rcases List.mem_append.1 hy with hy | hy
   ·rw [e1] at hy
    rcases List.mem_cons.1 hy with rfl | hy
    ·omega
    ·have:=e3 y hy;omega
   ·exact h0.rep y hy
  ·rw [List.map_append,countC_app,h0.many,e1,List.map_cons]
   have:=countC_zero t fun y hy=>(e3 y hy).1
   unfold countC at this ⊢
   rw [List.filter_cons_of_pos (by simp [e2]),List.length_cons,this,List.length_cons]
   omega
  ·rw [e1];simp [e2]
  ·rw [List.filterMap_append,a3,h0.vals,List.flatMap_cons]
theorem levels_map (f:Lf):∀ L:List EntD,(∀ x ∈ L,lvl f x.r x.d) → levelsB f (L.map EntD.r) (L.map EntD.d) = true
 | [],_=>rfl
 | a :: r,h=>by
  simp only [List.map_cons,levelsB,Bool.and_eq_true,decide_eq_true_eq]
  exact ⟨h a (List.mem_cons_self ..),levels_map f r fun x hx=>h x (List.mem_cons_of_mem _ hx)⟩
theorem many_map (m:Int):∀ L:List EntD,(∀ x ∈ L,(x.d = m ↔ x.v ≠ none)) → many m (L.map EntD.d) = (L.filterMap EntD.v).length
 | [],_=>rfl
 | a :: r,h=>by
  have h0:=h a (List.mem_cons_self ..)
  have ih:=many_map m r fun x hx=>h x (List.mem_cons_of_mem _ hx)
  unfold many at ih ⊢
  rw [List.map_cons,List.filterMap_cons]
  cases hv:a.v with
  | none =>
   have hd:a.d ≠ m:=fun e=>(h0.1 e) hv
   rw [List.filter_cons_of_neg (by simpa using hd),ih]
  | some v =>
   have hd:a.d = m:=h0.2 (by rw [hv];simp)
   rw [List.filter_cons_of_pos (by simpa using hd)]
   simp only [List.length_cons,ih]
structure ColFacts (n:Nd) (f:Lvf) (l:List Dt) (c:Col):Prop where
 right:Right (lfOf f) c
 nil:colErr (lfOf f) c false = .nil
 many:countC c.rep = l.length
 ok:c.Ok
 vals:c.vals = l.flatMap (walkV n f.id false)
theorem walkV_mem (id:Int):∀ (d:Dt) (n:Nd) (one:Bool),∀ v ∈ walkV n id one d,∃ y ∈ dts d,v = y.v:=by
 apply Dt.ind
 intro d hl hf n one v hv
 rw [walkV_eq] at hv
 have h1:∀ l:List Dt,(∀ x ∈ l,x ∈ d.l) → v ∈ walkVL n id l → ∃ y ∈ dts d,v = y.v:=by
  intro l
  induction l with
  | nil=>intro _ h;simp [walkVL] at h
  | cons x r ih =>
   intro hx h
   simp only [walkVL] at h
   rcases List.mem_append.1 h with h | h
   ·obtain ⟨y,hy,e⟩:=hl x (hx x (List.mem_cons_self ..)) n true v h
    exact ⟨y,by rw [dts_eq];exact List.mem_cons_of_mem _ (List.mem_append_left _ (dtsL_mem (hx x (List.mem_cons_self ..)) hy)),e⟩
   ·exact ih (fun y hy=>hx y (List.mem_cons_of_mem _ hy)) h
 have h2:∀ (s:List Nd) (l:List Dt),(∀ x ∈ l,x ∈ d.f) → v ∈ walkVF s id l → ∃ y ∈ dts d,v = y.v:=by
  intro s
  induction s with
  | nil=>intro l _ h;cases l <;> simp [walkVF] at h
  | cons m t ih =>
   intro l hx h
   cases l with
   | nil=>simp [walkVF] at h
   | cons x r =>
    simp only [walkVF] at h
    rcases List.mem_append.1 h with h | h
    ·obtain ⟨y,hy,e⟩:=hf x (hx x (List.mem_cons_self ..)) m false v h
     exact ⟨y,by rw [dts_eq];exact List.mem_cons_of_mem _ (List.mem_append_right _ (dtsL_mem (hx x (List.mem_cons_self ..)) hy)),e⟩
    ·exact ih r (fun y hy=>hx y (List.mem_cons_of_mem _ hy)) h
 split at hv
 ·cases hv
 split at hv
 ·exact h1 _ (fun _ h=>h) hv
 split at hv
 ·exact h2 _ _ (fun _ h=>h) hv
 split at hv
 ·rw [List.mem_singleton] at hv
  exact ⟨d,by rw [dts_eq];exact List.mem_cons_self ..,hv⟩
 ·cases hv
theorem lf_ok {n:Nd} {f:Lvf} {way:List Nd} {l:List Dt} {k:Nat} (hv:validE n = 0) (hO:∀ x ∈ nodes n,x.Ok1) (hq:way ∈ chsL n.sub) (hf:f = lvfOf 0 0 [] way) (hw:Way n l k f way):(lfOf f).Ok ∧ 1 ≤ f.kind ∧ f.kind ≤ 5 ∧ 0 ≤ f.mr ∧ f.mr ≤ 40 ∧ 0 ≤ f.md ∧ f.md ≤ 40:=by
 obtain ⟨h1,h2⟩:=last_in.2 n.sub way hq
 have hm:lastN way ∈ nodes n:=by rw [nodes_eq];exact List.mem_cons_of_mem _ h1
 have hs:=valid_shapes hv _ hm
 have ho:=hO _ hm
 have hk:f.kind = (lastN way).kind:=by rw [hf];rfl
 have hi:f.id = (lastN way).id:=by rw [hf];rfl
 have hmr:f.mr = reps way:=by rw [hf];show (0:Int) + reps way = _;omega
 have hmd:f.md = opts way:=by rw [hf];show (0:Int) + opts way = _;omega
 have r1:0 ≤ reps way ∧ reps way ≤ 40:=by
  unfold reps
  have:=List.length_filter_le (fun n:Nd=>decide (n.rep = 3)) way
  have:=hw.short
  omega
 have r2:0 ≤ opts way ∧ opts way ≤ 40:=by
  unfold opts
  have:=List.length_filter_le (fun n:Nd=>decide (n.rep ≠ 1)) way
  have:=hw.short
  omega
 unfold okShape at hs
 simp only [Bool.and_eq_true,decide_eq_true_eq] at hs
 have hk2:1 ≤ f.kind ∧ f.kind ≤ 5:=by omega
 refine ⟨⟨?_,?_,?_,?_,?_,?_,?_,?_,?_⟩,by omega,by omega,by omega,by omega,by omega,by omega⟩
 ·show _ ≤ f.id;rw [hi];exact ho.id0
 ·show f.id < _;rw [hi];exact ho.id1
 ·show _ ≤ f.kind;omega
 ·show f.kind < _;omega
 ·show _ ≤ f.mr;omega
 ·show f.mr < _;omega
 ·show _ ≤ f.md;omega
 ·show f.md < _;omega
 ·show Fits f.path
  rw [hw.path]
  have:=hw.short
  refine ⟨by unfold idsOf maxLen;rw [List.length_map];omega,fun x hx=>?_⟩
  unfold idsOf at hx
  obtain ⟨y,hy,rfl⟩:=List.mem_map.1 hx
  have:=hO y (by rw [nodes_eq];exact List.mem_cons_of_mem _ (chs_in.2 n.sub way hq y hy))
  exact ⟨this.id0,this.id1⟩
theorem col_facts {n:Nd} {f:Lvf} {way:List Nd} {l:List Dt} {k:Nat} (hv:validE n = 0) (hO:∀ x ∈ nodes n,x.Ok1) (hq:way ∈ chsL n.sub) (hf:f = lvfOf 0 0 [] way) (hw:Way n l k f way) (hd:∀ d ∈ l,datE n false d = 0) (hD:∀ y ∈ dtsL l,y.Ok1) (hwt:wgtL l ≤ 1000000) :
  ColFacts n f l (shCol n l k):=by
 have hlen:=shCol_len n l k
 obtain ⟨ho,k1,k5,r0,r40,d0,d40⟩:=lf_ok hv hO hq hf hw
 have hdl:=dl_ok hv hq hf l hd
 rw [shCol_doc hw] at hlen ⊢
 generalize DL n way l = L at *
 have e1:(addD ⟨f.id,[],[],[]⟩ L).rep = L.map EntD.r:=by unfold addD;rfl
 have e2:(addD ⟨f.id,[],[],[]⟩ L).df = L.map EntD.d:=by unfold addD;rfl
 have e3:(addD ⟨f.id,[],[],[]⟩ L).vals = L.filterMap EntD.v:=by unfold addD;rfl
 have e4:(addD ⟨f.id,[],[],[]⟩ L).id = f.id:=rfl
 have hR:Right (lfOf f) (addD ⟨f.id,[],[],[]⟩ L):=by
  refine ⟨k1,k5,r0,r40,d0,d40,rfl,by rw [e1,e2];simp,?_,?_,?_⟩
  ·rw [e1,e2]
   exact levels_map (lfOf f) L fun x hx=>⟨(hdl.rep x hx).1,(hdl.rep x hx).2,(hdl.ents.lev x hx).1,(hdl.ents.lev x hx).2⟩
  ·rw [e2,e3];exact many_map f.md L hdl.ents.val
  ·rw [e3]
   intro x hx
   obtain ⟨y,hy,hyx⟩:=List.mem_filterMap.1 hx
   exact (okB_iff _ _).1 (hdl.ents.ok y hy x hyx)
 refine ⟨hR,hR.nil (by rw [e1,hdl.head];rfl),by rw [e1];exact hdl.many,⟨?_,?_,⟨?_,?_⟩,⟨?_,?_⟩,⟨?_,?_⟩⟩,by rw [e3];exact hdl.vals⟩
 ·exact ho.id0
 ·exact ho.id1
 ·unfold maxLen;omega
 ·rw [e1];intro x hx
  obtain ⟨y,hy,rfl⟩:=List.mem_map.1 hx
  have:=hdl.rep y hy;omega
 ·unfold maxLen;omega
 ·rw [e2];intro x hx
  obtain ⟨y,hy,rfl⟩:=List.mem_map.1 hx
  have:=hdl.ents.lev y hy;omega
 ·unfold maxLen;omega
 ·rw [e3,hdl.vals]
  intro x hx
  obtain ⟨d,hdm,hxd⟩:=List.mem_flatMap.1 hx
  obtain ⟨y,hy,rfl⟩:=walkV_mem f.id d n false x hxd
  exact (hD y (dtsL_mem hdm hy)).v
theorem col_join {n:Nd} {f:Lvf} {way:List Nd} {a b:List Dt} {k:Nat} (ha:Way n a k f way) (hb:Way n b k f way) (hab:Way n (a ++ b) k f way):joinC f.id [shCol n a k,shCol n b k] = shCol n (a ++ b) k:=by
 rw [shCol_doc ha,shCol_doc hb,shCol_doc hab,DL_app]
 simp [joinC,addD,List.filterMap_append]
theorem walk_facts {n:Nd} {f:Lvf} {way:List Nd} (hv:validE n = 0) (hq:way ∈ chsL n.sub) (hf:f = lvfOf 0 0 [] way) {d:Dt} (hd:datE n false d = 0):walkE n d f.id = 0 ∧ walkR n d f.id = walkV n f.id false d:=by
 have hr:recE n d = 0:=by unfold recE;rw [if_pos hv];exact hd
 obtain ⟨h1,h2⟩:=last_in.2 n.sub way hq
 have hi:f.id = (lastN way).id:=by rw [hf];rfl
 have hfd:findN (nodes n) f.id = some (lastN way):=by
  unfold findN
  rw [hi]
  exact nodup_find _ (valid_nodup hv) (by rw [nodes_eq];exact List.mem_cons_of_mem _ h1)
 have hE:walkE n d f.id = 0:=by
  unfold walkE
  rw [if_neg (by rw [hr];simp),hfd]
  simp only [if_neg h2]
 exact ⟨hE,by unfold walkR;rw [if_pos hE]⟩
theorem marks_zero {l:List Int} (h:l.head?.getD 0 = 0):(marksOf l)[0]? = some 0:=by
 cases l with
 | nil=>rfl
 | cons x r =>
  have hx:x = 0:=by simpa using h
  subst hx
  rfl
theorem marks_end (l:List Int):(marksOf l)[countC l]? = some l.length:=by
 unfold marksOf
 rw [← begs_len,List.getElem?_append_right (Nat.le_refl _),Nat.sub_self];rfl
theorem marks_some (l:List Int) {m:Nat} (h:m ≤ countC l):∃ x,(marksOf l)[m]? = some x :=
 ⟨_,List.getElem?_eq_getElem (by rw [marksOf_len];omega)⟩
theorem cut_nil {f:Lf} {c:Col} (h:Right f c) {m n a b:Nat} (ha:(marksOf c.rep)[m]? = some a) (hb:(marksOf c.rep)[n]? = some b) (hmn:m ≤ n):colErr f (cutC f c a b) false = .nil:=by
 rcases Nat.lt_or_eq_of_le hmn with hlt | rfl
 ·exact (cutC_nil h ha hb hlt).1
 ·rw [ha] at hb
  injection hb with hb
  subst hb
  refine (cutC_right h (Nat.le_refl _)).nil ?_
  have:(cutC f c a a).rep = []:=by simp only [cutC];rw [List.drop_eq_nil_of_le (by simp;omega)]
  rw [this];rfl
theorem cut_join {f:Lf} {c:Col} (h:Right f c) {x:Nat} (hx:x ≤ c.rep.length):joinC f.id [cutC f c 0 x,cutC f c x c.rep.length] = c:=by
 have h1:=h.len
 have h2:=h.many
 have h3:=h.id
 have h4:many f.md (c.df.take 0) = 0:=rfl
 have h5:many f.md (c.df.take x) ≤ c.vals.length:=by rw [← h2];exact many_take_le' f.md c.df x
 have e1:c.rep.take c.rep.length = c.rep:=List.take_length
 have e2:c.df.take c.rep.length = c.df:=by rw [h1];exact List.take_length
 have e3:c.vals.take (many f.md c.df) = c.vals:=by rw [h2];exact List.take_length
 unfold joinC cutC
 simp only [List.flatMap_cons,List.flatMap_nil,List.append_nil,List.drop_zero,e1,e2,e3,h4,List.take_append_drop,h3]
theorem cut_ok {f:Lf} {c:Col} (h:c.Ok) (a b:Nat):(cutC f c a b).Ok:=by
 have t:∀ {α:Type} (l:List α) (i j:Nat),((l.take i).drop j).length ≤ l.length:=fun l i j=>by simp only [List.length_drop,List.length_take];omega
 refine ⟨h.id0,h.id1,⟨Nat.le_trans (t _ _ _) h.rep.1,fun x hx=>h.rep.2 x (List.mem_of_mem_take (List.mem_of_mem_drop hx))⟩,⟨Nat.le_trans (t _ _ _) h.df.1,fun x hx=>h.df.2 x (List.mem_of_mem_take (List.mem_of_mem_drop hx))⟩,⟨Nat.le_trans (t _ _ _) h.vals.1,fun x hx=>h.vals.2 x (List.mem_of_mem_take (List.mem_of_mem_drop hx))⟩⟩
theorem cut_len (f:Lf) (c:Col) (a b:Nat):(cutC f c a b).rep.length ≤ c.rep.length:=by unfold cutC;simp only [List.length_drop,List.length_take];omega
end Go.Proofs.YtkmhmnffbgedgaaDoor
