/- Plain: the values of a leaf in a record, how many they may be. -/
import Derived.Test.YtkmhmnffbgedgaaDoorTr2
namespace Go.Proofs.YtkmhmnffbgedgaaDoor
set_option linter.unusedVariables false
set_option linter.unusedSimpArgs false
open Go Go.RowKit
mutual
def walkV:Nd → Int → Bool → Dt → List Val
 | n,id,one,.mk no v l f =>
  if no = true then []
  else if (!one && decide (n.rep = 3)) = true then walkVL n id l
  else if n.kind = 0 then walkVF n.sub id f
  else if n.id = id then [v] else []
def walkVL:Nd → Int → List Dt → List Val
 | _,_,[]=>[]
 | n,id,x :: r=>walkV n id true x ++ walkVL n id r
def walkVF:List Nd → Int → List Dt → List Val
 | [],_,_=>[]
 | _ :: _,_,[]=>[]
 | s :: t,id,x :: r=>walkV s id false x ++ walkVF t id r
end
theorem walkV_eq (n:Nd) (id:Int) (one:Bool) (d:Dt):walkV n id one d =
  if d.no = true then []
  else if (!one && decide (n.rep = 3)) = true then walkVL n id d.l
  else if n.kind = 0 then walkVF n.sub id d.f
  else if n.id = id then [d.v] else []:=by
 cases d;simp only [walkV];rfl
theorem walkVL_app (n:Nd) (id:Int) (a b:List Dt):walkVL n id (a ++ b) = walkVL n id a ++ walkVL n id b:=by
 induction a with
 | nil=>simp [walkVL]
 | cons x r ih=>simp only [List.cons_append,walkVL,ih,List.append_assoc]
theorem walkVL_take (n:Nd) (id:Int) {l:List Dt} {k:Nat} {x:Dt} (h:l[k]? = some x):walkVL n id (l.take (k + 1)) = walkVL n id (l.take k) ++ walkV n id true x:=by
 rw [List.take_add_one,h,walkVL_app]
 simp [walkVL]
theorem walkVF_take (id:Int):∀ (s:List Nd) (l:List Dt) (k:Nat) (m:Nd) (x:Dt),s[k]? = some m → l[k]? = some x → walkVF (s.take (k + 1)) id (l.take (k + 1)) = walkVF (s.take k) id (l.take k) ++ walkV m id false x
 | [],_,k,m,x,h,_=>by simp at h
 | a :: t,[],k,m,x,_,h=>by simp at h
 | a :: t,b :: r,0,m,x,h0,h1=>by
  obtain rfl:a = m:=by simpa using h0
  obtain rfl:b = x:=by simpa using h1
  simp [walkVF]
 | a :: t,b :: r,k + 1,m,x,h0,h1=>by
  have:=walkVF_take id t r k m x (by simpa using h0) (by simpa using h1)
  simp only [List.take_succ_cons,walkVF,this,List.append_assoc]
theorem walkVF_pre (id:Int):∀ (s:List Nd) (l:List Dt) (k:Nat),(walkVF (s.take k) id (l.take k)).length ≤ (walkVF s id l).length
 | _,_,0=>by simp [walkVF]
 | [],_,k + 1=>by simp [walkVF]
 | a :: t,[],k + 1=>by simp [walkVF]
 | a :: t,b :: r,k + 1=>by
  have:=walkVF_pre id t r k
  simp only [List.take_succ_cons,walkVF,List.length_append];omega
theorem hgt_pos (n:Nd):1 ≤ hgt n:=by rw [hgt_eq];omega
theorem size_pos (n:Nd):1 ≤ size n:=by rw [size_eq];omega
theorem pow40_pos (k:Nat):1 ≤ 40 ^ k:=Nat.le_trans (Nat.one_le_two_pow (n:=k)) (Nat.pow_le_pow_left (by decide) k)
theorem walkVL_len (n:Nd) (id:Int) (B:Nat):∀ (l:List Dt),(∀ x ∈ l,(walkV n id true x).length ≤ B) → (walkVL n id l).length ≤ l.length * B
 | [],_=>by simp [walkVL]
 | x :: r,h=>by
  simp only [walkVL,List.length_append,List.length_cons]
  have h1:=h x (List.mem_cons_self ..)
  have h2:=walkVL_len n id B r fun y hy=>h y (List.mem_cons_of_mem _ hy)
  rw [Nat.succ_mul];omega
theorem walkVF_len (id:Int) (H:Nat):∀ (s:List Nd) (l:List Dt),(∀ (k:Nat) m x,s[k]? = some m → l[k]? = some x → (walkV m id false x).length ≤ size m * 40 ^ H) → (walkVF s id l).length ≤ sizeL s * 40 ^ H
 | [],_,_=>by simp [walkVF]
 | a :: t,[],_=>by simp [walkVF]
 | a :: t,b :: r,h=>by
  simp only [walkVF,List.length_append,sizeL,Nat.add_mul]
  have h1:=h 0 a b rfl rfl
  have h2:=walkVF_len id H t r fun k m x hm hx=>h (k + 1) m x (by simpa using hm) (by simpa using hx)
  omega
theorem hgt_le_L:∀ {l:List Nd} {k:Nat} {m:Nd},l[k]? = some m → hgt m ≤ hgtL l
 | [],k,m,h=>by simp at h
 | a :: r,0,m,h=>by
  obtain rfl:a = m:=by simpa using h
  simp only [hgtL];omega
 | a :: r,k + 1,m,h=>by
  have:=hgt_le_L (l:=r) (k:=k) (by simpa using h)
  simp only [hgtL];omega
theorem walkV_len (id:Int):∀ (d:Dt) (n:Nd) (one:Bool),datE n one d = 0 → (walkV n id one d).length ≤ (if one = true then 1 else 40) * (size n * 40 ^ (hgt n - 1)):=by
 apply Dt.ind
 intro d IHl IHf n one h
 rw [datE_eq] at h
 rw [walkV_eq]
 have hp:1 ≤ size n * 40 ^ (hgt n - 1):=Nat.mul_pos (size_pos n) (pow40_pos _)
 have hone:1 * (size n * 40 ^ (hgt n - 1)) ≤ (if one = true then 1 else 40) * (size n * 40 ^ (hgt n - 1)):=Nat.mul_le_mul_right _ (by split <;> omega)
 rw [Nat.one_mul] at hone
 by_cases hno:d.no = true
 ·rw [if_pos hno];simp
 rw [if_neg hno]
 by_cases hr:(!one && decide (n.rep = 3)) = true
 ·rw [if_pos hr]
  have hof:one = false:=by cases one <;> simp_all
  subst hof
  have hr3:n.rep = 3:=by simpa using hr
  rw [if_neg (by simp [hno]),if_neg hno,if_pos hr] at h
  split at h
  ·omega
  ·split at h
   ·omega
   ·rename_i h40
    have hz:=datEL_zero n d.l h
    have:=walkVL_len n id (size n * 40 ^ (hgt n - 1)) d.l fun x hx=>by
     have:=IHl x hx n true (hz x hx)
     simpa using this
    refine Nat.le_trans this (Nat.mul_le_mul_right _ ?_)
    simp;omega
 ·rw [if_neg hr]
  refine Nat.le_trans ?_ hone
  rw [if_neg (by simp [hno]),if_neg hno,if_neg hr] at h
  split at h
  ·omega
  by_cases hk:n.kind = 0
  ·rw [if_pos hk]
   rw [if_neg (by simpa using hk)] at h
   split at h
   ·omega
   have hz:=datEF_zero _ _ h
   have hh:hgt n - 1 = hgtL n.sub:=by rw [hgt_eq];omega
   have h1:=walkVF_len id (hgtL n.sub) n.sub d.f fun k m x hm hx=>by
    have h2:=IHf x (List.mem_of_getElem? hx) m false (hz k m x hm hx)
    have h3:hgt m ≤ hgtL n.sub:=hgt_le_L hm
    have h4:=hgt_pos m
    have h5:40 * (size m * 40 ^ (hgt m - 1)) = size m * 40 ^ (hgt m):=by
     obtain ⟨q,hq⟩:∃ q,hgt m = q + 1:=⟨hgt m - 1,by omega⟩
     rw [hq,Nat.add_sub_cancel,Nat.pow_succ,Nat.mul_comm 40,Nat.mul_assoc]
    simp only [Bool.false_eq_true,if_false] at h2
    rw [h5] at h2
    exact Nat.le_trans h2 (Nat.mul_le_mul_left _ (Nat.pow_le_pow_right (by decide) h3))
   rw [hh]
   refine Nat.le_trans h1 (Nat.mul_le_mul_right _ ?_)
   rw [size_eq];omega
  ·rw [if_neg hk]
   split
   ·simpa using hp
   ·simp
theorem walkV_cap {n:Nd} {id:Int} {d:Dt} (h:datE n false d = 0) (hs:size n ≤ 40) (hh:hgt n ≤ 6):(walkV n id false d).length ≤ 163840000000:=by
 have h1:=walkV_len id d n false h
 simp only [Bool.false_eq_true,if_false] at h1
 have h2:40 ^ (hgt n - 1) ≤ 40 ^ 5:=Nat.pow_le_pow_right (by decide) (by omega)
 have h3:size n * 40 ^ (hgt n - 1) ≤ 40 * 40 ^ 5:=Nat.mul_le_mul hs h2
 have h4:40 * (40 * 40 ^ 5) = 163840000000:=by decide
 omega
end Go.Proofs.YtkmhmnffbgedgaaDoor
/- Plain: what the document's entries of a right datum are like: levels, values; which of them begins. -/
namespace Go.Proofs.YtkmhmnffbgedgaaDoor
set_option linter.unusedVariables false
set_option linter.unusedSimpArgs false
open Go Go.RowKit
theorem chsL_memP:∀ (l:List Nd) (q:List Nd),q ∈ chsL l → ∃ m p',q = m :: p' ∧ m ∈ l ∧ (m :: p') ∈ chs m
 | [],q,h=>by simp [chsL] at h
 | a :: r,q,h=>by
  simp only [chsL,List.mem_append] at h
  rcases h with h | h
  ·obtain ⟨p',rfl⟩:=chs_head.1 a q h
   exact ⟨a,p',rfl,List.mem_cons_self ..,h⟩
  ·obtain ⟨m,p',e,hm,hc⟩:=chsL_memP r q h
   exact ⟨m,p',e,List.mem_cons_of_mem _ hm,hc⟩
theorem nodup_subLP {m:Nd}:∀ {l:List Nd},((nodesL l).map Nd.id).Nodup → m ∈ l → ((nodes m).map Nd.id).Nodup
 | [],_,h=>by cases h
 | a :: r,hn,h=>by
  simp only [nodesL,List.map_append] at hn
  rw [List.nodup_append] at hn
  rcases List.mem_cons.1 h with rfl | h
  ·exact hn.1
  ·exact nodup_subLP hn.2.1 h
theorem last_in:(∀ n,∀ c ∈ chs n,lastN c ∈ nodes n ∧ (lastN c).kind ≠ 0) ∧ ∀ l,∀ c ∈ chsL l,lastN c ∈ nodesL l ∧ (lastN c).kind ≠ 0:=by
 refine tree2 (fun n h c hc=>?_) (fun c hc=>by simp [chsL] at hc) (fun x r h1 h2 c hc=>?_)
 ·rw [chs_eq] at hc
  rw [nodes_eq]
  split at hc
  ·obtain ⟨q,hq,rfl⟩:=List.mem_map.1 hc
   obtain ⟨m,p',rfl,_,_⟩:=chsL_memP _ _ hq
   rw [lastN_cons _ _ (by simp)]
   have:=h _ hq
   exact ⟨List.mem_cons_of_mem _ this.1,this.2⟩
  ·rename_i hk
   rw [List.mem_singleton] at hc
   subst hc
   exact ⟨List.mem_cons_self ..,hk⟩
 ·simp only [chsL,nodesL] at hc ⊢
  rcases List.mem_append.1 hc with hc | hc
  ·exact ⟨List.mem_append_left _ (h1 c hc).1,(h1 c hc).2⟩
  ·exact ⟨List.mem_append_right _ (h2 c hc).1,(h2 c hc).2⟩
theorem walkV_none (id:Int):∀ (d:Dt) (n:Nd) (one:Bool),(∀ y ∈ nodes n,y.id ≠ id) → walkV n id one d = []:=by
 apply Dt.ind
 intro d hl hf n one h
 rw [walkV_eq]
 have h1:∀ l:List Dt,(∀ x ∈ l,x ∈ d.l) → walkVL n id l = []:=by
  intro l
  induction l with
  | nil=>intro _;rfl
  | cons x r ih =>
   intro hx
   simp only [walkVL]
   rw [hl x (hx x (List.mem_cons_self ..)) n true h,ih fun y hy=>hx y (List.mem_cons_of_mem _ hy)];rfl
 have h2:∀ (s:List Nd) (l:List Dt),(∀ x ∈ l,x ∈ d.f) → (∀ y ∈ nodesL s,y.id ≠ id) → walkVF s id l = []:=by
  intro s
  induction s with
  | nil=>intro l _ _;cases l <;> rfl
  | cons m t ih =>
   intro l hx hy
   cases l with
   | nil=>rfl
   | cons x r =>
    simp only [nodesL] at hy
    simp only [walkVF]
    rw [hf x (hx x (List.mem_cons_self ..)) m false fun y hm=>hy y (List.mem_append_left _ hm),ih r (fun y hy=>hx y (List.mem_cons_of_mem _ hy)) fun y hm=>hy y (List.mem_append_right _ hm)];rfl
 split
 ·rfl
 split
 ·exact h1 _ fun _ h=>h
 split
 ·exact h2 _ _ (fun _ h=>h) fun y hy=>h y (by rw [nodes_eq];exact List.mem_cons_of_mem _ hy)
 ·rw [if_neg (h n (by rw [nodes_eq];exact List.mem_cons_self ..))]
theorem pick_sub (lid:Int) (p':List Nd) (rep df lv:Int):∀ (s:List Nd) (l:List Dt) (m:Nd),s.length = l.length → ((nodesL s).map Nd.id).Nodup → m ∈ s → (∃ y ∈ nodes m,y.id = lid) →
  ∃ (k:Nat) (x:Dt),s[k]? = some m ∧ l[k]? = some x ∧ docEF s l (m :: p') rep df lv = docE (m :: p') x rep df lv false ∧ walkVF s lid l = walkV m lid false x
 | [],l,m,_,_,h,_=>by cases h
 | a :: s,[],m,h,_,_,_=>by simp at h
 | a :: s,x :: l,m,hl,hn,hm,hy=>by
  simp only [nodesL,List.map_append] at hn
  rw [List.nodup_append] at hn
  obtain ⟨n1,n2,n3⟩:=hn
  have ida:a.id ∈ (nodes a).map Nd.id:=List.mem_map.2 ⟨a,by rw [nodes_eq];exact List.mem_cons_self ..,rfl⟩
  rcases List.mem_cons.1 hm with rfl | hm
  ·refine ⟨0,x,rfl,rfl,?_,?_⟩
   ·simp only [docEF]
    rw [if_pos (show m.id = hdId (m :: p') from rfl)]
    have e:∀ (s:List Nd) (l:List Dt),(∀ y ∈ s,y.id ≠ m.id) → docEF s l (m :: p') rep df lv = []:=by
     intro s
     induction s with
     | nil=>intro l _;cases l <;> rfl
     | cons b t ih =>
      intro l h
      cases l with
      | nil=>rfl
      | cons x r =>
       simp only [docEF]
       rw [if_neg (show ¬ b.id = hdId (m :: p') from h b (List.mem_cons_self ..)),ih r fun y hy=>h y (List.mem_cons_of_mem _ hy)];rfl
    rw [e s l fun y hy e1=>n3 _ ida _ (List.mem_map.2 ⟨y,nodesL_mem hy (by rw [nodes_eq];exact List.mem_cons_self ..),rfl⟩) e1.symm,List.append_nil]
   ·simp only [walkVF]
    obtain ⟨y,hy1,hy2⟩:=hy
    have e:∀ (s:List Nd) (l:List Dt),(∀ z ∈ nodesL s,z.id ≠ lid) → walkVF s lid l = []:=by
     intro s
     induction s with
     | nil=>intro l _;cases l <;> rfl
     | cons b t ih =>
      intro l h
      cases l with
      | nil=>rfl
      | cons x r =>
       simp only [nodesL] at h
       simp only [walkVF]
       rw [walkV_none lid x b false fun z hz=>h z (List.mem_append_left _ hz),ih r fun z hz=>h z (List.mem_append_right _ hz)];rfl
    rw [e s l fun z hz e1=>n3 _ (List.mem_map.2 ⟨y,hy1,hy2⟩) _ (List.mem_map.2 ⟨z,hz,rfl⟩) e1.symm,List.append_nil]
  ·obtain ⟨k,x',h1,h2,h3,h4⟩:=pick_sub lid p' rep df lv s l m (by simpa using hl) n2 hm hy
   refine ⟨k + 1,x',by simpa using h1,by simpa using h2,?_,?_⟩
   ·simp only [docEF]
    rw [if_neg (show ¬ a.id = hdId (m :: p') from fun e=>n3 _ ida _ (List.mem_map.2 ⟨m,nodesL_mem hm (by rw [nodes_eq];exact List.mem_cons_self ..),rfl⟩) e),h3];rfl
   ·simp only [walkVF]
    obtain ⟨y,hy1,hy2⟩:=hy
    rw [walkV_none lid x a false fun z hz e=>n3 _ (List.mem_map.2 ⟨z,hz,rfl⟩) _ (List.mem_map.2 ⟨y,nodesL_mem hm hy1,rfl⟩) (by rw [e,hy2]),h4];rfl
structure EntsIn (kind df lv M m:Int) (L:List EntD):Prop where
 lev:∀ x ∈ L,df ≤ x.d ∧ x.d ≤ m
 val:∀ x ∈ L,(x.d = m ↔ x.v ≠ none)
 ok:∀ x ∈ L,∀ v,x.v = some v → okB kind v = true
def HeadAt (rep lv M:Int) (L:List EntD):Prop:=∃ e t,L = e :: t ∧ e.r = rep ∧ ∀ x ∈ t,lv + 1 ≤ x.r ∧ x.r ≤ M
def own3 (n:Nd) (one:Bool):Int:=if one = true ∧ n.rep = 3 then 1 else 0
theorem EntsIn.app {kind df lv M m:Int} {a b:List EntD} (ha:EntsIn kind df lv M m a) (hb:EntsIn kind df lv M m b):EntsIn kind df lv M m (a ++ b) :=
 ⟨fun x hx=>(List.mem_append.1 hx).elim (ha.lev x) (hb.lev x),fun x hx=>(List.mem_append.1 hx).elim (ha.val x) (hb.val x),fun x hx=>(List.mem_append.1 hx).elim (ha.ok x) (hb.ok x)⟩
theorem EntsIn.up {kind df df' lv lv' M m:Int} {a:List EntD} (ha:EntsIn kind df' lv' M m a) (h:df ≤ df'):EntsIn kind df lv M m a :=
 ⟨fun x hx=>⟨Int.le_trans h (ha.lev x hx).1,(ha.lev x hx).2⟩,ha.val,ha.ok⟩
theorem EntsIn.nil (kind df lv M m:Int):EntsIn kind df lv M m []:=⟨fun _ h=>(by cases h),fun _ h=>(by cases h),fun _ h=>(by cases h)⟩
theorem EntsIn.none1 {kind df lv M m rep:Int} (h:df < m):EntsIn kind df lv M m [⟨rep,df,none⟩]:=by
 refine ⟨fun x hx=>?_,fun x hx=>?_,fun x hx v hv=>?_⟩ <;> obtain rfl:=List.mem_singleton.1 hx
 ·exact ⟨Int.le_refl _,by show df ≤ m;omega⟩
 ·constructor
  ·intro e;have e':df = m:=e;omega
  ·intro e;exact absurd rfl e
 ·cases hv
theorem doc_ok:∀ (d:Dt) (n:Nd) (p:List Nd) (rep df lv:Int) (one:Bool),(∀ x ∈ nodes n,okShape x = true) → ((nodes n).map Nd.id).Nodup → datE n one d = 0 → (n :: p) ∈ chs n → rep ≤ lv + 1 →
  EntsIn (lastN (n :: p)).kind df lv (lv + reps (n :: p) - own3 n one) (df + opts (n :: p) - own1 n one) (docE (n :: p) d rep df lv one) ∧
  HeadAt rep lv (lv + reps (n :: p) - own3 n one) (docE (n :: p) d rep df lv one) ∧ (docE (n :: p) d rep df lv one).filterMap EntD.v = walkV n (lastN (n :: p)).id one d:=by
 apply Dt.ind
 intro d IHl IHf n p rep df lv one hs hn hd hc hrl
 have hop:=opts_nn p
 have hrp:0 ≤ reps p:=by unfold reps;omega
 have hsn:=hs n (by rw [nodes_eq];exact List.mem_cons_self ..)
 have hR0:1 ≤ n.rep ∧ n.rep ≤ 3:=by unfold okShape at hsn;simp only [Bool.and_eq_true,decide_eq_true_eq] at hsn;omega
 rw [datE_eq] at hd
 rw [docE_eq,walkV_eq,opts_cons,reps_cons]
 by_cases h3:one = false ∧ n.rep = 3
 ·obtain ⟨rfl,hr3⟩:=h3
  have e1:own1 n false = 0:=by simp [own1]
  have e3:own3 n false = 0:=by simp [own3]
  rw [e1,e3,if_pos (by omega:n.rep ≠ 1),if_pos hr3,if_pos (show (false = false ∧ n.rep = 3) from ⟨rfl,hr3⟩)]
  rw [if_neg (by simp [hr3])] at hd
  split at hd
  ·omega
  rename_i hno
  rw [if_neg hno,if_pos (show (!false && decide (n.rep = 3)) = true by simp [hr3])]
  rw [if_pos (show (!false && decide (n.rep = 3)) = true by simp [hr3])] at hd
  split at hd
  ·omega
  split at hd
  ·omega
  have hz:=datEL_zero n d.l hd
  by_cases hem:d.l.isEmpty = true
  ·rw [if_pos hem]
   have hl0:d.l = []:=List.isEmpty_iff.1 hem
   rw [hl0]
   exact ⟨EntsIn.none1 (by omega),⟨_,[],rfl,rfl,fun x hx=>by cases hx⟩,rfl⟩
  rw [if_neg hem]
  have key:∀ (l:List Dt) (rep:Int),(∀ x ∈ l,x ∈ d.l) → rep ≤ lv + 1 →
    EntsIn (lastN (n :: p)).kind df lv (lv + (1 + reps p) - 0) (df + (1 + opts p) - 0) (docEL (n :: p) l rep df lv) ∧ (l ≠ [] → HeadAt rep lv (lv + (1 + reps p) - 0) (docEL (n :: p) l rep df lv)) ∧
    (docEL (n :: p) l rep df lv).filterMap EntD.v = walkVL n (lastN (n :: p)).id l:=by
   intro l
   induction l with
   | nil=>intro rep _ _;exact ⟨EntsIn.nil ..,fun h=>absurd rfl h,rfl⟩
   | cons x r ih =>
    intro rep hx hr
    obtain ⟨a1,a2,a3⟩:=IHl x (hx x (List.mem_cons_self ..)) n p rep (df + 1) (lv + 1) true hs hn (hz x (hx x (List.mem_cons_self ..))) hc (by omega)
    obtain ⟨b1,b2,b3⟩:=ih (lv + 1) (fun y hy=>hx y (List.mem_cons_of_mem _ hy)) (by omega)
    have o1:own1 n true = 1:=by unfold own1;rw [if_pos ⟨rfl,by omega⟩]
    have o3:own3 n true = 1:=by unfold own3;rw [if_pos ⟨rfl,hr3⟩]
    rw [opts_cons,reps_cons,if_pos (by omega:n.rep ≠ 1),if_pos hr3,o1,o3] at a1
    rw [reps_cons,if_pos hr3,o3] at a2
    rw [show lv + 1 + (1 + reps p) - 1 = lv + (1 + reps p) - 0 by omega] at a1 a2
    rw [show df + 1 + (1 + opts p) - 1 = df + (1 + opts p) - 0 by omega] at a1
    simp only [docEL,walkVL]
    refine ⟨(a1.up (by omega)).app b1,fun _=>?_,by rw [List.filterMap_append,a3,b3]⟩
    obtain ⟨e,t,h1,h2,h4⟩:=a2
    refine ⟨e,t ++ docEL (n :: p) r (lv + 1) df lv,by rw [h1];rfl,h2,fun y hy=>?_⟩
    rcases List.mem_append.1 hy with hy | hy
    ·have:=h4 y hy;omega
    ·cases r with
     | nil=>simp [docEL] at hy
     | cons z r' =>
      obtain ⟨e',t',g1,g2,g4⟩:=b2 (by simp)
      rw [g1] at hy
      rcases List.mem_cons.1 hy with rfl | hy
      ·omega
      ·exact g4 y hy
  obtain ⟨k1,k2,k3⟩:=key d.l rep (fun _ h=>h) hrl
  exact ⟨k1,k2 (fun e=>hem (by rw [e];rfl)),k3⟩
 rw [if_neg h3]
 by_cases h2:one = false ∧ n.rep = 2 ∧ d.no = true
 ·obtain ⟨rfl,hr2,hno⟩:=h2
  have e1:own1 n false = 0:=by simp [own1]
  rw [if_pos (show (false = false ∧ n.rep = 2 ∧ d.no = true) from ⟨rfl,hr2,hno⟩),if_pos hno,e1,if_pos (by omega:n.rep ≠ 1)]
  exact ⟨EntsIn.none1 (by omega),⟨_,[],rfl,rfl,fun x hx=>by cases hx⟩,rfl⟩
 rw [if_neg h2]
 have hq2:¬ (!one && decide (n.rep = 2) && d.no) = true:=by
  intro h
  simp only [Bool.and_eq_true,Bool.not_eq_true',decide_eq_true_eq] at h
  exact h2 ⟨h.1.1,h.1.2,h.2⟩
 have hq3:¬ (!one && decide (n.rep = 3)) = true:=by
  intro h
  simp only [Bool.and_eq_true,Bool.not_eq_true',decide_eq_true_eq] at h
  exact h3 ⟨h.1,h.2⟩
 rw [if_neg hq2] at hd
 split at hd
 ·omega
 rename_i hno
 try rw [if_neg hq3] at hd
 rw [if_neg hno,if_neg hq3]
 split at hd
 ·omega
 have hM:lv + ((if n.rep = 3 then 1 else 0) + reps p) - own3 n one = lv + reps p:=by
  unfold own3
  cases one with
  | false=>rw [if_neg (fun h=>h3 ⟨rfl,h⟩)];simp
  | true=>simp only [true_and];omega
 have hm:df + ((if n.rep ≠ 1 then 1 else 0) + opts p) - own1 n one = (if one = false ∧ n.rep = 2 then df + 1 else df) + opts p:=by
  unfold own1
  cases one with
  | false =>
   have:n.rep = 1 ∨ n.rep = 2:=by have:n.rep ≠ 3:=fun h=>h3 ⟨rfl,h⟩;omega
   rcases this with h | h <;> simp [h] <;> omega
  | true=>simp only [true_and];rw [if_neg (by simp:¬ (true = false ∧ n.rep = 2))];split <;> omega
 rw [hM,hm]
 obtain ⟨d',hd'⟩:∃ d',(if one = false ∧ n.rep = 2 then df + 1 else df) = d':=⟨_,rfl⟩
 rw [hd']
 have hdd:df ≤ d':=by rw [← hd'];split <;> omega
 rw [chs_eq] at hc
 by_cases hk:n.kind ≠ 0
 ·rw [if_neg hk,List.mem_singleton] at hc
  injection hc with _ hp
  subst hp
  rw [if_pos hk] at hd ⊢
  rw [if_neg hk]
  split at hd
  ·omega
  have hok:okB n.kind d.v = true:=by
   split at hd
   ·assumption
   ·omega
  have o0:opts [] = 0:=rfl
  have r0:reps [] = 0:=rfl
  rw [o0,r0]
  refine ⟨⟨fun x hx=>?_,fun x hx=>?_,fun x hx v hv=>?_⟩,⟨_,[],rfl,rfl,fun x hx=>by cases hx⟩,by rw [if_pos (show n.id = (lastN [n]).id from rfl)];rfl⟩ <;> obtain rfl:=List.mem_singleton.1 hx
  ·exact ⟨hdd,by show d' ≤ d' + 0;omega⟩
  ·exact ⟨fun _ h=>(by cases h),fun _=>(by show d' = d' + 0;omega)⟩
  ·injection hv with hv;rw [← hv];exact hok
 ·have hk0:n.kind = 0:=Classical.not_not.1 hk
  rw [if_pos hk0] at hc
  rw [if_neg hk] at hd ⊢
  rw [if_pos hk0]
  obtain ⟨q,hq,hqe⟩:=List.mem_map.1 hc
  injection hqe with _ hqe
  subst hqe
  obtain ⟨m,p',rfl,hmm,hcm⟩:=chsL_memP _ _ hq
  split at hd
  ·omega
  rename_i hx1
  simp only [Bool.or_eq_true,decide_eq_true_eq,not_or,Decidable.not_not] at hx1
  have hz:=datEF_zero _ _ hd
  have hns:((nodesL n.sub).map Nd.id).Nodup:=by rw [nodes_eq,List.map_cons,List.nodup_cons] at hn;exact hn.2
  rw [lastN_cons n (m :: p') (by simp)]
  obtain ⟨hl1,hl2⟩:=last_in.1 m (m :: p') hcm
  obtain ⟨k,x,g1,g2,g3,g4⟩:=pick_sub (lastN (m :: p')).id p' rep d' lv n.sub d.f m hx1.2.symm hns hmm ⟨_,hl1,rfl⟩
  rw [g3,g4]
  obtain ⟨a1,a2,a3⟩:=IHf x (List.mem_of_getElem? g2) m p' rep d' lv false (fun z hz=>hs z (by rw [nodes_eq];exact List.mem_cons_of_mem _ (nodesL_mem hmm hz))) (nodup_subLP hns hmm) (hz k m x g1 g2) hcm hrl
  have e1:own1 m false = 0:=by simp [own1]
  have e3:own3 m false = 0:=by simp [own3]
  rw [e1,e3,Int.sub_zero,Int.sub_zero] at a1
  rw [e3,Int.sub_zero] at a2
  exact ⟨a1.up hdd,a2,a3⟩
end Go.Proofs.YtkmhmnffbgedgaaDoor
