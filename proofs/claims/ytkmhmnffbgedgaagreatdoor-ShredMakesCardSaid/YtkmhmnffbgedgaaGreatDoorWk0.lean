/- Plain: the values of a leaf in a record, how many they may be. -/
import Derived.Test.YtkmhmnffbgedgaaGreatDoorTr2
namespace Go.Proofs.YtkmhmnffbgedgaaGreatDoor
set_option linter.unusedVariables false
set_option linter.unusedSimpArgs false
open Go Go.RowKit
mutual
def walkV:Nd → Int → Bool → Dt → List Val
 | n,id,one,.mk no v l f =>
  if no = true then []
  else if (!one && decide (n.rep = 3)) = true then walkVL n id l
  else if n.kind = 0 then walkVF n.sub id f
  else if n.id = id then [v] else []
def walkVL:Nd → Int → List Dt → List Val
 | _,_,[]=>[]
 | n,id,x :: r=>walkV n id true x ++ walkVL n id r
def walkVF:List Nd → Int → List Dt → List Val
 | [],_,_=>[]
 | _ :: _,_,[]=>[]
 | s :: t,id,x :: r=>walkV s id false x ++ walkVF t id r
end
theorem walkV_eq (n:Nd) (id:Int) (one:Bool) (d:Dt):walkV n id one d =
  if d.no = true then []
  else if (!one && decide (n.rep = 3)) = true then walkVL n id d.l
  else if n.kind = 0 then walkVF n.sub id d.f
  else if n.id = id then [d.v] else []:=by
 cases d;simp only [walkV];rfl
theorem walkVL_app (n:Nd) (id:Int) (a b:List Dt):walkVL n id (a ++ b) = walkVL n id a ++ walkVL n id b:=by
 induction a with
 | nil=>simp [walkVL]
 | cons x r ih=>simp only [List.cons_append,walkVL,ih,List.append_assoc]
theorem walkVL_take (n:Nd) (id:Int) {l:List Dt} {k:Nat} {x:Dt} (h:l[k]? = some x):walkVL n id (l.take (k + 1)) = walkVL n id (l.take k) ++ walkV n id true x:=by
 rw [List.take_add_one,h,walkVL_app]
 simp [walkVL]
theorem walkVF_take (id:Int):∀ (s:List Nd) (l:List Dt) (k:Nat) (m:Nd) (x:Dt),s[k]? = some m → l[k]? = some x → walkVF (s.take (k + 1)) id (l.take (k + 1)) = walkVF (s.take k) id (l.take k) ++ walkV m id false x
 | [],_,k,m,x,h,_=>by simp at h
 | a :: t,[],k,m,x,_,h=>by simp at h
 | a :: t,b :: r,0,m,x,h0,h1=>by
  obtain rfl:a = m:=by simpa using h0
  obtain rfl:b = x:=by simpa using h1
  simp [walkVF]
 | a :: t,b :: r,k + 1,m,x,h0,h1=>by
  have:=walkVF_take id t r k m x (by simpa using h0) (by simpa using h1)
  simp only [List.take_succ_cons,walkVF,this,List.append_assoc]
theorem walkVF_pre (id:Int):∀ (s:List Nd) (l:List Dt) (k:Nat),(walkVF (s.take k) id (l.take k)).length ≤ (walkVF s id l).length
 | _,_,0=>by simp [walkVF]
 | [],_,k + 1=>by simp [walkVF]
 | a :: t,[],k + 1=>by simp [walkVF]
 | a :: t,b :: r,k + 1=>by
  have:=walkVF_pre id t r k
  simp only [List.take_succ_cons,walkVF,List.length_append];omega
theorem hgt_pos (n:Nd):1 ≤ hgt n:=by rw [hgt_eq];omega
theorem size_pos (n:Nd):1 ≤ size n:=by rw [size_eq];omega
theorem pow40_pos (k:Nat):1 ≤ 40 ^ k:=Nat.le_trans (Nat.one_le_two_pow (n:=k)) (Nat.pow_le_pow_left (by decide) k)
theorem walkVL_len (n:Nd) (id:Int) (B:Nat):∀ (l:List Dt),(∀ x ∈ l,(walkV n id true x).length ≤ B) → (walkVL n id l).length ≤ l.length * B
 | [],_=>by simp [walkVL]
 | x :: r,h=>by
  simp only [walkVL,List.length_append,List.length_cons]
  have h1:=h x (List.mem_cons_self ..)
  have h2:=walkVL_len n id B r fun y hy=>h y (List.mem_cons_of_mem _ hy)
  rw [Nat.succ_mul];omega
theorem walkVF_len (id:Int) (H:Nat):∀ (s:List Nd) (l:List Dt),(∀ (k:Nat) m x,s[k]? = some m → l[k]? = some x → (walkV m id false x).length ≤ size m * 40 ^ H) → (walkVF s id l).length ≤ sizeL s * 40 ^ H
 | [],_,_=>by simp [walkVF]
 | a :: t,[],_=>by simp [walkVF]
 | a :: t,b :: r,h=>by
  simp only [walkVF,List.length_append,sizeL,Nat.add_mul]
  have h1:=h 0 a b rfl rfl
  have h2:=walkVF_len id H t r fun k m x hm hx=>h (k + 1) m x (by simpa using hm) (by simpa using hx)
  omega
theorem hgt_le_L:∀ {l:List Nd} {k:Nat} {m:Nd},l[k]? = some m → hgt m ≤ hgtL l
 | [],k,m,h=>by simp at h
 | a :: r,0,m,h=>by
  obtain rfl:a = m:=by simpa using h
  simp only [hgtL];omega
 | a :: r,k + 1,m,h=>by
  have:=hgt_le_L (l:=r) (k:=k) (by simpa using h)
  simp only [hgtL];omega
theorem walkV_len (id:Int):∀ (d:Dt) (n:Nd) (one:Bool),datE n one d = 0 → (walkV n id one d).length ≤ (if one = true then 1 else 40) * (size n * 40 ^ (hgt n - 1)):=by
 apply Dt.ind
 intro d IHl IHf n one h
 rw [datE_eq] at h
 rw [walkV_eq]
 have hp:1 ≤ size n * 40 ^ (hgt n - 1):=Nat.mul_pos (size_pos n) (pow40_pos _)
 have hone:1 * (size n * 40 ^ (hgt n - 1)) ≤ (if one = true then 1 else 40) * (size n * 40 ^ (hgt n - 1)):=Nat.mul_le_mul_right _ (by split <;> omega)
 rw [Nat.one_mul] at hone
 by_cases hno:d.no = true
 ·rw [if_pos hno];simp
 rw [if_neg hno]
 by_cases hr:(!one && decide (n.rep = 3)) = true
 ·rw [if_pos hr]
  have hof:one = false:=by cases one <;> simp_all
  subst hof
  have hr3:n.rep = 3:=by simpa using hr
  rw [if_neg (by simp [hno]),if_neg hno,if_pos hr] at h
  split at h
  ·omega
  ·split at h
   ·omega
   ·rename_i h40
    have hz:=datEL_zero n d.l h
    have:=walkVL_len n id (size n * 40 ^ (hgt n - 1)) d.l fun x hx=>by
     have:=IHl x hx n true (hz x hx)
     simpa using this
    refine Nat.le_trans this (Nat.mul_le_mul_right _ ?_)
    simp;omega
 ·rw [if_neg hr]
  refine Nat.le_trans ?_ hone
  rw [if_neg (by simp [hno]),if_neg hno,if_neg hr] at h
  split at h
  ·omega
  by_cases hk:n.kind = 0
  ·rw [if_pos hk]
   rw [if_neg (by simpa using hk)] at h
   split at h
   ·omega
   have hz:=datEF_zero _ _ h
   have hh:hgt n - 1 = hgtL n.sub:=by rw [hgt_eq];omega
   have h1:=walkVF_len id (hgtL n.sub) n.sub d.f fun k m x hm hx=>by
    have h2:=IHf x (List.mem_of_getElem? hx) m false (hz k m x hm hx)
    have h3:hgt m ≤ hgtL n.sub:=hgt_le_L hm
    have h4:=hgt_pos m
    have h5:40 * (size m * 40 ^ (hgt m - 1)) = size m * 40 ^ (hgt m):=by
     obtain ⟨q,hq⟩:∃ q,hgt m = q + 1:=⟨hgt m - 1,by omega⟩
     rw [hq,Nat.add_sub_cancel,Nat.pow_succ,Nat.mul_comm 40,Nat.mul_assoc]
    simp only [Bool.false_eq_true,if_false] at h2
    rw [h5] at h2
    exact Nat.le_trans h2 (Nat.mul_le_mul_left _ (Nat.pow_le_pow_right (by decide) h3))
   rw [hh]
   refine Nat.le_trans h1 (Nat.mul_le_mul_right _ ?_)
   rw [size_eq];omega
  ·rw [if_neg hk]
   split
   ·simpa using hp
   ·simp
theorem walkV_cap {n:Nd} {id:Int} {d:Dt} (h:datE n false d = 0) (hs:size n ≤ 40) (hh:hgt n ≤ 6):(walkV n id false d).length ≤ 163840000000:=by
 have h1:=walkV_len id d n false h
 simp only [Bool.false_eq_true,if_false] at h1
 have h2:40 ^ (hgt n - 1) ≤ 40 ^ 5:=Nat.pow_le_pow_right (by decide) (by omega)
 have h3:size n * 40 ^ (hgt n - 1) ≤ 40 * 40 ^ 5:=Nat.mul_le_mul hs h2
 have h4:40 * (40 * 40 ^ 5) = 163840000000:=by decide
 omega
end Go.Proofs.YtkmhmnffbgedgaaGreatDoor
