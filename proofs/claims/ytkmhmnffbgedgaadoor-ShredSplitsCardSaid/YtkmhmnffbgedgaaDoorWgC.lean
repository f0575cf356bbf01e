/- Plain: how much a right record weighs at most. -/
import Derived.Test.YtkmhmnffbgedgaaDoorTr2
import Derived.Test.YtkmhmnffbgedgaaDoorWk0
namespace Go.Proofs.YtkmhmnffbgedgaaDoor
set_option linter.unusedVariables false
set_option linter.unusedSimpArgs false
open Go Go.RowKit
theorem okB_small {k:Int} {x:Val} (h:okB k x = true):x.s.size ≤ 100:=by
 unfold okB at h
 rw [Bool.and_eq_true] at h
 have h2:=h.2
 split at h2
 ·simp only [Bool.and_eq_true,decide_eq_true_eq] at h2;omega
 ·simp only [Bool.and_eq_true,decide_eq_true_eq] at h2;omega
theorem hasV_small {x:Val} (h:hasV x = false):x.s.size = 0:=by
 unfold hasV at h
 have h1:valEq x zeroV = true:=by simpa using h
 rw [(valEq_iff _ _).1 h1]
 rfl
theorem pow41_pos1 (k:Nat):1 ≤ 41 ^ k:=Nat.pow_pos (by decide)
theorem wgtL_le (c:Nat):∀ (l:List Dt),(∀ x ∈ l,wgt x ≤ c) → wgtL l ≤ l.length * c
 | [],_=>by simp [wgtL]
 | a :: r,h=>by
  have h1:=h a (List.mem_cons_self ..)
  have h2:=wgtL_le c r fun x hx=>h x (List.mem_cons_of_mem _ hx)
  simp only [wgtL,List.length_cons,Nat.add_mul,Nat.one_mul]
  omega
theorem wgtF_le (c:Nat):∀ (s:List Nd) (l:List Dt),s.length = l.length → (∀ (k:Nat) (m:Nd) (x:Dt),s[k]? = some m → l[k]? = some x → wgt x ≤ c * size m) → wgtL l ≤ c * sizeL s
 | [],[],_,_=>by simp [wgtL,sizeL]
 | [],_ :: _,h,_=>by simp at h
 | _ :: _,[],h,_=>by simp at h
 | m :: s,a :: r,h,hk=>by
  have h0:=hk 0 m a rfl rfl
  have h2:=wgtF_le c s r (by simpa using h) fun k m' x hm hx=>hk (k + 1) m' x (by simpa using hm) (by simpa using hx)
  simp only [wgtL,sizeL,Nat.mul_add]
  omega
theorem wgt_cap:∀ (d:Dt) (n:Nd) (one:Bool),datE n one d = 0 → wgt d ≤ (if one = true then 1 else 41) * (102 * (size n * 41 ^ (hgt n - 1))):=by
 apply Dt.ind
 intro d IHl IHf n one h
 rw [datE_eq] at h
 rw [wgt_eq]
 have hp:1 ≤ size n * 41 ^ (hgt n - 1):=Nat.mul_pos (size_pos n) (pow41_pos1 _)
 obtain ⟨P,hP⟩:∃ P,size n * 41 ^ (hgt n - 1) = P:=⟨_,rfl⟩
 have hone:1 * (102 * P) ≤ (if one = true then 1 else 41) * (102 * P):=Nat.mul_le_mul_right _ (by split <;> omega)
 rw [Nat.one_mul] at hone
 rw [hP] at hp ⊢
 have nil:∀ l:List Dt,l.isEmpty = true → wgtL l = 0:=fun l hl=>by cases l with | nil=>rfl | cons a r=>simp at hl
 split at h
 ·split at h
  ·omega
  ·rename_i h1
   simp only [Bool.or_eq_true,Bool.not_eq_true',not_or,Bool.not_eq_true,Bool.not_eq_false] at h1
   have a1:=hasV_small h1.1.1
   have a2:=nil _ h1.1.2
   have a3:=nil _ h1.2
   omega
 split at h
 ·omega
 split at h
 ·rename_i hr
  have hof:one = false:=by cases one <;> simp_all
  subst hof
  split at h
  ·omega
  ·rename_i h1
   simp only [Bool.or_eq_true,Bool.not_eq_true',not_or,Bool.not_eq_true,Bool.not_eq_false] at h1
   have a1:=hasV_small h1.1
   have a3:=nil _ h1.2
   split at h
   ·omega
   ·rename_i h40
    have hz:=datEL_zero n d.l h
    have h2:=wgtL_le (102 * P) d.l fun x hx=>by
     have:=IHl x hx n true (hz x hx)
     rw [hP] at this
     simpa using this
    have h4:d.l.length * (102 * P) ≤ 40 * (102 * P):=Nat.mul_le_mul_right _ (by omega)
    simp only [Bool.false_eq_true,if_false]
    omega
 refine Nat.le_trans ?_ hone
 split at h
 ·omega
 rename_i hle
 have a2:=nil d.l (by simpa using hle)
 split at h
 ·split at h
  ·omega
  rename_i hfe
  have a3:=nil d.f (by simpa using hfe)
  split at h
  ·rename_i hok
   have:=okB_small hok
   omega
  ·omega
 ·split at h
  ·omega
  rename_i h1
  simp only [Bool.or_eq_true,decide_eq_true_eq,not_or,Bool.not_eq_true,Decidable.not_not] at h1
  have a1:=hasV_small h1.1
  have hz:=datEF_zero _ _ h
  have hh:hgt n - 1 = hgtL n.sub:=by rw [hgt_eq];omega
  have h2:=wgtF_le (102 * 41 ^ hgtL n.sub) n.sub d.f h1.2.symm fun k m x hm hx=>by
   have h2:=IHf x (List.mem_of_getElem? hx) m false (hz k m x hm hx)
   have h3:hgt m ≤ hgtL n.sub:=hgt_le_L hm
   have h4:=hgt_pos m
   have h5:41 * (102 * (size m * 41 ^ (hgt m - 1))) = 102 * (size m * 41 ^ (hgt m)):=by
    obtain ⟨q,hq⟩:∃ q,hgt m = q + 1:=⟨hgt m - 1,by omega⟩
    rw [hq,Nat.add_sub_cancel,Nat.pow_succ]
    simp only [Nat.mul_comm,Nat.mul_left_comm,Nat.mul_assoc]
   simp only [Bool.false_eq_true,if_false] at h2
   rw [h5] at h2
   have h6:size m * 41 ^ (hgt m) ≤ size m * 41 ^ (hgtL n.sub):=Nat.mul_le_mul_left _ (Nat.pow_le_pow_right (by decide) h3)
   have h7:102 * 41 ^ hgtL n.sub * size m = 102 * (size m * 41 ^ (hgtL n.sub)):=by rw [Nat.mul_assoc,Nat.mul_comm (41 ^ _)]
   rw [h7]
   omega
  have hP2:P = 41 ^ hgtL n.sub + sizeL n.sub * 41 ^ hgtL n.sub:=by rw [← hP,hh,size_eq,Nat.add_mul,Nat.one_mul]
  have h7:102 * 41 ^ hgtL n.sub * sizeL n.sub = 102 * (sizeL n.sub * 41 ^ (hgtL n.sub)):=by rw [Nat.mul_assoc,Nat.mul_comm (41 ^ _)]
  have h8:=pow41_pos1 (hgtL n.sub)
  rw [h7] at h2
  omega
theorem wgtL_cap {n:Nd} {l:List Dt} (hs:size n ≤ 40) (hh:hgt n ≤ 6) (hl:l.length ≤ 150) (hd:∀ d ∈ l,datE n false d = 0):wgtL l ≤ 4611686018427387904:=by
 have h2:41 ^ (hgt n - 1) ≤ 41 ^ 5:=Nat.pow_le_pow_right (by decide) (by omega)
 have h3:size n * 41 ^ (hgt n - 1) ≤ 40 * 41 ^ 5:=Nat.mul_le_mul hs h2
 have h1:=wgtL_le (41 * (102 * (40 * 41 ^ 5))) l fun d h=>by
  have:=wgt_cap d n false (hd d h)
  simp only [Bool.false_eq_true,if_false] at this
  omega
 have h4:l.length * (41 * (102 * (40 * 41 ^ 5))) ≤ 150 * (41 * (102 * (40 * 41 ^ 5))):=Nat.mul_le_mul_right _ hl
 have h5:150 * (41 * (102 * (40 * 41 ^ 5))) ≤ 4611686018427387904:=by decide
 omega
end Go.Proofs.YtkmhmnffbgedgaaDoor
