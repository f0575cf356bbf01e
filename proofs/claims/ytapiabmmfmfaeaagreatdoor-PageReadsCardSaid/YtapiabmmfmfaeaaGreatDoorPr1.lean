/- A page that is read: plain Lean. -/
import Derived.Test.YtapiabmmfmfaeaaGreatDoorMPp
import Derived.Test.YtapiabmmfmfaeaaGreatDoorMTz
import Derived.Test.YtapiabmmfmfaeaaGreatDoorMReads
import Derived.Test.YtapiabmmfmfaeaaGreatDoorRdBe
namespace Go.Proofs.YtapiabmmfmfaeaaGreatDoor
set_option linter.unusedVariables false
open Go Go.RowKit Go.ChangeShapes
inductive BodyR where
 | text:BodyR
 | sum:BodyR
 | ok:List UInt8 → Nat → BodyR
def bodyR:List UInt8 → BodyR
 | []=>.text
 | c :: t=>if c ≠ 80 then .text else match readU t with
  | none=>.text
  | some (n,k)=>if 200000 < n then .text else if t.length + 1 < 5 + k + n then .text else
   if unlittle ((t.drop k).take 4) = crc ((t.drop (4 + k)).take n) then .ok ((t.drop (4 + k)).take n) (5 + k + n) else .sum
def levR (m:Int) (n:Nat) (s:List UInt8):Option (List Nat × Nat):=match readT s with
 | none=>none
 | some (t,k)=>match readR (lwd m) n t with
  | none=>none
  | some (l,j)=>if j = t.length then some (l,k) else none
def bestR (kind code:Int) (s:List UInt8) (n:Nat):Option (List Val) :=
 if code = 0 then readP kind s n else if code = 1 then readDi kind s n else if code = 2 ∧ (kind = 2 ∨ kind = 3) then readD kind s n
 else if code = 3 ∧ kind = 4 then (readX s n).map textsV else none
def valsR (f:Lf) (t:St) (rep df:List Nat) (r:List UInt8):Option Col:=match r with
 | []=>none
 | code :: r'=>match readT r' with
  | none=>none
  | some (v,x)=>if x ≠ r'.length then none else match bestR f.kind (code.toNat:Nat) v (t.e - t.n).toNat with
   | none=>none
   | some l=>if (colErr f ⟨f.id,ints rep,ints df,l⟩ true).isNil = true ∧ stEq (knownSt ⟨f.id,ints rep,ints df,l⟩) t = true then some ⟨f.id,ints rep,ints df,l⟩ else none
def colR (f:Lf) (b:List UInt8):Option Col:=match readPr b with
 | none=>none
 | some (t,k)=>if t.e = 0 then none else match levR f.mr t.e.toNat (b.drop k) with
  | none=>none
  | some (rep,k1)=>match levR f.md t.e.toNat ((b.drop k).drop k1) with
   | none=>none
   | some (df,k2)=>valsR f t rep df (((b.drop k).drop k1).drop k2)
theorem readRef_ok {L:List UInt8} {t:St} {k:Nat} (h:readRef L = some (t,k)):∃ e n:Nat,t.e = (e:Nat) ∧ t.n = (n:Nat) ∧ n ≤ e ∧ e ≤ 20000 ∧ k ≤ L.length ∧ 0 < k ∧ t.lo.Ok ∧ t.hi.Ok:=by
 unfold readRef at h
 split at h
 ·cases h
 ·rename_i e a h1
  split at h
  ·cases h
  ·rename_i h2
   split at h
   ·cases h
   ·rename_i n b h3
    split at h
    ·cases h
    ·rename_i h4
     split at h
     ·cases h
     ·rename_i h5
      split at h
      ·cases h
      ·split at h
       ·cases h
       ·split at h
        ·simp only [Option.some.injEq,Prod.mk.injEq] at h
         obtain ⟨rfl,rfl⟩:=h
         exact ⟨e,n,rfl,rfl,by omega,by omega,by omega,by omega,zv_ok',zv_ok'⟩
        ·split at h
         ·cases h
         ·rename_i h6
          split at h
          ·cases h
          ·rename_i v v2 p hp
           simp only [Option.some.injEq,Prod.mk.injEq] at h
           obtain ⟨rfl,rfl⟩:=h
           unfold twoRef at hp
           split at hp
           ·cases hp
           ·rename_i t1 u1 q1
            split at hp
            ·cases hp
            ·rename_i o1
             split at hp
             ·cases hp
             ·rename_i t2 u2 q2
              split at hp
              ·cases hp
              ·rename_i o2
               split at hp
               ·cases hp
               ·simp only [Option.some.injEq,Prod.mk.injEq] at hp
                obtain ⟨rfl,rfl,rfl⟩:=hp
                have l2:=(readT_le q2).1
                have l1:=(readT_le q1).1
                rw [List.length_drop] at l1 l2
                exact ⟨e,n,rfl,rfl,by omega,by omega,by show _ ≤ _;omega,by show 0 < _;omega,(oneP_ok o1).1,(oneP_ok o2).1⟩
theorem readPr_ok {L:List UInt8} {t:St} {k:Nat} (h:readPr L = some (t,k)):∃ e n:Nat,t.e = (e:Nat) ∧ t.n = (n:Nat) ∧ n ≤ e ∧ e ≤ 20000 ∧ k ≤ L.length ∧ 0 < k ∧ t.lo.Ok ∧ t.hi.Ok :=
 readRef_ok (readPr_eq L ▸ h)
theorem readR_lt2 (wd:Nat):∀ (n left:Nat) (s:List UInt8) (L:List Nat) (k:Nat),left = n → readR wd left s = some (L,k) → ∀ x ∈ L,x < 2 ^ wd:=by
 intro n
 induction n using Nat.strongRecOn with
 | _ n ih =>
  intro left s L k hn h
  by_cases h0:left = 0
  ·subst h0
   rw [readR_zero] at h
   injection h with h
   injection h with h1 h2
   subst h1;intro x hx;cases hx
  ·have hl:0 < left:=by omega
   cases hU:readU s with
   | none=>rw [readR_none wd left s hl hU] at h;cases h
   | some y =>
    obtain ⟨g,kk⟩:=y
    by_cases hb:g < 2 ∨ left < g / 2
    ·rw [readR_bad wd left g kk s hl hU hb] at h;cases h
    ·by_cases hp:g % 2 = 0
     ·by_cases h3:(s.drop kk).length < sizeB wd ∨ 2 ^ wd ≤ unlittle ((s.drop kk).take (sizeB wd))
      ·rw [readR_even_bad wd left g kk s hl hU hb hp h3] at h;cases h
      ·rw [readR_even wd left g kk s hl hU hb hp h3] at h
       cases hr:readR wd (left - g / 2) (s.drop (kk + sizeB wd)) with
       | none=>rw [hr] at h;cases h
       | some x =>
        obtain ⟨M,m⟩:=x
        have:=ih (left - g / 2) (by omega) _ _ M m rfl hr
        rw [hr] at h
        injection h with h
        injection h with h1 h2
        rw [← h1]
        intro x hx
        rcases List.mem_append.1 hx with hx | hx
        ·rw [List.eq_of_mem_replicate hx];omega
        ·exact this x hx
     ·by_cases h3:(s.drop kk).length < g / 2 * wd ∨ left + 8 ≤ 8 * (g / 2) ∨ ¬ ∀ x ∈ (getAll (unlittle (s.drop kk)) wd (8 * (g / 2))).drop left,x = 0
      ·rw [readR_odd_bad wd left g kk s hl hU hb (by omega) h3] at h;cases h
      ·rw [readR_odd wd left g kk s hl hU hb (by omega) h3] at h
       cases hr:readR wd (left - 8 * (g / 2)) (s.drop (kk + g / 2 * wd)) with
       | none=>rw [hr] at h;cases h
       | some x =>
        obtain ⟨M,m⟩:=x
        have:=ih (left - 8 * (g / 2)) (by omega) _ _ M m rfl hr
        rw [hr] at h
        injection h with h
        injection h with h1 h2
        rw [← h1]
        intro x hx
        rcases List.mem_append.1 hx with hx | hx
        ·exact getAll_lt _ _ _ x (List.mem_of_mem_take hx)
        ·exact this x hx
theorem levR_ok {m:Int} {n k:Nat} {L:List UInt8} {l:List Nat} (m0:0 ≤ m) (m40:m ≤ 40) (h:levR m n L = some (l,k)):l.length = n ∧ (∀ x ∈ l,x < 64) ∧ 0 < k ∧ k ≤ L.length:=by
 unfold levR at h
 split at h
 ·cases h
 ·rename_i t k' hT
  split at h
  ·cases h
  ·rename_i l' j hR
   split at h
   ·simp only [Option.some.injEq,Prod.mk.injEq] at h
    obtain ⟨rfl,rfl⟩:=h
    have h1:=readR_len2 (lwd m) n n t l' j rfl hR
    have h2:=readR_lt2 (lwd m) n n t l' j rfl hR
    have h3:2 ^ lwd m ≤ 2 ^ 6:=Nat.pow_le_pow_right (by decide) (lwd_le m0 m40)
    obtain ⟨e1,e2,_,e3⟩:=readT_inv hT
    refine ⟨h1,fun x hx=>?_,?_,e3⟩
    ·have:=h2 x hx;omega
    ·rw [e2];unfold textOf;rw [List.length_append];have:=seven_pos t.length;omega
   ·cases h
theorem ints_fits {l:List Nat} (h:l.length ≤ maxLen) (hx:∀ x ∈ l,x < 64):Fits (ints l):=by
 refine ⟨by rw [ints,List.length_map];exact h,fun x hx'=>?_⟩
 obtain ⟨y,hy,rfl⟩:=List.mem_map.1 hx'
 have:=hx y hy
 omega
theorem readDi_ok {kind:Int} (h1:1 ≤ kind) (h5:kind ≤ 5) {s:List UInt8} {n:Nat} {l:List Val} (h:readDi kind s n = some l):l.length = n ∧ ∀ x ∈ l,x.Ok:=by
 unfold readDi at h
 split at h
 ·cases h
 ·split at h
  ·cases h
  ·split at h
   ·cases h
   ·split at h
    ·cases h
    ·rename_i us hus
     split at h
     ·cases h
     ·rename_i ps k hps
      split at h
      ·rename_i hc
       simp only [Option.some.injEq] at h
       subst h
       refine ⟨by rw [List.length_map];exact readR_len2 _ n n _ _ _ rfl hps,fun x hx=>?_⟩
       obtain ⟨p,hp,rfl⟩:=List.mem_map.1 hx
       have hlt:=hc.2.1 p hp
       rw [List.getD_eq_getElem?_getD,List.getElem?_eq_getElem hlt]
       exact (readP_inv h1 h5 hus).2.2.1 _ (List.getElem_mem hlt)
      ·cases h
theorem bestR_ok {kind code:Int} {s:List UInt8} {n:Nat} {l:List Val} (h1:1 ≤ kind) (h5:kind ≤ 5) (h:bestR kind code s n = some l):l.length = n ∧ ∀ x ∈ l,x.Ok:=by
 unfold bestR at h
 split at h
 ·obtain ⟨-,a,b,-⟩:=readP_inv h1 h5 h
  exact ⟨a,b⟩
 ·split at h
  ·exact readDi_ok h1 h5 h
  ·split at h
   ·rename_i hc
    obtain ⟨-,a,b,-⟩:=readD_inv hc.2 h
    exact ⟨a,b⟩
   ·split at h
    ·cases hx:readX s n with
     | none=>rw [hx] at h;cases h
     | some L =>
      rw [hx] at h
      obtain ⟨-,a,b⟩:=readX_inv hx
      simp only [Option.map_some,Option.some.injEq] at h
      subst h
      refine ⟨by unfold textsV;rw [List.length_map];exact a,fun x hx=>?_⟩
      obtain ⟨t,ht,rfl⟩:=List.mem_map.1 hx
      exact (text_ok t (b t ht)).1
    ·cases h
def pageR (f:Lf) (L:List UInt8):Nat ⊕ (Col × Nat):=if rightB f = false then .inl 3 else match bodyR L with
 | .text=>.inl 1
 | .sum=>.inl 7
 | .ok b u=>match colR f b with
  | none=>.inl 1
  | some c=>.inr (c,u)
def peekR (f:Lf) (L:List UInt8):Nat ⊕ (St × Nat):=if rightB f = false then .inl 3 else match bodyR L with
 | .text=>.inl 1
 | .sum=>.inl 7
 | .ok b u=>match readPr b with
  | none=>.inl 1
  | some (t,_)=>if t.e = 0 ∨ (t.has = true ∧ t.lo.k ≠ f.kind) then .inl 1 else .inr (t,u)
theorem pageR_3 {f:Lf} {L:List UInt8} (h:rightB f = false):pageR f L = .inl 3:=by unfold pageR;rw [if_pos h]
theorem pageR_t {f:Lf} {L:List UInt8} (h:rightB f = true) (hb:bodyR L = .text):pageR f L = .inl 1:=by unfold pageR;rw [if_neg (by rw [h];decide),hb]
theorem pageR_s {f:Lf} {L:List UInt8} (h:rightB f = true) (hb:bodyR L = .sum):pageR f L = .inl 7:=by unfold pageR;rw [if_neg (by rw [h];decide),hb]
theorem pageR_n {f:Lf} {L b:List UInt8} {u:Nat} (h:rightB f = true) (hb:bodyR L = .ok b u) (hc:colR f b = none):pageR f L = .inl 1:=by unfold pageR;rw [if_neg (by rw [h];decide),hb];simp only;rw [hc]
theorem pageR_ok {f:Lf} {L b:List UInt8} {u:Nat} {c:Col} (h:rightB f = true) (hb:bodyR L = .ok b u) (hc:colR f b = some c):pageR f L = .inr (c,u):=by unfold pageR;rw [if_neg (by rw [h];decide),hb];simp only;rw [hc]
theorem colR_1 {f:Lf} {b:List UInt8} (h:readPr b = none):colR f b = none:=by unfold colR;rw [h]
theorem colR_2 {f:Lf} {b:List UInt8} {t:St} {k:Nat} (h:readPr b = some (t,k)) (h0:t.e = 0):colR f b = none:=by unfold colR;rw [h];simp only;rw [if_pos h0]
theorem colR_3 {f:Lf} {b:List UInt8} {t:St} {k:Nat} (h:readPr b = some (t,k)) (h0:¬ t.e = 0) (h1:levR f.mr t.e.toNat (b.drop k) = none):colR f b = none:=by unfold colR;rw [h];simp only;rw [if_neg h0,h1]
theorem colR_4 {f:Lf} {b:List UInt8} {t:St} {k k1:Nat} {rep:List Nat} (h:readPr b = some (t,k)) (h0:¬ t.e = 0) (h1:levR f.mr t.e.toNat (b.drop k) = some (rep,k1)) (h2:levR f.md t.e.toNat ((b.drop k).drop k1) = none):colR f b = none:=by
 unfold colR;rw [h];simp only;rw [if_neg h0,h1];simp only;rw [h2]
theorem colR_5 {f:Lf} {b:List UInt8} {t:St} {k k1 k2:Nat} {rep df:List Nat} (h:readPr b = some (t,k)) (h0:¬ t.e = 0) (h1:levR f.mr t.e.toNat (b.drop k) = some (rep,k1)) (h2:levR f.md t.e.toNat ((b.drop k).drop k1) = some (df,k2)):colR f b = valsR f t rep df ((b.drop k).drop (k1 + k2)):=by
 unfold colR;rw [h];simp only;rw [if_neg h0,h1];simp only;rw [h2];simp only;rw [List.drop_drop]
theorem valsR_0 {f:Lf} {t:St} {rep df:List Nat} {r:List UInt8} (h:r = []):valsR f t rep df r = none:=by rw [h];rfl
theorem valsR_1 {f:Lf} {t:St} {rep df:List Nat} {r r':List UInt8} {c:UInt8} (h:r = c :: r') (h1:readT r' = none):valsR f t rep df r = none:=by rw [h];unfold valsR;simp only;rw [h1]
theorem valsR_2 {f:Lf} {t:St} {rep df:List Nat} {r r' v:List UInt8} {c:UInt8} {x:Nat} (h:r = c :: r') (h1:readT r' = some (v,x)) (h2:x ≠ r'.length):valsR f t rep df r = none:=by rw [h];unfold valsR;simp only;rw [h1];simp only;rw [if_pos h2]
theorem valsR_3 {f:Lf} {t:St} {rep df:List Nat} {r r' v:List UInt8} {c:UInt8} {x:Nat} (h:r = c :: r') (h1:readT r' = some (v,x)) (h2:¬ x ≠ r'.length) (h3:bestR f.kind (c.toNat:Nat) v (t.e - t.n).toNat = none):valsR f t rep df r = none:=by
 rw [h];unfold valsR;simp only;rw [h1];simp only;rw [if_neg h2,h3]
theorem valsR_4 {f:Lf} {t:St} {rep df:List Nat} {r r' v:List UInt8} {c:UInt8} {x:Nat} {l:List Val} (h:r = c :: r') (h1:readT r' = some (v,x)) (h2:¬ x ≠ r'.length) (h3:bestR f.kind (c.toNat:Nat) v (t.e - t.n).toNat = some l) :
  valsR f t rep df r = if (colErr f ⟨f.id,ints rep,ints df,l⟩ true).isNil = true ∧ stEq (knownSt ⟨f.id,ints rep,ints df,l⟩) t = true then some ⟨f.id,ints rep,ints df,l⟩ else none:=by
 rw [h];unfold valsR;simp only;rw [h1];simp only;rw [if_neg h2,h3]
end Go.Proofs.YtapiabmmfmfaeaaGreatDoor
