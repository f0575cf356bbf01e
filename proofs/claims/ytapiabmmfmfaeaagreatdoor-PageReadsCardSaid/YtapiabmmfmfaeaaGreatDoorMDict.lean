/- Merged texts: Dict1, DictW1, EncL7. -/
import Derived.Test.YtapiabmmfmfaeaaGreatDoorMEnc
import Derived.Test.YtapiabmmfmfaeaaGreatDoorMPlain
import Derived.Test.YtapiabmmfmfaeaaGreatDoorMBits
import Derived.DeepKeys4
import Derived.Maps.OwnOps
import Derived.Maps.OwnSet
import Derived.Maps.Views
import Derived.Test.YtapiabmmfmfaeaaGreatDoorMRuns
import Derived.Test.YtapiabmmfmfaeaaGreatDoorMRef
import Derived.Test.YtapiabmmfmfaeaaGreatDoorMReads
import Derived.Test.YtapiabmmfmfaeaaGreatDoorMErr
/- Chapter 3 in plain Lean: unlike values and their places. -/
namespace Go.Proofs.YtapiabmmfmfaeaaGreatDoor
set_option maxHeartbeats 4000000
set_option linter.unusedVariables false
open Go Go.RowKit
def posV (v:Val):List Val → Nat
 | []=>0
 | x :: l=>if valEq x v then 0 else posV v l + 1
theorem posV_le (v:Val):∀ l,posV v l ≤ l.length
 | []=>Nat.le_refl _
 | x :: l=>by
  have:=posV_le v l
  unfold posV
  split <;> simp <;> omega
theorem posV_at (v:Val):∀ l,posV v l < l.length → l[posV v l]? = some v
 | [],h=>by simp [posV] at h
 | x :: l,h=>by
  unfold posV at h ⊢
  by_cases hx:valEq x v = true
  ·rw [if_pos hx]
   obtain rfl:=(valEq_iff x v).1 hx
   rfl
  ·rw [if_neg hx] at h ⊢
   simpa using posV_at v l (by simpa using h)
theorem posV_before (v:Val):∀ l (j:Nat) (x:Val),j < posV v l → l[j]? = some x → valEq x v = false
 | [],j,x,h,_=>by simp [posV] at h
 | y :: l,j,x,h,hj=>by
  unfold posV at h
  by_cases hx:valEq y v = true
  ·rw [if_pos hx] at h;omega
  ·rw [if_neg hx] at h
   cases j with
   | zero=>simp at hj;subst hj;simpa using hx
   | succ j=>exact posV_before v l j x (by omega) (by simpa using hj)
theorem posV_snoc (v x:Val):∀ l,posV v (l ++ [x]) = if posV v l < l.length then posV v l else if valEq x v then l.length else l.length + 1
 | []=>by simp [posV]
 | y :: l=>by
  have ih:=posV_snoc v x l
  rw [List.cons_append]
  unfold posV
  by_cases hy:valEq y v = true
  ·rw [if_pos hy,if_pos hy,if_pos (by simp)]
  ·rw [if_neg hy,if_neg hy,ih]
   simp only [List.length_cons,Nat.add_lt_add_iff_right]
   split
   ·rfl
   ·split <;> rfl
def addV (us:List Val) (v:Val):List Val:=if posV v us < us.length then us else us ++ [v]
def unlikeV:List Val → List Val → List Val
 | us,[]=>us
 | us,v :: l=>unlikeV (addV us v) l
def placesV:List Val → List Val → List Nat
 | _,[]=>[]
 | us,v :: l=>posV v us :: placesV (addV us v) l
theorem unlikeV_snoc (v:Val):∀ (l us:List Val),unlikeV us (l ++ [v]) = addV (unlikeV us l) v
 | [],us=>rfl
 | a :: l,us=>by rw [List.cons_append,unlikeV,unlikeV_snoc v l,unlikeV]
theorem placesV_snoc (v:Val):∀ (l us:List Val),placesV us (l ++ [v]) = placesV us l ++ [posV v (unlikeV us l)]
 | [],us=>rfl
 | a :: l,us=>by rw [List.cons_append,placesV,placesV_snoc v l,placesV,unlikeV,List.cons_append]
theorem placesV_len:∀ (l us:List Val),(placesV us l).length = l.length
 | [],_=>rfl
 | a :: l,us=>by rw [placesV,List.length_cons,placesV_len l,List.length_cons]
theorem addV_len (us:List Val) (v:Val):us.length ≤ (addV us v).length ∧ (addV us v).length ≤ us.length + 1:=by
 unfold addV
 split <;> simp
theorem unlikeV_len:∀ (l us:List Val),us.length ≤ (unlikeV us l).length ∧ (unlikeV us l).length ≤ us.length + l.length
 | [],us=>by simp [unlikeV]
 | a :: l,us=>by
  have h1:=addV_len us a
  have h2:=unlikeV_len l (addV us a)
  rw [unlikeV,List.length_cons]
  omega
theorem posV_add (us:List Val) (v:Val):posV v us < (addV us v).length:=by
 have:=posV_le v us
 unfold addV
 split
 ·assumption
 ·simp;omega
theorem placesV_lt:∀ (l us:List Val),∀ p ∈ placesV us l,p < (unlikeV us l).length
 | [],_,p,h=>by cases h
 | a :: l,us,p,h=>by
  rw [placesV] at h
  rw [unlikeV]
  rcases List.mem_cons.1 h with rfl | h
  ·exact Nat.lt_of_lt_of_le (posV_add us a) (unlikeV_len l _).1
  ·exact placesV_lt l _ p h
theorem addV_mem (us:List Val) (v x:Val) (h:x ∈ addV us v):x ∈ us ∨ x = v:=by
 unfold addV at h
 split at h
 ·exact .inl h
 ·simpa using h
theorem unlikeV_mem:∀ (l us:List Val),∀ x ∈ unlikeV us l,x ∈ us ∨ x ∈ l
 | [],us,x,h=>.inl h
 | a :: l,us,x,h=>by
  rcases unlikeV_mem l _ x h with h | h
  ·rcases addV_mem us a x h with h | rfl
   ·exact .inl h
   ·exact .inr (by simp)
  ·exact .inr (by simp [h])
def placeW (n:Nat):Nat:=Lib.bitLen (n - 1)
def dictB (kind:Int) (l:List Val):List UInt8 :=
 seven (unlikeV [] l).length ++ textOf (plainB kind (unlikeV [] l)) ++ runsB (placeW (unlikeV [] l).length) (placesV [] l) []
/-! ### values as keys of a map -/
theorem wf64 {n:Int} (h0:-9223372036854775808 ≤ n) (h1:n < 9223372036854775808):(Lit.int .i64 n).wf = true:=by
 have e1:IntKind.i64.min = -9223372036854775808:=rfl
 have e2:IntKind.i64.max = 9223372036854775807:=rfl
 simp only [Lit.wf,e1,e2,Bool.and_eq_true,decide_eq_true_eq]
 omega
theorem key_law:Maps.Keyed Tryz.prog 41:=Maps.Keyed.of_law (deep_law_laid (by kernel_rfl) (m:=2) (by omega) (by decide +kernel) (by kernel_rfl) (by kernel_rfl))
theorem key_some (x:Val) (h:x.Ok):∃ kl,Go.keyOf Tryz.prog 41 (.agg (valA x)) = some kl:=by
 obtain ⟨m,hm⟩:∃ m,Tryz.prog.types.size = m + 1:=⟨Tryz.prog.types.size - 1,by kernel_rfl⟩
 have hk:Tryz.prog.keyType 41 = true:=by kernel_rfl
 have hc:Tryz.prog.cellsOf 41 = 3:=by kernel_rfl
 have c1:Tryz.prog.cellsOf 3 = 1:=by kernel_rfl
 have c2:Tryz.prog.cellsOf 2 = 1:=by kernel_rfl
 have c3:Tryz.prog.cellsOf 9 = 1:=by kernel_rfl
 have u0:=Tryz.underlying41
 have u1:=Tryz.underlying3
 have u2:=Tryz.underlying2
 have u3:=Tryz.underlying9
 have w1:=wf64 h.k0 h.k1
 have w2:=wf64 h.n0 h.n1
 have w3:=h.s1
 unfold Go.keyOf valA
 rw [u0,hk,hm]
 simp [Value.formed,u0,hc,Program.keyLits,Value.cells,c1,c2,c3,u1,u2,u3,w1,w2,w3]
def MapOf (us:List Val) (D:DataW Unit):Prop :=
 Maps.IsMap D ∧ ∀ (x:Val) (kl:Lit),x.Ok → Go.keyOf Tryz.prog 41 (.agg (valA x)) = some kl →
  Maps.has D kl = decide (posV x us < us.length) ∧ (posV x us < us.length → ∀ z,D.atKey kl z = .lit (.int .i64 (posV x us:Nat)))
theorem MapOf.empty:MapOf [] (.map []):=⟨Maps.isMap_empty,fun x kl _ _=>⟨rfl,fun h=>by simp at h⟩⟩
theorem MapOf.add {us:List Val} {D:DataW Unit} {v:Val} {kv:Lit} (h:MapOf us D) (hv:v.Ok) (hk:Go.keyOf Tryz.prog 41 (.agg (valA v)) = some kv) (hn:posV v us = us.length) :
  MapOf (us ++ [v]) (D.put kv (.lit (.int .i64 (us.length:Nat)))):=by
 refine ⟨h.1.put _ _,fun x kl hx hkl=>?_⟩
 have hlen:(us ++ [v]).length = us.length + 1:=by simp
 rw [posV_snoc,hlen]
 by_cases hxv:x = v
 ·subst hxv
  obtain rfl:kl = kv:=Option.some.inj (hkl.symm.trans hk)
  rw [if_neg (by omega),if_pos ((valEq_iff x x).2 rfl)]
  refine ⟨?_,fun _ z=>Maps.atKey_put_same h.1 (key_law.key hk) _ _⟩
  rw [Maps.has_put_same h.1 (key_law.key hk)]
  simp
 ·have hne:kl ≠ kv:=fun e=>hxv (by
   subst e
   have:=key_law.inj hkl hk
   obtain ⟨a,b,c⟩:=x
   obtain ⟨a',b',c'⟩:=v
   simp only [valA,Value.agg.injEq] at this
   simpa using this)
  have hvx:valEq v x = false:=by
   cases hh:valEq v x with
   | false=>rfl
   | true=>exact absurd ((valEq_iff v x).1 hh).symm hxv
  obtain ⟨h1,h2⟩:=h.2 x kl hx hkl
  rw [hvx,Maps.has_put_other hne,h1]
  have hle:=posV_le x us
  by_cases hm:posV x us < us.length
  ·rw [if_pos hm]
   refine ⟨by simp [hm];omega,fun _ z=>?_⟩
   rw [Maps.atKey_put_other hne]
   exact h2 hm z
  ·rw [if_neg hm]
   refine ⟨by simp;omega,fun hh=>?_⟩
   simp at hh
end Go.Proofs.YtapiabmmfmfaeaaGreatDoor
/- The walks of enc.unlike and the document's UnlikeOf. -/
namespace Go.Proofs.YtapiabmmfmfaeaaGreatDoor
set_option maxHeartbeats 4000000
set_option linter.unusedVariables false
open Go Go.RowKit Go.ChangeShapes
theorem own_ne' {w:World} {B B' s s':Nat} {e e':TypeId} {v v':Value} {n n':Nat} {xs xs':List Value} (h:w.ownsRow B e s v n xs) (h':w.ownsRow B' e' s' v' n' xs') (he:e ≠ e'):v.ownBlock = none ∨ v.ownBlock ≠ v'.ownBlock:=by
 rcases h'.2 with ⟨rfl,_⟩ | ⟨g',cap',cur',rfl,_,hg',_⟩
 ·cases hv:v.ownBlock with
  | none=>exact .inl rfl
  | some b=>right;simp [Value.ownBlock]
 ·rcases h.2 with ⟨rfl,_⟩ | ⟨g,cap,cur,rfl,_,hg,_⟩
  ·exact .inl rfl
  ·right
   intro hh
   simp only [Value.ownBlock,Option.some.injEq] at hh
   subst hh
   rw [hg] at hg'
   injection hg' with hg'
   injection hg' with _ h2 _
   exact he h2
theorem wpList_pushV {wr:World} {ops:Array Oper} {rest:List Oper} {o:Oper} {a:Act} {Q:Exit → Act → World → Prop} (hg:o.guard = none) (s x:Operand)
  (ho:o.op = .call { callee:=.builtin .append,args:=#[s,x],argTypes:=#[27,27] })
  (base:Nat) (v:Value) (l:List Val) (hs:a.eval s = v) (hown:wr.ownsRow base 41 3 v l.length (l.flatMap valCells)) (e':TypeId) (g:Nat) (hx:a.eval x = .slice (some ⟨g,0,none⟩) 1 1) (hgs:g = wr.heap.size)
  (hl:l.length ≤ 20000) (hbase:base ≤ wr.heap.size) (y:Val)
  (h:∀ v' w',w'.ownsRow base 41 3 v' (l ++ [y]).length ((l ++ [y]).flatMap valCells) → (wr.alloc (.cells (valA y) e')).grownBy w' v.ownBlock → Below base wr w' → wpList Tryz.prog ops Q rest (a.put o.dst v') w') :
  wpList Tryz.prog ops Q (o :: rest) a (wr.alloc (.cells (valA y) e')):=by
 subst hgs
 obtain ⟨i0,hi,hz0,hz1,hz2⟩:=val_infoB
 refine wpList_append_own _ hg s x _ ho base 41 i0 _ 3 32 Tryz.underlying27 hi hz0 hz1 hz2 rfl (by omega) v l.length (l.flatMap valCells) hs (hown.alloc _) ⟨wr.heap.size,0,none⟩ 1 1 (valCells y) hx rfl ?_ ?_ (by unfold maxLen;omega) (by omega) (by simp;omega) ?_
 ·intro j u hj
  rw [Go.WideShapes.add_plain,World.cell?_alloc_at _ _ _ _ rfl,Nat.zero_add]
  match j,hj with
  | 0,hj=>simp [valCells] at hj;subst hj;rfl
  | 1,hj=>simp [valCells] at hj;subst hj;rfl
  | 2,hj=>simp [valCells] at hj;subst hj;rfl
  | j + 3,hj=>simp [valCells] at hj
 ·intro u hu
  simp only [valCells,List.mem_cons,List.not_mem_nil,or_false] at hu
  rcases hu with rfl | rfl | rfl <;> rfl
 ·intro v' w' h1 h2 h3
  refine h v' w' (by simpa using h1) h2 ?_
  exact (((Below.refl base wr).alloc hbase _).grown h2 (by simp;omega) (fun k hk=>(hown.lt k hk).1))
theorem wpList_pushN {wr:World} {ops:Array Oper} {rest:List Oper} {o:Oper} {a:Act} {Q:Exit → Act → World → Prop} (hg:o.guard = none) (s x:Operand)
  (ho:o.op = .call { callee:=.builtin .append,args:=#[s,x],argTypes:=#[22,22] })
  (base:Nat) (v:Value) (l:List Nat) (hs:a.eval s = v) (hown:wr.ownsRow base 3 1 v l.length (l.map natV)) (e':TypeId) (c:Value) (g:Nat) (hx:a.eval x = .slice (some ⟨g,0,none⟩) 1 1) (hgs:g = wr.heap.size)
  (hl:l.length ≤ 20000) (hbase:base ≤ wr.heap.size) (y:Nat) (hc:c = natV y)
  (h:∀ v' w',w'.ownsRow base 3 1 v' (l ++ [y]).length ((l ++ [y]).map natV) → (wr.alloc (.cells #[c] e')).grownBy w' v.ownBlock → Below base wr w' → wpList Tryz.prog ops Q rest (a.put o.dst v') w') :
  wpList Tryz.prog ops Q (o :: rest) a (wr.alloc (.cells #[c] e')):=by
 subst hc hgs
 obtain ⟨i0,hi,hz0,hz1,hz2⟩:=info_parts info_int
 refine wpList_append_own _ hg s x _ ho base 3 i0 _ 1 8 Tryz.underlying22 hi hz0 hz1 hz2 rfl (by omega) v l.length (l.map natV) hs (hown.alloc _) ⟨wr.heap.size,0,none⟩ 1 1 [natV y] hx rfl ?_ ?_ (by unfold maxLen;omega) (by omega) (by simp;omega) ?_
 ·intro j u hj
  rw [Go.WideShapes.add_plain,World.cell?_alloc_at _ _ _ _ rfl,Nat.zero_add]
  match j,hj with
  | 0,hj=>simp at hj;subst hj;rfl
  | j + 1,hj=>simp at hj
 ·intro u hu
  simp only [List.mem_cons,List.not_mem_nil,or_false] at hu
  subst hu;rfl
 ·intro v' w' h1 h2 h3
  refine h v' w' (by simpa using h1) h2 ?_
  exact (((Below.refl base wr).alloc hbase _).grown h2 (by simp;omega) (fun k hk=>(hown.lt k hk).1))
theorem lit_nat {c:Int} {n:Nat} (h:(DataW.lit (.int .i64 c):DataW Unit) = .lit (.int .i64 (n:Nat))):Value.int .i64 c = natV n:=by
 injection h with h
 injection h with _ h
 rw [h];rfl
theorem own_past {w w':World} {B B2 s s2:Nat} {e e2:TypeId} {v v2:Value} {n n2:Nat} {xs xs2:List Value} {o:Obj} (h:w.ownsRow B e s v n xs) (hg:(w.alloc o).grownBy w' v.ownBlock) (h2:w.ownsRow B2 e2 s2 v2 n2 xs2) (he:e2 ≠ e):w'.ownsRow B2 e2 s2 v2 n2 xs2 :=
 (h2.alloc o).kept hg (own_ne' h2 h he)
theorem map_past {w w':World} {B s b n:Nat} {e:TypeId} {v:Value} {m:Nat} {xs:List Value} {o:Obj} {k:TypeId} {R:Value → Option (DataW Unit × List MemPlace)} {D:DataW Unit} (h:w.ownsRow B e s v m xs) (hg:(w.alloc o).grownBy w' v.ownBlock) (hm:w.ownsMap Tryz.prog k R b n D) (hb:b < B):w'.ownsMap Tryz.prog k R b n D :=
 (hm.alloc o).kept hg (fun hh=>by
  have:=(h.lt b hh.symm).1
  omega)
set_option maxRecDepth 100000 in
theorem unlike_any (v : Value) (l : List Val) (w : World) (hI : IsVals w v l) (hl : l.length ≤ 20000) (hO : ∀ x ∈ l, x.Ok) :
    Calls Tryz.prog 79 #[v] w fun e w' => (∃ vs ps, e = .returned (.tuple #[vs, ps]) ∧ w'.ownsRow (w.heap.size + 1) 41 3 vs (unlikeV [] l).length ((unlikeV [] l).flatMap valCells) ∧ w'.ownsRow (w.heap.size + 1) 3 1 ps (placesV [] l).length ((placesV [] l).map natV)) ∧ Below w.heap.size w w' := by
  obtain ⟨iv, hiv, hzv, hsv⟩ := val_info
  have hsz : (Tryz.prog.info? 41).map (·.size) = some (valA ⟨0, 0, ⟨#[]⟩⟩).size := by rw [hiv]; simp [hsv, valA]
  obtain ⟨ii, hii, hi0, hi1, hi2⟩ := info_parts info_int
  have hze : ∀ w, (zeroValue 3).run Tryz.prog w = .ok (.int .i64 0) w := fun w => by kernel_rfl
  have hmm := @run_makeMap Tryz.prog
  have HI := Lib.hid hI; have HO := Lib.hid hO
  have HM0 := Lib.hid (World.ownsMap_made w Tryz.prog 41 (plainElem (H := Unit) Tryz.prog 3))
  obtain ⟨ad, cap, rfl⟩ := hI.form
  clear hI hO
  go_enter Tryz.func79, Tryz.ntmps79
  go_wp2_with fail
  go_loopw [2, 3, 12] (fun us ps i wr => ∃ (k : Nat) (D : DataW Unit), k ≤ l.length ∧ i = .int .i64 (k : Nat) ∧ wr.ownsRow (w.heap.size + 1) 41 3 us (unlikeV [] (l.take k)).length ((unlikeV [] (l.take k)).flatMap valCells) ∧
      wr.ownsRow (w.heap.size + 1) 3 1 ps (placesV [] (l.take k)).length ((placesV [] (l.take k)).map natV) ∧ wr.ownsMap Tryz.prog 41 (plainElem Tryz.prog 3) w.heap.size k D ∧ MapOf (unlikeV [] (l.take k)) D ∧ Below w.heap.size w wr ∧ w.heap.size + 1 ≤ wr.heap.size) (fun _ _ i _ => l.length - (intOf i).toNat)
  case atStart => exact ⟨0, .map [], Nat.zero_le _, rfl, World.ownsRow_nil _ _ _ _, World.ownsRow_nil _ _ _ _, HM0.out, MapOf.empty, (Below.refl _ _).alloc (Nat.le_refl _) _, by simp⟩
  case round =>
    obtain ⟨k, D, hk, rfl, hus, hps, hmp, hD, hb, hbs⟩ := hrel
    have Hus := Lib.hid hus; have Hps := Lib.hid hps; have Hmp := Lib.hid hmp; have HD := Lib.hid hD; have Hb := Lib.hid hb
    clear hus hps hmp hD hb
    by_cases hlt : k < l.length
    · obtain ⟨b0, off, rfl, hq, hlt0, hc⟩ := (HI.out.below Hb.out (Nat.le_refl _)).at (by omega)
      have hcx := hc k l[k] (List.getElem?_eq_getElem hlt)
      have hox := HO.out l[k] (List.getElem_mem hlt)
      have hu1 : unlikeV [] (l.take (k + 1)) = addV (unlikeV [] (l.take k)) l[k] := by rw [List.take_succ_eq_append_getElem hlt, unlikeV_snoc]
      have hp1 : placesV [] (l.take (k + 1)) = placesV [] (l.take k) ++ [posV l[k] (unlikeV [] (l.take k))] := by rw [List.take_succ_eq_append_getElem hlt, placesV_snoc]
      have hul := (unlikeV_len (l.take k) []).2
      have hpl := placesV_len (l.take k) []
      rw [List.length_take, Nat.min_eq_left hk] at hpl
      rw [List.length_take, Nat.min_eq_left hk, List.length_nil, Nat.zero_add] at hul
      generalize l[k] = x at *
      obtain ⟨kl, hkl⟩ := key_some x hox
      obtain ⟨hhas, hat⟩ := HD.out.2 x kl hox hkl
      have hpx := posV_le x (unlikeV [] (l.take k))
      have Hcx := Lib.hid hcx.cells
      have HU1 := Lib.hid hu1; have HP1 := Lib.hid hp1; have Hat := Lib.hid hat; have Hkl := Lib.hid hkl
      have hin : (k : Int) < (l.length : Int) := by omega
      have h63 : (placesV [] (l.take k)).length + 1 ≤ maxLen := by rw [hpl]; unfold maxLen; omega
      have h64 : ((placesV [] (l.take k)).length + 1) * 8 ≤ 140737488355328 := by rw [hpl]; omega
      clear hq hc hcx hu1 hp1 hat hkl
      generalize unlikeV [] (l.take k) = u at *
      generalize placesV [] (l.take k) = pp at *
      have hpl2 : pp.length ≤ 20000 := by omega
      have hul2 : u.length ≤ 20000 := by omega
      have hbs1 : w.heap.size + 1 ≤ (wr.alloc (.cells (valA x) 41)).heap.size := by simp; omega
      have HB1 := Lib.hid hbs1
      have HG1 := Lib.hid (show wr.heap.size + 1 = (wr.alloc (.cells (valA x) 41)).heap.size by simp)
      clear hbs1
      by_cases hf : posV x u < u.length
      · have Hadd := Lib.hid (show addV u x = u from if_pos hf)
        rw [decide_eq_true hf] at hhas
        have Hf := Lib.hid hf
        clear hf hpl
        go_wp2_with (first
          | (refine wpList_load_cells rfl 41 _ rfl b0 (off + k * 3) rfl (valA x) _ Hcx.out Tryz.underlying41 rfl hsz ?_)
          | (refine wpList_alloc_row rfl 41 rfl iv _ _ hiv hzv rfl ?_)
          | (refine wpList_store_new rfl rfl 41 _ _ rfl rfl _ (valA x) rfl hsz rfl (valA_one x) ?_)
          | (refine wpList_load_row rfl 41 _ rfl wr.heap.size rfl 41 (valA x) (0, 0) _ (heap_alloc_last _ _) Tryz.underlying41 rfl hsz ?_)
          | (at_lookup; refine wpList_lookup_own_ok_int _ rfl _ _ 182 rfl 41 3 .i64 key_law Tryz.underlying182 Tryz.underlying3 (hze _) w.heap.size k D rfl (Hmp.out.alloc _) (.agg (valA x)) kl rfl Hkl.out ?_; intro c hat2 hwc; have hc2 := hat2.symm.trans (Hat.out Hf.out _); have Hc := Lib.hid hc2; clear hat2 hc2)
          | (at_builtin; refine wpList_pushN rfl _ _ rfl (w.heap.size + 1) _ pp rfl (Hps.out.alloc _) _ _ _ rfl HG1.out hpl2 HB1.out (posV x u) (lit_nat Hc.out) ?_; intro v' w1 hown1 hgrow1 hb1
             have Ho1 := Lib.hid hown1; have Hv1 := Lib.hid (own_past (Hps.out.alloc _) hgrow1 (Hus.out.alloc _) (by decide)); have Hm1 := Lib.hid ((map_past (Hps.out.alloc _) hgrow1 (Hmp.out.alloc _) (by omega)).mono (Nat.le_succ k)); have hbz : w.heap.size + 1 ≤ w1.heap.size := (by have := hb1.size; simp at this; omega); have Hb1 := Lib.hid ((Hb.out.alloc Hb.out.size _).trans (hb1.mono (Nat.le_succ _))); clear hown1 hgrow1 hb1))
        go_roundw
        case rel => exact ⟨k + 1, D, by omega, by go_num, by rw [HU1.out, Hadd.out]; exact Hv1.out, by rw [HP1.out]; exact Ho1.out, Hm1.out, by rw [HU1.out, Hadd.out]; exact HD.out, Hb1.out, hbz⟩
        case measure => simp [intOf]; omega
      · have hpu : posV x u = u.length := by omega
        have Hadd := Lib.hid (show addV u x = u ++ [x] from if_neg hf)
        rw [decide_eq_false hf] at hhas
        have HD2 := Lib.hid (HD.out.add hox Hkl.out hpu)
        rw [hpu] at HP1
        obtain ⟨adU, capU, hU⟩ := (IsVals.of_own Hus.out).form
        subst hU
        have hwf : (Lit.int .i64 ((u.length : Nat) : Int)).wf = true := wf64 (by omega) (by omega)
        have Hwf := Lib.hid hwf
        have hkm : k < maxLen := by unfold maxLen; omega
        have hvs : (valA x).size = 3 := rfl
        clear hf hpl hpu hwf
        go_wp2_with (first
          | (refine wpList_load_cells rfl 41 _ rfl b0 (off + k * 3) rfl (valA x) _ Hcx.out Tryz.underlying41 rfl hsz ?_)
          | (refine wpList_alloc_row rfl 41 rfl iv _ _ hiv hzv rfl ?_)
          | (refine wpList_store_new rfl rfl 41 _ _ rfl rfl _ (valA x) rfl hsz rfl (valA_one x) ?_)
          | (refine wpList_load_row rfl 41 _ rfl wr.heap.size rfl 41 (valA x) (0, 0) _ (heap_alloc_last _ _) Tryz.underlying41 rfl hsz ?_)
          | (refine wpList_load_row rfl 41 _ rfl wr.heap.size rfl 41 (valA x) (0, 0) _ HB4.out Tryz.underlying41 rfl hsz ?_)
          | (at_lookup; refine wpList_lookup_own_ok_int _ rfl _ _ 182 rfl 41 3 .i64 key_law Tryz.underlying182 Tryz.underlying3 (hze _) w.heap.size k D rfl (Hmp.out.alloc _) (.agg (valA x)) kl rfl Hkl.out ?_; intro c hat2 hwc; clear hat2)
          | (at_mapUpdate; refine wpList_mapUpdate_own _ rfl _ _ _ 182 rfl 41 3 key_law Tryz.underlying182 _ w.heap.size k D rfl (Hmp.out.alloc _) hkm (.agg (valA x)) _ kl rfl rfl Hkl.out _ [] (plainElem_int Tryz.underlying3 Hwf.out) ?_; intro w4 hownM hgrowM
             have HM4 := Lib.hid hownM
             have HB4 := Lib.hid (show w4.heap[wr.heap.size]? = some (.cells (valA x) 41 (0, 0)) from (hgrowM.block wr.heap.size (by simp) (by simp; omega)).trans (heap_alloc_last _ _))
             have HV4 := Lib.hid ((Hus.out.alloc (.cells (valA x) 41)).kept hgrowM (.inr (fun hh => by have := (Hus.out.lt _ hh).1; omega)))
             have HP4 := Lib.hid ((Hps.out.alloc (.cells (valA x) 41)).kept hgrowM (.inr (fun hh => by have := (Hps.out.lt _ hh).1; omega)))
             have Hbw4 := Lib.hid ((Hb.out.alloc Hb.out.size (.cells (valA x) 41)).grown hgrowM (by simp; omega) (fun q hq => by injection hq with hq; omega))
             have hs4 : w.heap.size + 1 ≤ w4.heap.size := (by have := HM4.out.lt; have := (Array.getElem?_eq_some_iff.1 HB4.out).1; omega)
             clear hownM hgrowM)
          | (at_builtin; refine wpList_pushV rfl _ _ rfl (w.heap.size + 1) _ u rfl HV4.out _ _ rfl rfl hul2 hs4 x ?_; intro v5 w5 hown5 hgrow5 hb5
             have HV5 := Lib.hid hown5; have HP5 := Lib.hid (own_past HV4.out hgrow5 HP4.out (by decide)); have HM5 := Lib.hid (map_past HV4.out hgrow5 HM4.out (by omega)); have hs5 : w.heap.size + 1 ≤ w5.heap.size := Nat.le_trans hs4 hb5.size; have Hb5 := Lib.hid (Hbw4.out.trans (hb5.mono (Nat.le_succ _))); clear hown5 hgrow5 hb5)
          | (at_builtin; refine wpList_pushN rfl _ _ rfl (w.heap.size + 1) _ pp rfl HP5.out _ _ _ rfl rfl hpl2 hs5 u.length rfl ?_; intro v6 w6 hown6 hgrow6 hb6
             have HP6 := Lib.hid hown6; have HV6 := Lib.hid (own_past HP5.out hgrow6 HV5.out (by decide)); have HM6 := Lib.hid (map_past HP5.out hgrow6 HM5.out (by omega)); have hs6 : w.heap.size + 1 ≤ w6.heap.size := Nat.le_trans hs5 hb6.size; have Hb6 := Lib.hid (Hb5.out.trans (hb6.mono (Nat.le_succ _))); clear hown6 hgrow6 hb6))
        go_roundw
        case rel => exact ⟨k + 1, _, by omega, by go_num, by rw [HU1.out, Hadd.out]; exact HV6.out, by rw [HP1.out]; exact HP6.out, HM6.out, by rw [HU1.out, Hadd.out]; exact HD2.out, Hb6.out, hs6⟩
        case measure => simp [intOf]; omega
    · obtain rfl : k = l.length := by omega
      rw [List.take_length] at Hus Hps
      go_wp2_with fail
      go_ret2
      exact ⟨⟨_, _, rfl, Hus.out, Hps.out⟩, Hb.out⟩
theorem own_below' {w w':World} {B n s:Nat} {e:TypeId} {v:Value} {xs:List Value} (h:w.ownsRow B e s v n xs) (hb:Below w.heap.size w w'):w'.ownsRow B e s v n xs:=by
 refine ⟨h.1,?_⟩
 rcases h.2 with h0 | ⟨g,cap,cur,hv,h1,h2,h3⟩
 ·exact .inl h0
 ·exact .inr ⟨g,cap,cur,hv,h1,(hb.block g (Array.getElem?_eq_some_iff.1 h2).1).trans h2,h3⟩
theorem wpQuiet_loadG {P:Program} {ops:Array Oper} {C:World → Prop} {Q:Act → Prop} {rest:List Oper} {a:Act} {o:Oper} (hw:Region.wanted o (yielded ops a.tmps) = true) (ty:TypeId) (x:Operand) (ho:o.op = .load ty x)
  (ad:Addr) (hx:a.eval x = .pointer (some ad)) (v:Value) (h1:∀ w,C w → (loadVar ty ad).run P w = .ok v w) (h:wpQuiet P ops C Q rest (a.put o.dst v)):wpQuiet P ops C Q (o :: rest) a:=by
 unfold wpQuiet
 rw [if_pos hw]
 refine ⟨v,fun w hw=>?_,h⟩
 unfold Oper.quietAt
 simp [execOp,ho,hx,Instr.loadAt,Instr.sureAddr,h1 w hw,Oper.quietUpon,Result.andThen]
theorem wpQuiet_binG {P:Program} {ops:Array Oper} {C:World → Prop} {Q:Act → Prop} {rest:List Oper} {a:Act} {o:Oper} (hw:Region.wanted o (yielded ops a.tmps) = true) (b:BinOp) (t t':TypeId) (x y:Operand) (ho:o.op = .binOp b t x y t')
  (u v r:Value) (hx:a.eval x = u) (hy:a.eval y = v) (hgd:∀ w,(eqGuard b t x y u v).run P w = .ok () w) (h1:∀ w,(binOp b t u v).run P w = .ok r w) (h:wpQuiet P ops C Q rest (a.put o.dst r)):wpQuiet P ops C Q (o :: rest) a:=by
 unfold wpQuiet
 rw [if_pos hw]
 refine ⟨r,fun w hw=>?_,h⟩
 unfold Oper.quietAt
 simp [execOp,ho,hx,hy,hgd w,h1 w,Oper.quietUpon,Sem.run_bind,Result.andThen]
set_option maxRecDepth 100000 in
theorem unlikeOf_any (v : Value) (l : List Val) (w : World) (hI : IsVals w v l) (hl : l.length ≤ 20000) (hO : ∀ x ∈ l, x.Ok) :
    Calls Tryz.prog 87 #[v] w fun e w' => (∃ vs ps, e = .returned (.tuple #[vs, ps]) ∧ w'.ownsRow w.heap.size 41 3 vs (unlikeV [] l).length ((unlikeV [] l).flatMap valCells) ∧ w'.ownsRow w.heap.size 3 1 ps (placesV [] l).length ((placesV [] l).map natV)) ∧ Below w.heap.size w w' := by
  obtain ⟨iv, hiv, hzv, hsv⟩ := val_info
  have hsz : (Tryz.prog.info? 41).map (·.size) = some (valA ⟨0, 0, ⟨#[]⟩⟩).size := by rw [hiv]; simp [hsv, valA]
  have HI := Lib.hid hI; have HO := Lib.hid hO
  obtain ⟨ad, cap, rfl⟩ := hI.form
  clear hI hO
  go_enter Tryz.func87, Tryz.ntmps87
  go_wp2_with fail
  go_loopw [4, 5, 6] (fun us ps i wr => ∃ (k : Nat), k ≤ l.length ∧ i = .int .i64 (k : Nat) ∧ wr.ownsRow w.heap.size 41 3 us (unlikeV [] (l.take k)).length ((unlikeV [] (l.take k)).flatMap valCells) ∧
      wr.ownsRow w.heap.size 3 1 ps (placesV [] (l.take k)).length ((placesV [] (l.take k)).map natV) ∧ Below w.heap.size w wr) (fun _ _ i _ => l.length - (intOf i).toNat)
  case atStart => exact ⟨0, Nat.zero_le _, rfl, World.ownsRow_nil _ _ _ _, World.ownsRow_nil _ _ _ _, Below.refl _ _⟩
  case round =>
    obtain ⟨k, hk, rfl, hus, hps, hb⟩ := hrel
    have Hus := Lib.hid hus; have Hps := Lib.hid hps; have Hb := Lib.hid hb
    clear hus hps hb
    by_cases hlt : k < l.length
    · obtain ⟨b0, off, rfl, hq, hlt0, hc⟩ := (HI.out.below Hb.out (Nat.le_refl _)).at (by omega)
      have hcx := hc k l[k] (List.getElem?_eq_getElem hlt)
      have hu1 : unlikeV [] (l.take (k + 1)) = addV (unlikeV [] (l.take k)) l[k] := by rw [List.take_succ_eq_append_getElem hlt, unlikeV_snoc]
      have hp1 : placesV [] (l.take (k + 1)) = placesV [] (l.take k) ++ [posV l[k] (unlikeV [] (l.take k))] := by rw [List.take_succ_eq_append_getElem hlt, placesV_snoc]
      have hul := (unlikeV_len (l.take k) []).2
      have hpl := placesV_len (l.take k) []
      rw [List.length_take, Nat.min_eq_left hk] at hpl
      rw [List.length_take, Nat.min_eq_left hk, List.length_nil, Nat.zero_add] at hul
      generalize l[k] = x at *
      have hpx := posV_le x (unlikeV [] (l.take k))
      have Hcx := Lib.hid hcx
      have HU1 := Lib.hid hu1; have HP1 := Lib.hid hp1
      have hin : (k : Int) < (l.length : Int) := by omega
      have hvs : (valA x).size = 3 := rfl
      clear hq hc hcx hu1 hp1
      generalize unlikeV [] (l.take k) = u at *
      generalize placesV [] (l.take k) = pp at *
      have hpl2 : pp.length ≤ 20000 := by omega
      have hul2 : u.length ≤ 20000 := by omega
      have HUV := Lib.hid (IsVals.of_own Hus.out)
      obtain ⟨adU, capU, hU⟩ := HUV.out.form
      subst hU
      have Hat := Lib.hid (posV_at x u)
      have Hbf := Lib.hid (posV_before x u)
      generalize hpo : posV x u = po at *
      have Hpo := Lib.hid hpo
      clear hpl hpo
      go_wp2_with fail
      obtain ⟨wo, hwo⟩ : ∃ wo : World, wo = wr := ⟨_, rfl⟩
      subst hwo
      go_loopw [7] (fun q w2 => ∃ j n : Nat, j ≤ po ∧ q = .int .i64 (j : Nat) ∧ w2 = wo.drewN n) (fun q _ => po - (intOf q).toNat)
      case atStart => exact ⟨0, 0, Nat.zero_le _, rfl, rfl⟩
      case round =>
        obtain ⟨j, n, hj, rfl, rfl⟩ := hrel
        by_cases hjp : j < po
        · obtain ⟨gU, oU, rfl, _, hgU, hcU⟩ := HUV.out.at (by omega)
          have hyy := List.getElem?_eq_getElem (show j < u.length by omega)
          have l1 := loadV (hcU j _ hyy)
          have l2 := loadV Hcx.out
          have hne := Hbf.out j _ hjp hyy
          have e1 := fun w => neq_val (u[j]'(by omega)) x w
          rw [hne] at e1
          generalize (u[j]'(by omega)) = y at *
          have i1 : (j : Int) < (u.length : Int) := by omega
          clear hcU hyy hne
          go_wp2_with fail
          refine wp_region_quiet_lit (by kernel_rfl) (by kernel_rfl) ?_
          repeat (go_big_quiet_step (fail))
          refine wpQuiet_loadG rfl _ _ rfl _ rfl _ (fun w ⟨q, hq⟩ => by rw [hq, World.drewN_drewN]; exact l1 _) ?_
          repeat (quiet_step (fail))
          refine wpQuiet_loadG rfl _ _ rfl _ rfl _ (fun w ⟨q, hq⟩ => by rw [hq, World.drewN_drewN]; exact l2 _) ?_
          refine wpQuiet_binG rfl .neq _ _ _ _ rfl (.agg (valA y)) (.agg (valA x)) _ rfl rfl (fun w => val_guard _ _ _ y x w) e1 ?_
          repeat (quiet_step (fail))
          refine wpQuiet_nil ?_
          rintro w' ⟨q, hq⟩
          rw [World.drewN_drewN] at hq
          subst hq
          go_simp
          go_wp2_with fail
          go_roundw
          case rel => exact ⟨j + 1, _, by omega, by go_num, rfl⟩
          case measure => simp [intOf]; omega
        · obtain rfl : j = po := by omega
          clear hj hjp
          by_cases hf : j < u.length
          · obtain ⟨gU, oU, rfl, _, hgU, hcU⟩ := HUV.out.at (by omega)
            have hyy : u[j]? = some x := Hat.out hf
            have l1 := loadV (hcU j _ hyy)
            have l2 := loadV Hcx.out
            have e1 := fun w => neq_val x x w
            rw [(valEq_iff x x).2 rfl] at e1
            have i1 : (j : Int) < (u.length : Int) := by omega
            have i2 : ((j : Int) == (u.length : Int)) = false := by rw [beq_eq_false_iff_ne]; omega
            have Hadd := Lib.hid (show addV u x = u by unfold addV; rw [Hpo.out, if_pos hf])
            clear hcU hyy hf
            go_wp2_with fail
            refine wp_region_quiet_lit (by kernel_rfl) (by kernel_rfl) ?_
            repeat (go_big_quiet_step (fail))
            refine wpQuiet_loadG rfl _ _ rfl _ rfl _ (fun w ⟨q, hq⟩ => by rw [hq, World.drewN_drewN]; exact l1 _) ?_
            repeat (quiet_step (fail))
            refine wpQuiet_loadG rfl _ _ rfl _ rfl _ (fun w ⟨q, hq⟩ => by rw [hq, World.drewN_drewN]; exact l2 _) ?_
            refine wpQuiet_binG rfl .neq _ _ _ _ rfl (.agg (valA x)) (.agg (valA x)) _ rfl rfl (fun w => val_guard _ _ _ x x w) e1 ?_
            repeat (quiet_step (fail))
            refine wpQuiet_nil ?_
            rintro wz ⟨q, hq⟩
            have hbz : Below wo.heap.size wo wz := by rw [hq, World.drewN_drewN]; exact below_drewN (Below.refl _ _) _
            have HVz := Lib.hid (own_below' Hus.out hbz); have HPz := Lib.hid (own_below' Hps.out hbz); have Hbz := Lib.hid (Hb.out.trans (hbz.mono Hb.out.size)); have hsz' := Hbz.out.size
            clear hq hbz l1 l2 e1
            go_simp
            go_wp2_with (at_builtin; refine wpList_pushN rfl _ _ rfl w.heap.size _ pp rfl HPz.out _ _ _ rfl rfl hpl2 hsz' j rfl ?_; intro v6 w6 hown6 hgrow6 hb6
                         have HP6 := Lib.hid hown6; have HV6 := Lib.hid (own_past HPz.out hgrow6 HVz.out (by decide)); have Hb6 := Lib.hid (Hbz.out.trans hb6); clear hown6 hgrow6 hb6)
            go_roundw
            case rel => exact ⟨k + 1, by omega, by go_num, by rw [HU1.out, Hadd.out]; exact HV6.out, by rw [HP1.out]; exact HP6.out, Hb6.out⟩
            case measure => simp [intOf]; omega
          · obtain rfl : j = u.length := by omega
            have Hadd := Lib.hid (show addV u x = u ++ [x] by unfold addV; rw [Hpo.out, if_neg hf])
            have i1 : decide (u.length < u.length) = false := by simp
            clear hf
            go_wp2_with fail
            refine wp_region_quiet_lit (by kernel_rfl) (by kernel_rfl) ?_
            repeat (go_big_quiet_step (fail))
            refine wpQuiet_nil ?_
            rintro wz ⟨q, hq⟩
            have hbz : Below wo.heap.size wo wz := by rw [hq, World.drewN_drewN]; exact below_drewN (Below.refl _ _) _
            have HVz := Lib.hid (own_below' Hus.out hbz); have HPz := Lib.hid (own_below' Hps.out hbz); have Hbz := Lib.hid (Hb.out.trans (hbz.mono Hb.out.size)); have hsz' := Hbz.out.size
            have Hcxz := Lib.hid (Hcx.out.below hbz hlt0).cells
            clear hq hbz
            go_simp
            go_wp2_with (first
              | (refine wpList_load_cells rfl 41 _ rfl b0 (off + k * 3) rfl (valA x) _ Hcxz.out Tryz.underlying41 rfl hsz ?_)
              | (at_builtin; refine wpList_pushV rfl _ _ rfl w.heap.size _ u rfl HVz.out _ _ rfl rfl hul2 hsz' x ?_; intro v5 w5 hown5 hgrow5 hb5
                 have HV5 := Lib.hid hown5; have HP5 := Lib.hid (own_past HVz.out hgrow5 HPz.out (by decide)); have hs5 : w.heap.size ≤ w5.heap.size := Nat.le_trans hsz' hb5.size; have Hb5 := Lib.hid (Hbz.out.trans hb5); clear hown5 hgrow5 hb5)
              | (at_builtin; refine wpList_pushN rfl _ _ rfl w.heap.size _ pp rfl HP5.out _ _ _ rfl rfl hpl2 hs5 u.length rfl ?_; intro v6 w6 hown6 hgrow6 hb6
                 have HP6 := Lib.hid hown6; have HV6 := Lib.hid (own_past HP5.out hgrow6 HV5.out (by decide)); have Hb6 := Lib.hid (Hb5.out.trans hb6); clear hown6 hgrow6 hb6))
            go_roundw
            case rel => exact ⟨k + 1, by omega, by go_num, by rw [HU1.out, Hadd.out]; exact HV6.out, by rw [HP1.out]; exact HP6.out, Hb6.out⟩
            case measure => simp [intOf]; omega
    · obtain rfl : k = l.length := by omega
      rw [List.take_length] at Hus Hps
      go_wp2_with fail
      go_ret2
      exact ⟨⟨_, _, rfl, Hus.out, Hps.out⟩, Hb.out⟩
end Go.Proofs.YtapiabmmfmfaeaaGreatDoor
/- The walks of enc.Dict, the document's DictOf and the statement EncDict. -/
namespace Go.Proofs.YtapiabmmfmfaeaaGreatDoor
set_option maxHeartbeats 4000000
set_option linter.unusedVariables false
open Go Go.RowKit Go.ChangeShapes
theorem bitLenAux_up7:∀ f x,x < 2 ^ f → x < 2 ^ Lib.bitLenAux f x
 | 0,x,h=>by simpa [Lib.bitLenAux] using h
 | f + 1,x,h=>by
  unfold Lib.bitLenAux
  by_cases h0:x = 0
  ·rw [if_pos h0];omega
  ·rw [if_neg h0]
   have:=bitLenAux_up7 f (x / 2) (by rw [Nat.pow_succ] at h;omega)
   rw [Nat.pow_add,Nat.pow_one]
   omega
theorem bitLen_up7 {x:Nat} (h:x < 18446744073709551616):x < 2 ^ Lib.bitLen x:=bitLenAux_up7 64 x (by simpa using h)
theorem placeW_le {n:Nat} (h:n ≤ 20000):placeW n ≤ 32:=Lib.bitLen_le _ 32 (by omega) (by omega)
theorem placeW_fits {n x:Nat} (h:n ≤ 20000) (hx:x < n):x < 2 ^ placeW n:=Nat.lt_of_le_of_lt (show x ≤ n - 1 by omega) (bitLen_up7 (by omega))
theorem own_capped {w:World} {B n:Nat} {e:TypeId} {v:Value} {xs:List Value} (h:w.ownsRow B e 1 v n xs):Capped v:=by
 intro ad m cap hv
 rcases h.2 with ⟨rfl,h0⟩ | ⟨g,cap',cur,rfl,_,_,h1,_⟩
 ·injection hv with _ h2 h3
  omega
 ·injection hv with _ h2 h3
  omega
theorem unlike_right {kind:Int} {l:List Val} (hO:∀ x ∈ l,x.Ok) (hP:∀ x ∈ l,OkP kind x):(∀ x ∈ unlikeV [] l,x.Ok) ∧ (∀ x ∈ unlikeV [] l,OkP kind x):=by
 constructor
 ·intro x hx;rcases unlikeV_mem l [] x hx with h | h
  ·cases h
  ·exact hO x h
 ·intro x hx;rcases unlikeV_mem l [] x hx with h | h
  ·cases h
  ·exact hP x h
set_option maxRecDepth 100000 in
theorem placeWidth_any (n:Nat) (hn:n ≤ 20000) (w:World) :
  Calls Tryz.prog 86 #[.int .i64 (n:Nat)] w fun e w'=>e = .returned (.int .i64 ((placeW n:Nat):Int)) ∧ w' = w:=by
 by_cases h:n < 2
 ·have hp:placeW n = 0:=by unfold placeW;rw [show n - 1 = 0 by omega];rfl
  rw [hp]
  have d1:decide ((n:Int) < 2) = true:=by simp;omega
  clear h hp
  go_enter Tryz.func86,Tryz.ntmps86
  go_wp2_with fail
  go_ret
  exact ⟨rfl,rfl⟩
 ·obtain ⟨m,rfl⟩:∃ m,n = m + 1:=⟨n - 1,by omega⟩
  have HW:=Lib.hid (fun w1=>show Calls Tryz.prog 58 #[.int .u64 ((m:Nat):Int)] w1 fun e w'=>e = .returned (.int .i64 ((placeW (m + 1):Nat):Int)) ∧ w' = w1 from widthOf_any m (by omega) w1)
  generalize placeW (m + 1) = pw at *
  have d1:decide (((m + 1:Nat):Int) < 2) = false:=by simp;omega
  have d2:¬ (m:Int) + 1 < 2:=by omega
  clear h
  go_enter Tryz.func86,Tryz.ntmps86
  go_wp2_with fail
  refine (HW.out _).mono ?_;rintro e w1 ⟨rfl,hw1⟩
  subst hw1
  go_wp2_with fail
  go_ret
  exact ⟨rfl,rfl⟩
set_option maxRecDepth 100000 in
theorem dict_ok (kind:Int) (v:Value) (l:List Val) (w:World) (hI:IsVals w v l) (hl:l.length ≤ 1000) (hO:∀ x ∈ l,x.Ok) (hn:valsErr kind l = .nil) :
  Calls Tryz.prog 106 #[.int .i64 kind,v] w fun e w'=>e = .returned (.tuple #[.string ⟨(dictB kind l).toArray⟩,.nilIface]) ∧ Below w.heap.size w w':=by
 obtain ⟨h1,h5,_,hP⟩:=valsErr_nil hn
 have HC:=Lib.hid (check_vals kind v l w hI h1 h5 (by omega) hO hP)
 have HUn:=Lib.hid (fun w1 h=>unlike_any v l w1 h (by omega) hO)
 obtain ⟨uO,uP⟩:=unlike_right hO hP
 have hul:=(unlikeV_len l []).2
 have hpl:=placesV_len l []
 have hplt:=placesV_lt l []
 have hdb:dictB kind l = seven (unlikeV [] l).length ++ textOf (plainB kind (unlikeV [] l)) ++ runsB (placeW (unlikeV [] l).length) (placesV [] l) []:=rfl
 rw [List.length_nil,Nat.zero_add] at hul
 have HI:=Lib.hid hI
 obtain ⟨ad,cap,rfl⟩:=hI.form
 generalize unlikeV [] l = u at *
 generalize placesV [] l = pp at *
 have hu1000:u.length ≤ 1000:=by omega
 have HPr:=Lib.hid (fun vs w1 h=>plain_right kind vs u w1 h (by omega) uO h1 h5 uP)
 have hplen:=plainB_len kind u fun h4 x hx=>((uP x hx).text h4).2
 have HWi:=Lib.hid (fun w1=>show Calls Tryz.prog 45 #[.int .i64 ((u.length:Int) - 1)] w1 fun e w'=>e = .returned (.int .i64 ((placeW u.length:Nat):Int)) ∧ w' = w1 from by
  have h:=width_any ((u.length:Int) - 1) (by omega) (by omega) w1
  rwa [show ((u.length:Int) - 1).toNat = u.length - 1 by omega] at h)
 have HRn:=Lib.hid (fun ps w1 h hc=>runs_any ps pp (placeW u.length) w1 h hc (placeW_le (by omega)) (by omega) fun x hx=>placeW_fits (by omega) (hplt x hx))
 have hrl:=runsB_len (placeW u.length) (placeW_le (by omega)) _ pp [] rfl (by simp;omega)
 rw [List.length_nil,hpl] at hrl
 have HSv:=Lib.hid (fun w1=>show Calls Tryz.prog 72 #[.int .u64 ((u.length:Nat):Int)] w1 fun e w'=>e = .returned (.string ⟨(seven u.length).toArray⟩) ∧ Below w1.heap.size w1 w' from uvarint_any _ w1 (by omega) (by omega))
 have hs7:=seven_len (show u.length < 18446744073709551616 by omega)
 have hps:(ByteArray.mk (plainB kind u).toArray).size = (plainB kind u).length:=by show (plainB kind u).toArray.size = _;simp
 have HTx:=Lib.hid (fun w1=>show Calls Tryz.prog 70 #[.string ⟨(plainB kind u).toArray⟩] w1 fun e w'=>e = .returned (.string ⟨(textOf (plainB kind u)).toArray⟩) ∧ Below w1.heap.size w1 w' from by
  have h:=text_any ⟨(plainB kind u).toArray⟩ w1 (by rw [hps];omega)
  simpa using h)
 have htl:(textOf (plainB kind u)).length ≤ 200000:=by
  unfold textOf
  have:=seven_len (show (plainB kind u).length < 18446744073709551616 by omega)
  rw [List.length_append];omega
 rw [hdb]
 clear hI hO hn h1 h5 hP uO uP hul hpl hplt hdb hplen hps
 generalize placeW u.length = pw at *
 generalize seven u.length = s7 at *
 generalize textOf (plainB kind u) = tx at *
 generalize plainB kind u = pb at *
 generalize runsB pw pp [] = rb at *
 have hadd1:¬ 9223372036854775807 < s7.length + tx.length:=by omega
 have hadd2:¬ 9223372036854775807 < s7.length + tx.length + rb.length:=by omega
 have hw64:IntKind.u64.wrap ((u.length:Nat):Int) = ((u.length:Nat):Int):=by rw [IntKind.wrap_u64];omega
 go_enter Tryz.func106,Tryz.ntmps106
 go_wp2_with fail
 refine HC.out.mono ?_;rintro e w1 ⟨rfl,hb1⟩
 go_wp2_with fail
 refine (HUn.out w1 (HI.out.below hb1 (Nat.le_refl _))).mono ?_;rintro e w2 ⟨⟨vs,ps,rfl,hvs,hps⟩,hb2⟩
 have hb2:=below_trans hb1 hb2
 clear hb1
 have hVs:=IsVals.of_own hvs
 obtain ⟨adV,capV,hV⟩:=hVs.form
 subst hV
 have HVs:=Lib.hid hVs;have HIs:=Lib.hid (nums_nat hps);have HCp:=Lib.hid (own_capped hps)
 clear hVs hvs hps
 go_wp2_with fail
 refine (HWi.out w2).mono ?_;rintro e w3 ⟨rfl,hw3⟩
 subst hw3
 go_wp2_with fail
 refine (HRn.out _ _ HIs.out HCp.out).mono ?_;rintro e w4 ⟨rfl,hb4⟩
 have HVs4:=Lib.hid (HVs.out.below hb4 (Nat.le_refl _))
 have hb4:=below_trans hb2 hb4
 clear hb2
 go_wp2_with fail
 refine (HSv.out w4).mono ?_;rintro e w5 ⟨rfl,hb5⟩
 have HVs5:=Lib.hid (HVs4.out.below hb5 (Nat.le_refl _))
 have hb5:=below_trans hb4 hb5
 clear hb4
 go_wp2_with fail
 refine (HPr.out _ w5 HVs5.out).mono ?_;rintro e w6 ⟨rfl,hb6⟩
 have hb6:=below_trans hb5 hb6
 clear hb5
 go_wp2_with fail
 refine (HTx.out w6).mono ?_;rintro e w7 ⟨rfl,hb7⟩
 have hb7:=below_trans hb6 hb7
 clear hb6
 go_wp2_with fail
 go_ret2
 exact ⟨ret_of (by
  show Value.tuple #[.string (ByteArray.mk s7.toArray ++ ByteArray.mk tx.toArray ++ ByteArray.mk rb.toArray),.nilIface] = _
  rw [ByteArray.mk_append_mk,ByteArray.mk_append_mk]),hb7⟩
end Go.Proofs.YtapiabmmfmfaeaaGreatDoor
