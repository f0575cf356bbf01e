/- Merged texts: ReadsOf. -/
import Derived.Test.YtapiabmmfmfaeaaGreatDoorMReads
import Derived.Test.YtapiabmmfmfaeaaGreatDoorMBits
import Derived.Test.YtapiabmmfmfaeaaGreatDoorMWire
/- The walk of the document's ReadRunsOf. -/
namespace Go.Proofs.YtapiabmmfmfaeaaGreatDoor
set_option maxHeartbeats 4000000
set_option linter.unusedVariables false
open Go Go.RowKit Go.ChangeShapes
theorem own_ne {w:World} {B B':Nat} {e e':TypeId} {v v':Value} {n n':Nat} {xs xs':List Value} (h:w.ownsRow B e 1 v n xs) (h':w.ownsRow B' e' 1 v' n' xs') (he:e ≠ e'):v.ownBlock = none ∨ v.ownBlock ≠ v'.ownBlock:=by
 rcases h'.2 with ⟨rfl,_⟩ | ⟨g,cap,cur,rfl,_,hg,_⟩
 ·cases hv:v.ownBlock with
  | none=>exact .inl rfl
  | some b=>right;simp [Value.ownBlock]
 ·right;exact Lib.ownBlock_ne h hg (Ne.symm he)
theorem wpList_push2 {P:Program} {wr:World} {ops:Array Oper} {rest:List Oper} {o:Oper} {a:Act} {Q:Exit → Act → World → Prop} (hg:o.guard = none) (s x:Operand) (t:TypeId)
  (ho:o.op = .call { callee:=.builtin .append,args:=#[s,x],argTypes:=#[t,t] })
  (base:Nat) (e:TypeId) (i:TypeInfo) (z:Value) (bytes:Nat) (ht:P.underlying t = some (.slice e)) (hi:P.info? e = some i) (hz:i.zero = some z)
  (hsize:i.size = 1) (hby:i.bytes = bytes) (hzs:z.cells.size = 1)
  {α:Type} (f:α → Value) (hf:∀ y,(f y).oneCell' = true)
  (v:Value) (l:List α) (hs:a.eval s = v) (hown:wr.ownsRow base e 1 v l.length (l.map f)) (e':TypeId) (u:Value) (hx:a.eval x = .slice (some ⟨wr.heap.size,0,none⟩) 1 1)
  (h63:l.length + 1 ≤ maxLen) (hbytes:(l.length + 1) * bytes ≤ 140737488355328) (hbase:base ≤ wr.heap.size) (y:α) (hu:u = f y)
  (h:∀ v' w',w'.ownsRow base e 1 v' (l ++ [y]).length ((l ++ [y]).map f) → Below base wr w' → (∀ {B2:Nat} {e2:TypeId} {v2:Value} {n2:Nat} {xs2:List Value},e2 ≠ e → wr.ownsRow B2 e2 1 v2 n2 xs2 → w'.ownsRow B2 e2 1 v2 n2 xs2) → wpList P ops Q rest (a.put o.dst v') w') :
  wpList P ops Q (o :: rest) a (wr.alloc (.cells #[u] e')):=by
 subst hu
 refine wpList_append_own _ hg s x t ho base e i z 1 bytes ht hi hz hsize hby hzs (by omega) v l.length (l.map f) hs (hown.alloc _) ⟨wr.heap.size,0,none⟩ 1 1 [f y] hx (by simp) ?_ ?_ h63 hbytes (by simp;omega) ?_
 ·intro j u hj
  cases j with
  | zero=>simp at hj;subst hj;simp [go_sem]
  | succ j=>simp at hj
 ·intro u hu;simp at hu;subst hu;exact hf y
 ·intro v' w' h1 h2 h3
  refine h v' w' (by simpa using h1) ?_ ?_
  ·refine (((Below.refl _ _).alloc hbase _).grown h2 (by simp;omega) ?_)
   intro k hk
   exact (hown.lt k hk).1
  ·intro B2 e2 v2 n2 xs2 hne h4
   exact (h4.alloc _).kept h2 (own_ne h4 hown hne)
def ORet (B:Nat) (r:Option (List Nat × Nat)) (e:Ending) (w':World):Prop :=
 match r with
 | none=>e = .returned (.tuple #[.slice none 0 0,.int .i64 (-1)])
 | some x=>∃ u,e = .returned (.tuple #[u,.int .i64 (x.2:Nat)]) ∧ w'.ownsRow B 3 1 u x.1.length (x.1.map natV)
theorem ORet.bad {B:Nat} {r:Option (List Nat × Nat)} {w':World} (h:r = none):ORet B r (.returned (.tuple #[.slice none 0 0,.int .i64 (-1)])) w':=by rw [h];exact rfl
set_option maxRecDepth 100000 in
theorem readRunsOf_any (s:ByteArray) (wd n:Nat) (w:World) (hw:wd ≤ 32) (hn:n ≤ 20000) (hs:s.size ≤ 200000) :
  Calls Tryz.prog 57 #[.string s,.int .i64 (wd:Nat),.int .i64 (n:Nat)] w fun e w'=>ORet w.heap.size (readR wd n s.data.toList) e w' ∧ Below w.heap.size w w':=by
 obtain ⟨i0,hi,hz0,hz1,hz2⟩:=info_parts info_int
 have HSl:=Lib.hid (show s.data.toList.length = s.size by simp)
 go_enter Tryz.func57,Tryz.ntmps57
 go_wp2_with fail
 go_loopw [8,9] (fun u a wr=>∃ (L:List Nat) (k:Nat),L.length ≤ n ∧ k ≤ s.size ∧ a = .int .i64 (k:Nat) ∧ wr.ownsRow w.heap.size 3 1 u L.length (L.map natV) ∧ Below w.heap.size w wr ∧
  readR wd n s.data.toList = (readR wd (n - L.length) (s.data.toList.drop k)).map fun y=>(L ++ y.1,k + y.2)) (fun u _ _=>n - lenOf u)
 case atStart=>exact ⟨[],0,Nat.zero_le _,Nat.zero_le _,rfl,World.ownsRow_nil _ _ _ _,Below.refl _ _,by simp⟩
 case round =>
  obtain ⟨L,k,hLn,hk,rfl,hown,hb,hinv⟩:=hrel
  obtain ⟨ad,cap,rfl⟩:=own_form hown
  have Hinv:=Lib.hid hinv;have Hown:=Lib.hid hown
  clear hinv hown
  by_cases hlt:L.length < n
  ·have hes:(s.extract k s.size).size ≤ maxLen:=by simp;unfold maxLen;omega
   have he:=ext_list s k
   obtain ⟨lf,hlf⟩:∃ lf,lf = n - L.length:=⟨_,rfl⟩
   have hlf1:L.length + lf = n:=by omega
   have hlf2:(n:Int) - (L.length:Int) = (lf:Int):=by omega
   have hlf0:0 < lf:=by omega
   rw [← hlf] at Hinv
   clear hlf
   cases hU:readU (s.data.toList.drop k) with
   | none=>as_aux_lemma =>
    have Hc:=Lib.hid (fun w1=>readSeven_none (s.extract k s.size) w1 hes (by rw [he];exact hU))
    have HN:=Lib.hid (readR_none wd lf _ hlf0 hU)
    clear he hU
    go_wp2_with fail
    refine (Hc.out _).mono ?_;rintro e w1 ⟨rfl,rfl⟩
    go_wp2_with fail
    go_ret2
    refine ⟨ORet.bad (by rw [Hinv.out,HN.out];rfl),hb⟩
   | some y =>
    obtain ⟨h,kk⟩:=y
    have Hc:=Lib.hid (fun w1=>readSeven_some (s.extract k s.size) w1 hes (by rw [he];exact hU))
    obtain ⟨hl1,hl2,hl3,hl4⟩:=readU_lt hU
    rw [List.length_drop,HSl.out] at hl3
    have HU:=Lib.hid hU
    clear he hU
    obtain ⟨c,hc2⟩:∃ c,c = h / 2:=⟨_,rfl⟩
    have hcI:((h:Int) / 2) = (c:Int):=by omega
    have hc63:c < 9223372036854775808:=by omega
    have Hc2:=Lib.hid hc2
    have hk0:((kk:Int) == 0) = false:=by rw [beq_eq_false_iff_ne];omega
    by_cases hbad:h < 2 ∨ lf < h / 2
    ·as_aux_lemma =>
     have HN:=Lib.hid (readR_bad wd lf h kk _ hlf0 HU.out hbad)
     by_cases hb2:lf < c
     focus
      clear hbad hc2
      go_wp2_with fail
      refine (Hc.out _).mono ?_;rintro e w1 ⟨rfl,rfl⟩
      go_wp2_with fail
     rotate_left
     focus
      obtain rfl:c = 0:=by omega
      clear hbad hc2
      go_wp2_with fail
      refine (Hc.out _).mono ?_;rintro e w1 ⟨rfl,rfl⟩
      go_wp2_with fail
     all_goals
      go_ret2
      refine ⟨ORet.bad (by rw [Hinv.out,HN.out];rfl),hb⟩
    ·have Hbad:=Lib.hid hbad
     have hcl:c ≤ lf:=by omega
     have hc0:1 ≤ c:=by omega
     have hkk:k + kk ≤ s.size:=by omega
     have hc0b:((c:Int) == 0) = false:=by rw [beq_eq_false_iff_ne];omega
     clear hbad hc2
     by_cases hpar:h % 2 = 0
     ·as_aux_lemma =>
      have hmod:((h:Int) % 2) = 0:=by omega
      have hz4:sizeB wd ≤ 4:=by unfold sizeB;omega
      have hzw:((wd:Int) + 7) / 8 = ((sizeB wd:Nat):Int):=by unfold sizeB;omega
      have HZ:=Lib.hid (readR_even_bad wd lf h kk _ hlf0 HU.out Hbad.out hpar)
      have HY:=Lib.hid (readR_even wd lf h kk _ hlf0 HU.out Hbad.out hpar)
      clear hpar
      generalize sizeB wd = z at *
      rw [List.drop_drop,List.drop_drop,List.length_drop,HSl.out] at HY
      rw [List.drop_drop,List.length_drop,HSl.out] at HZ
      by_cases hfit:k + kk + z ≤ s.size
      ·have hx8:=unlittle_lt ((s.data.toList.drop (k + kk)).take z)
       have hxl:((s.data.toList.drop (k + kk)).take z).length = z:=by rw [List.length_take,List.length_drop,HSl.out];omega
       rw [hxl] at hx8
       have hx9:unlittle ((s.data.toList.drop (k + kk)).take z) < 4294967296:=Nat.lt_of_lt_of_le hx8 (Nat.le_trans (Nat.pow_le_pow_right (by decide) hz4) (by decide))
       have HG:=Lib.hid (fun w1=>show Calls Tryz.prog 53 #[.string (s.extract (k + kk) s.size),.int .i64 (z:Int)] w1 fun e w'=>e = .returned (.int .u64 ((unlittle ((s.data.toList.drop (k + kk)).take z):Nat):Int)) ∧ w' = w1 by
        have h1:=readLittle_any (s.extract (k + kk) s.size) z w1 (by omega) (by rw [ByteArray.size_extract];omega) (by rw [ByteArray.size_extract];unfold maxLen;omega)
        rwa [ext_list] at h1)
       clear hx8 hxl
       generalize unlittle ((s.data.toList.drop (k + kk)).take z) = xv at *
       obtain ⟨s1,s2⟩:=shl_one wd hw
       have hsh:IntKind.u64.wrap ((2:Int) ^ wd) = 2 ^ wd:=by rw [IntKind.wrap_u64];omega
       have hpw:((2:Int) ^ wd) = ((2 ^ wd:Nat):Int):=by simp
       by_cases hxw:xv < 2 ^ wd
       ·have d5:decide ((2:Int) ^ wd ≤ (xv:Int)) = false:=by rw [hpw];simp only [decide_eq_false_iff_not];omega
        have HX:=Lib.hid hxw
        clear hxw s1 s2 hpw
        go_wp2_with fail
        refine (Hc.out _).mono ?_;rintro e w1 ⟨rfl,rfl⟩
        go_wp2_with fail
        refine (HG.out _).mono ?_;rintro e w3 ⟨rfl,rfl⟩
        go_wp2_with fail
        go_loopw [8,16] (fun u i wr'=>∃ j:Nat,j ≤ c ∧ i = .int .i64 (j:Nat) ∧ wr'.ownsRow w.heap.size 3 1 u (L ++ List.replicate j xv).length ((L ++ List.replicate j xv).map natV) ∧ Below w.heap.size w wr') (fun _ i _=>c - (intOf i).toNat)
        case atStart=>exact ⟨0,Nat.zero_le _,rfl,by simpa using Hown.out,hb⟩
        case round =>
         obtain ⟨j,hj,rfl,hownj,hbj⟩:=hrel
         have HL:=Lib.hid (show (L ++ List.replicate j xv).length = L.length + j by simp)
         have HS:=Lib.hid (repl_snoc xv j L)
         obtain ⟨Lj,hLj⟩:∃ Lj,Lj = L ++ List.replicate j xv:=⟨_,rfl⟩
         rw [← hLj] at HL HS hownj
         have HLj:=Lib.hid hLj
         clear hLj
         have Hownj:=Lib.hid hownj
         clear hownj
         by_cases hjc:j < c
         ·have h63:Lj.length + 1 ≤ maxLen:=by rw [HL.out];unfold maxLen;omega
          have h64:(Lj.length + 1) * 8 ≤ 140737488355328:=by rw [HL.out];omega
          go_wp2_with (at_builtin;refine wpList_push rfl _ _ 22 rfl w.heap.size 3 i0 (.int .i64 0) 8 Tryz.underlying22 hi hz0 hz1 hz2 rfl natV (fun _=>rfl) _ _ rfl Hownj.out _ _ rfl h63 h64 hbj.size xv rfl ?_;intro v' w2 hown' hb' hnn;have Ho':=Lib.hid hown';clear hown')
          go_roundw
          case rel=>exact ⟨j + 1,by omega,by go_num,by rw [← HS.out];exact Ho'.out,hbj.trans hb'⟩
          case measure=>simp [intOf];omega
         ·obtain rfl:j = c:=by omega
          obtain ⟨ad2,cap2,rfl⟩:=own_form Hownj.out
          go_wp2_with fail
          go_roundw
          case rel =>
           have h1:=HY.out (by intro h;rcases h with h | h;omega;exact absurd HX.out (by omega))
           refine ⟨Lj,k + kk + z,by rw [HL.out];omega,hfit,by go_num,Hownj.out,hbj,?_⟩
           rw [Hinv.out,h1,Option.map_map,← Hc2.out,HLj.out,List.length_append,List.length_replicate,show k + (kk + z) = k + kk + z by omega,show n - (L.length + j) = lf - j by omega]
           congr 1
           funext y
           simp [Nat.add_assoc]
          case measure=>simp [lenOf];rw [HL.out];omega
       ·have d5:decide ((2:Int) ^ wd ≤ (xv:Int)) = true:=by rw [hpw];simp only [decide_eq_true_eq];omega
        have HN:=Lib.hid (HZ.out (.inr (by omega)))
        clear hxw s1 s2 hpw
        go_wp2_with fail
        refine (Hc.out _).mono ?_;rintro e w1 ⟨rfl,rfl⟩
        go_wp2_with fail
        refine (HG.out _).mono ?_;rintro e w3 ⟨rfl,rfl⟩
        go_wp2_with fail
        go_ret2
        refine ⟨ORet.bad (by rw [Hinv.out,HN.out];rfl),hb⟩
      ·have HN:=Lib.hid (HZ.out (.inl (by omega)))
       have hfit':s.size < k + kk + z:=by omega
       go_wp2_with fail
       refine (Hc.out _).mono ?_;rintro e w1 ⟨rfl,rfl⟩
       go_wp2_with fail
       go_ret2
       refine ⟨ORet.bad (by rw [Hinv.out,HN.out];rfl),hb⟩
     ·as_aux_lemma =>
      have hpar1:h % 2 = 1:=by omega
      have hmod:((h:Int) % 2) = 1:=by omega
      have hY:=readR_odd wd lf h kk _ hlf0 HU.out Hbad.out hpar1
      have hZ:=readR_odd_bad wd lf h kk _ hlf0 HU.out Hbad.out hpar1
      rw [List.drop_drop,List.drop_drop,List.length_drop,HSl.out,← Hc2.out] at hY
      rw [List.drop_drop,List.length_drop,HSl.out,← Hc2.out] at hZ
      have HY:=Lib.hid hY;have HZ:=Lib.hid hZ
      clear hY hZ hpar hpar1
      have hcw:c * wd ≤ 20000 * 32:=Nat.mul_le_mul (by omega) hw
      obtain ⟨A,hA⟩:∃ A,A = c * wd:=⟨_,rfl⟩
      have hwA:IntKind.i64.wrap ((c:Int) * (wd:Int)) = (A:Int):=by rw [hA,← Int.natCast_mul];exact wrap_small _ (by omega) (by omega)
      have hA2:A ≤ 640000:=by omega
      rw [← hA] at HY HZ
      have HA:=Lib.hid hA
      clear hA hcw
      obtain ⟨N8,hN8⟩:∃ N8,N8 = 8 * c:=⟨_,rfl⟩
      have h8I:8 * (c:Int) = (N8:Int):=by omega
      rw [← hN8] at HY HZ
      have HN8:=Lib.hid hN8
      have hN81:N8 ≤ 160000:=by omega
      by_cases hfit:k + kk + A ≤ s.size ∧ N8 < lf + 8
      ·obtain ⟨hf1,hf2⟩:=hfit
       have hnw:N8 * wd ≤ 8 * (s.size - (k + kk)):=by rw [HN8.out,Nat.mul_assoc,← HA.out];omega
       have HUn:=Lib.hid (fun w1=>show Calls Tryz.prog 84 #[.string (s.extract (k + kk) s.size),.int .i64 (wd:Nat),.int .i64 (N8:Nat)] w1 fun e w'=>(∃ u,e = .returned (.tuple #[u,.bool true]) ∧ w'.ownsRow w1.heap.size 84 1 u N8 ((getAll (unlittle (s.data.toList.drop (k + kk))) wd N8).map natU)) ∧ Below w1.heap.size w1 w' by
        refine (unpackOf_any (s.extract (k + kk) s.size) wd N8 w1 hw (by omega) (by rw [ByteArray.size_extract];omega)).mono ?_
        rintro e w2 ⟨h3,h4⟩
        rw [ext_list] at h3
        refine ⟨?_,h4⟩
        rcases h3 with ⟨_,h5⟩ | ⟨h5,_⟩
        ·exact h5
        ·rw [ByteArray.size_extract,Nat.min_self] at h5;omega)
       have HAt:=Lib.hid (fun j (hj:j < N8)=>getAll_at (unlittle (s.data.toList.drop (k + kk))) wd N8 j hj)
       have Hgl:=Lib.hid (getAll_len (unlittle (s.data.toList.drop (k + kk))) wd)
       have Hglt:=Lib.hid (getAll_lt (unlittle (s.data.toList.drop (k + kk))) wd)
       have Hsn:=Lib.hid (getAll_succ (unlittle (s.data.toList.drop (k + kk))) wd)
       clear hN8 hnw
       generalize unlittle (s.data.toList.drop (k + kk)) = V at *
       go_wp2_with fail
       refine (Hc.out _).mono ?_;rintro e w1 ⟨rfl,rfl⟩
       go_wp2_with fail
       refine (HUn.out _).mono ?_;rintro e w2 ⟨⟨u,rfl,hu⟩,hb2⟩
       have hown2:=own_below Hown.out hb2
       have hb2':=hb.trans (hb2.mono hb.size)
       obtain ⟨adu,capu,rfl⟩:=own_form hu
       have Hown2:=Lib.hid hown2;have Hu:=Lib.hid hu
       clear hown2 hb2 hu
       go_wp2_with fail
       go_loopw [8,19] (fun u i wr'=>∃ j:Nat,j ≤ N8 ∧ i = .int .i64 (j:Nat) ∧ wr'.ownsRow w.heap.size 3 1 u (L ++ (getAll V wd j).take lf).length ((L ++ (getAll V wd j).take lf).map natV) ∧ wr'.ownsRow w1.heap.size 84 1 (.slice adu N8 capu) N8 ((getAll V wd N8).map natU) ∧ Below w.heap.size w wr' ∧ ∀ x ∈ (getAll V wd j).drop lf,x = 0) (fun _ i _=>N8 - (intOf i).toNat)
       case atStart=>exact ⟨0,Nat.zero_le _,rfl,by simpa [getAll] using Hown2.out,Hu.out,hb2',by simp [getAll]⟩
       case round =>
        obtain ⟨j,hj,rfl,hownj,huj,hbj,hz0⟩:=hrel
        have Hz0:=Lib.hid hz0
        have HL:=Lib.hid (show (L ++ (getAll V wd j).take lf).length = L.length + min lf j by simp [getAll_len])
        have Hsnj:=Lib.hid (Hsn.out j)
        obtain ⟨Lj,hLj⟩:∃ Lj,Lj = L ++ (getAll V wd j).take lf:=⟨_,rfl⟩
        rw [← hLj] at HL hownj
        have HLj:=Lib.hid hLj
        have Hownj:=Lib.hid hownj;have Huj:=Lib.hid huj
        clear hLj hownj hz0 huj
        by_cases hjc:j < N8
        ·have hcells:IsNums .u64 wr (.slice adu N8 capu) (ints (getAll V wd N8)):=numsU_nat (B:=w1.heap.size) (e:=84) (by have h:=Huj.out;rw [Hgl.out N8];exact h)
         obtain ⟨b0,off,rfl,hq,hlt0,hc⟩:=hcells.at (by simp [ints,Hgl.out];omega)
         have hcell:=hc j _ (by unfold ints;rw [List.getElem?_map,HAt.out j hjc];rfl)
         have HAj:=Lib.hid (HAt.out j hjc)
         have hxx:V / 2 ^ (j * wd) % 2 ^ wd < 4294967297:=Nat.lt_of_lt_of_le (Nat.mod_lt _ (Nat.pow_pos (by decide))) (Nat.le_trans (Nat.pow_le_pow_right (by decide:2 > 0) hw) (by decide))
         clear hc hq hcells
         generalize V / 2 ^ (j * wd) % 2 ^ wd = xj at *
         by_cases hjl:j < lf
         ·have h63:Lj.length + 1 ≤ maxLen:=by rw [HL.out];unfold maxLen;omega
          have h64:(Lj.length + 1) * 8 ≤ 140737488355328:=by rw [HL.out];omega
          go_wp2_with (at_builtin;refine wpList_push2 rfl _ _ 22 rfl w.heap.size 3 i0 (.int .i64 0) 8 Tryz.underlying22 hi hz0 hz1 hz2 rfl natV (fun _=>rfl) _ _ rfl Hownj.out _ _ rfl h63 h64 hbj.size xj rfl ?_;intro v' w2 hown' hb' hoth;have Ho':=Lib.hid hown';have Hu':=Lib.hid (hoth (by decide) Huj.out);clear hown' hoth)
          go_roundw
          case rel =>
           have hl:=getAll_len V wd j
           refine ⟨j + 1,by omega,by go_num,?_,Hu'.out,hbj.trans hb',?_⟩
           ·have h:=Ho'.out
            rw [HLj.out,List.take_of_length_le (by omega)] at h
            rw [Hsnj.out,List.take_of_length_le (by rw [List.length_append,hl];simp;omega),← List.append_assoc]
            exact h
           ·rw [Hsnj.out,List.drop_eq_nil_of_le (by rw [List.length_append,hl];simp;omega)]
            simp
          case measure=>simp [intOf];omega
         ·by_cases hx0:xj = 0
          ·subst hx0
           go_wp2_with fail
           go_roundw
           case rel =>
            have hl:=getAll_len V wd j
            refine ⟨j + 1,by omega,by go_num,?_,Huj.out,hbj,?_⟩
            ·have h:=Hownj.out
             rw [HLj.out] at h
             rw [Hsnj.out,List.take_append_of_le_length (by omega)]
             exact h
            ·rw [Hsnj.out,List.drop_append_of_le_length (by omega)]
             intro x hx
             rcases List.mem_append.1 hx with hx | hx
             ·exact Hz0.out x hx
             ·simpa using hx
           case measure=>simp [intOf];omega
          ·have hne:¬ ((xj:Int) = 0):=by omega
           have HN:=Lib.hid (HZ.out (.inr (.inr (by
            intro h
            refine hx0 (h xj ?_)
            refine List.mem_of_getElem? (i:=j - lf) ?_
            rw [List.getElem?_drop,show lf + (j - lf) = j by omega]
            exact HAj.out))))
           go_wp2_with fail
           go_ret2
           refine ⟨ORet.bad (by rw [Hinv.out,HN.out];rfl),hbj⟩
        ·obtain rfl:j = N8:=by omega
         obtain ⟨ad2,cap2,rfl⟩:=own_form Hownj.out
         go_wp2_with fail
         go_roundw
         case rel =>
          have h1:=HY.out (by
           intro h
           rcases h with h | h | h
           ·omega
           ·omega
           ·exact h Hz0.out)
          refine ⟨Lj,k + kk + A,by rw [HL.out];omega,hf1,by go_num,Hownj.out,hbj,?_⟩
          rw [Hinv.out,h1,Option.map_map,HL.out,HLj.out,show k + (kk + A) = k + kk + A by omega,show n - (L.length + min lf j) = lf - j by omega]
          congr 1
          funext y
          simp [Nat.add_assoc]
         case measure=>simp [lenOf];rw [HL.out];omega
      ·have hor:s.size < k + kk + A ∨ lf + 8 ≤ N8:=by omega
       have HN:=Lib.hid (HZ.out (by
        rcases hor with h | h
        ·exact .inl (by omega)
        ·exact .inr (.inl h)))
       clear hor
       by_cases hf2:lf + 8 ≤ N8
       focus
        clear hfit hN8
        go_wp2_with fail
        refine (Hc.out _).mono ?_;rintro e w1 ⟨rfl,rfl⟩
        go_wp2_with fail
       rotate_left
       focus
        have hf1:s.size < k + kk + A:=by omega
        clear hfit hN8
        go_wp2_with fail
        refine (Hc.out _).mono ?_;rintro e w1 ⟨rfl,rfl⟩
        go_wp2_with fail
       all_goals
        go_ret2
        refine ⟨ORet.bad (by rw [Hinv.out,HN.out];rfl),hb⟩
  ·go_wp2_with fail
   go_ret2
   have hLe:L.length = n:=by omega
   have hr:readR wd n s.data.toList = some (L,k):=by rw [Hinv.out,hLe,Nat.sub_self,readR_zero];simp
   exact ⟨by rw [hr];exact ⟨_,rfl,Hown.out⟩,hb⟩
end Go.Proofs.YtapiabmmfmfaeaaGreatDoor
