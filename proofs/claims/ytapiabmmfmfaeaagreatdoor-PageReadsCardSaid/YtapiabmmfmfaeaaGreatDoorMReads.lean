/- Merged texts: ReadsW1. -/
import Derived.Test.YtapiabmmfmfaeaaGreatDoorMBits
import Derived.Test.YtapiabmmfmfaeaaGreatDoorMPlain
import Derived.Test.YtapiabmmfmfaeaaGreatDoorMRuns
import Derived.IntWalk
/- The walk of bitrun.ReadRuns. -/
namespace Go.Proofs.YtapiabmmfmfaeaaGreatDoor
set_option maxHeartbeats 4000000
set_option linter.unusedVariables false
open Go Go.RowKit Go.ChangeShapes
theorem own_form {w:World} {B n:Nat} {e:TypeId} {v:Value} {xs:List Value} (h:w.ownsRow B e 1 v n xs):∃ ad cap,v = .slice ad n cap:=by
 rcases h.2 with ⟨h1,h0⟩ | ⟨g,cap,cur,hv,_⟩
 ·subst h0;exact ⟨none,0,h1⟩
 ·exact ⟨_,cap,hv⟩
theorem own_below {w w':World} {B n:Nat} {e:TypeId} {v:Value} {xs:List Value} (h:w.ownsRow B e 1 v n xs) (hb:Below w.heap.size w w'):w'.ownsRow B e 1 v n xs:=by
 refine ⟨h.1,?_⟩
 rcases h.2 with h0 | ⟨g,cap,cur,hv,h1,h2,h3⟩
 ·exact .inl h0
 ·exact .inr ⟨g,cap,cur,hv,h1,(hb.block g (Array.getElem?_eq_some_iff.1 h2).1).trans h2,h3⟩
theorem ext_list (s:ByteArray) (a:Nat):(s.extract a s.size).data.toList = s.data.toList.drop a:=by
 rw [ba_extract]
 simp only []
 rw [List.take_of_length_le (by simp)]
theorem ext_list2 (s:ByteArray) (a b:Nat):(s.extract a (a + b)).data.toList = (s.data.toList.drop a).take b:=by
 rw [ba_extract,Nat.add_sub_cancel_left]
def lenOf:Value → Nat
 | .slice _ n _=>n
 | _=>0
def RRet (ev:Value) (B:Nat) (r:Option (List Nat × Nat)) (e:Ending) (w':World):Prop :=
 match r with
 | none=>e = .returned (.tuple #[.slice none 0 0,.int .i64 0,ev])
 | some x=>∃ u,e = .returned (.tuple #[u,.int .i64 (x.2:Nat),.nilIface]) ∧ w'.ownsRow B 3 1 u x.1.length (x.1.map natV)
theorem RRet.bad {ev:Value} {B:Nat} {r:Option (List Nat × Nat)} {w':World} (h:r = none):RRet ev B r (.returned (.tuple #[.slice none 0 0,.int .i64 0,ev])) w':=by rw [h];exact rfl
theorem unl_pad (X:List UInt8) (k:Nat) (h:X.length = k):unlittle (X ++ [0,0,0,0]) / 2 ^ 0 % 2 ^ (8 * k) = unlittle X:=by
 rw [unlittle_append,Nat.pow_zero,Nat.div_one,pow256,h]
 have:=unlittle_lt X
 rw [h] at this
 rw [Nat.add_mul_mod_self_left,Nat.mod_eq_of_lt this]
theorem repl_snoc (x j:Nat) (L:List Nat):L ++ List.replicate j x ++ [x] = L ++ List.replicate (j + 1) x:=by
 rw [List.append_assoc,← List.replicate_succ']
theorem getAll_at (V wd:Nat):∀ m j,j < m → (getAll V wd m)[j]? = some (V / 2 ^ (j * wd) % 2 ^ wd)
 | 0,j,h=>by omega
 | m + 1,j,h=>by
  show (getAll V wd m ++ [_])[j]? = _
  by_cases e:j < m
  ·rw [List.getElem?_append_left (by rw [getAll_len];exact e)];exact getAll_at V wd m j e
  ·obtain rfl:j = m:=by omega
   rw [List.getElem?_append_right (by rw [getAll_len];omega),getAll_len,Nat.sub_self];rfl
theorem getAll_succ (V wd k:Nat):getAll V wd (k + 1) = getAll V wd k ++ [V / 2 ^ (k * wd) % 2 ^ wd]:=rfl
set_option maxRecDepth 100000 in
theorem readRuns_any (s:ByteArray) (wd n:Nat) (T:TypeId) (x:Value) (w:World) (hw:wd ≤ 32) (hn:n ≤ 20000) (hs:s.size ≤ 200000) (hev:w.cell? ⟨1,0,none⟩ = some (.iface T x)) :
  Calls Tryz.prog 44 #[.string s,.int .i64 (wd:Nat),.int .i64 (n:Nat)] w fun e w'=>RRet (.iface T x) w.heap.size (readR wd n s.data.toList) e w' ∧ Below w.heap.size w w':=by
 obtain ⟨i0,hi,hz0,hz1,hz2⟩:=info_parts info_int
 have hsz:(1:Nat) < w.heap.size:=block_lt_of_cell hev
 have hSl:s.data.toList.length = s.size:=by simp
 have HSl:=Lib.hid hSl
 have Hsz:=Lib.hid hsz;have Hev:=Lib.hid hev
 clear hSl hsz hev
 go_enter Tryz.func44,Tryz.ntmps44
 go_wp2_with fail
 go_loopw [6,7] (fun u a wr=>∃ (L:List Nat) (k:Nat),L.length ≤ n ∧ k ≤ s.size ∧ a = .int .i64 (k:Nat) ∧ wr.ownsRow w.heap.size 3 1 u L.length (L.map natV) ∧ Below w.heap.size w wr ∧
  readR wd n s.data.toList = (readR wd (n - L.length) (s.data.toList.drop k)).map fun y=>(L ++ y.1,k + y.2)) (fun u _ _=>n - lenOf u)
 case atStart=>exact ⟨[],0,Nat.zero_le _,Nat.zero_le _,rfl,World.ownsRow_nil _ _ _ _,Below.refl _ _,by simp⟩
 case round =>
  obtain ⟨L,k,hLn,hk,rfl,hown,hb,hinv⟩:=hrel
  obtain ⟨ad,cap,rfl⟩:=own_form hown
  have hevr:=(hb.cell (p:=⟨1,0,none⟩) Hsz.out).trans Hev.out
  have Hinv:=Lib.hid hinv;have Hown:=Lib.hid hown
  clear hinv hown
  by_cases hlt:L.length < n
  ·have hes:(s.extract k s.size).size ≤ maxLen:=by simp;unfold maxLen;omega
   have he:=ext_list s k
   obtain ⟨lf,hlf⟩:∃ lf,lf = n - L.length:=⟨_,rfl⟩
   have hlf1:L.length + lf = n:=by omega
   have hlf2:(n:Int) - (L.length:Int) = (lf:Int):=by omega
   have hlf0:0 < lf:=by omega
   rw [← hlf] at Hinv
   clear hlf
   cases hU:readU (s.data.toList.drop k) with
   | none=>as_aux_lemma =>
    have hc:=fun w1 h=>readUvarint_none (s.extract k s.size) (.iface T x) w1 hes h (by rw [he];exact hU)
    have Hc:=Lib.hid hc
    have hN:=readR_none wd lf _ hlf0 hU
    have HN:=Lib.hid hN
    clear hc he hU hN
    go_wp2_with fail
    refine (Hc.out _ hevr).mono ?_;rintro e w1 ⟨rfl,hb1⟩
    have hev1:=(hb1.cell (p:=⟨1,0,none⟩) (block_lt_of_cell hevr)).trans hevr
    go_wp2_with fail
    go_quiet (fail)
    go_wp2_with fail
    go_ret3
    refine ⟨RRet.bad (by rw [Hinv.out,HN.out];rfl),below_drewN (hb.trans (hb1.mono hb.size)) _⟩
   | some y =>
    obtain ⟨h,kk⟩:=y
    have hc:=fun w1 hh=>readUvarint_some (s.extract k s.size) (.iface T x) w1 hes hh (by rw [he];exact hU)
    have Hc:=Lib.hid hc
    obtain ⟨hl1,hl2,hl3,hl4⟩:=readU_lt hU
    rw [List.length_drop,HSl.out] at hl3
    have HU:=Lib.hid hU
    clear hc he hU
    have hsh:h / 2 < 9223372036854775808:=by omega
    by_cases hbad:h < 2 ∨ lf < h / 2
    ·have HN:=Lib.hid (readR_bad wd lf h kk _ hlf0 HU.out hbad)
     by_cases hb2:h < 2
     focus
      clear hbad
      go_wp2_with fail
      refine (Hc.out _ hevr).mono ?_;rintro e w1 ⟨rfl,hb1⟩
      have hev1:=(hb1.cell (p:=⟨1,0,none⟩) (block_lt_of_cell hevr)).trans hevr
      go_wp2_with fail
     rotate_left
     focus
      have hb3:lf < h / 2:=by omega
      clear hbad
      go_wp2_with fail
      refine (Hc.out _ hevr).mono ?_;rintro e w1 ⟨rfl,hb1⟩
      have hev1:=(hb1.cell (p:=⟨1,0,none⟩) (block_lt_of_cell hevr)).trans hevr
      go_wp2_with fail
     all_goals
      go_quiet (fail)
      go_wp2_with fail
      go_ret3
      refine ⟨RRet.bad (by rw [Hinv.out,HN.out];rfl),below_drewN (hb.trans (hb1.mono hb.size)) _⟩
    ·have hb2:¬ h < 2:=fun h'=>hbad (.inl h')
     have hb3:h / 2 ≤ lf:=by omega
     have Hbad:=Lib.hid hbad
     clear hbad
     obtain ⟨c,hc2⟩:∃ c,c = h / 2:=⟨_,rfl⟩
     have hcI:((h:Int) / 2) = (c:Int):=by omega
     have hcl:c ≤ lf:=by omega
     have hc0:1 ≤ c:=by omega
     have hkk:k + kk ≤ s.size:=by omega
     have Hc2:=Lib.hid hc2
     clear hc2 hb3 hsh
     by_cases hpar:h % 2 = 0
     ·as_aux_lemma =>
      have hand:bits .and .u64 (h:Int) 1 = 0:=by
       rw [show (1:Int) = ((1:Nat):Int) from rfl,u64_and_nat _ 1 hl1 (by decide),nat_mask1,hpar];rfl
      have hz1:∀ w1,Calls Tryz.prog 75 #[.int .i64 1,.int .i64 (wd:Nat)] w1 fun e w'=>e = .returned (.int .i64 ((sizeB wd:Nat):Int)) ∧ w' = w1:=by
       intro w1
       refine (size_any 1 wd (by omega) hw w1).mono ?_
       rintro e w2 ⟨rfl,rfl⟩
       exact ⟨by rw [Nat.one_mul];rfl,rfl⟩
      have Hz1:=Lib.hid hz1
      have hz4:sizeB wd ≤ 4:=by unfold sizeB;omega
      have HZ:=Lib.hid (readR_even_bad wd lf h kk _ hlf0 HU.out Hbad.out hpar)
      have HY:=Lib.hid (readR_even wd lf h kk _ hlf0 HU.out Hbad.out hpar)
      clear hz1 hpar
      generalize sizeB wd = z at *
      rw [List.drop_drop,List.drop_drop,List.length_drop,HSl.out] at HY
      rw [List.drop_drop,List.length_drop,HSl.out] at HZ
      by_cases hfit:k + kk + z ≤ s.size
      ·have hxl:((s.data.toList.drop (k + kk)).take z).length = z:=by rw [List.length_take,List.length_drop,HSl.out];omega
       have hx8:=unlittle_lt ((s.data.toList.drop (k + kk)).take z)
       rw [hxl] at hx8
       have hx9:unlittle ((s.data.toList.drop (k + kk)).take z) < 4294967296:=Nat.lt_of_lt_of_le hx8 (Nat.le_trans (Nat.pow_le_pow_right (by decide) hz4) (by decide))
       have hG:∀ w1,Calls Tryz.prog 76 #[.string (s.extract (k + kk) (k + kk + z) ++ ⟨#[0,0,0,0]⟩),.int .i64 0,.int .i64 (8 * (z:Int))] w1 fun e w'=>e = .returned (.int .u64 ((unlittle ((s.data.toList.drop (k + kk)).take z):Nat):Int)) ∧ w' = w1:=by
        intro w1
        have hsz:(s.extract (k + kk) (k + kk + z) ++ ⟨#[0,0,0,0]⟩:ByteArray).size = z + 4:=by
         rw [ByteArray.size_append,ByteArray.size_extract]
         show min (k + kk + z) s.size - (k + kk) + 4 = z + 4
         omega
        have h1:=get_any (s.extract (k + kk) (k + kk + z) ++ ⟨#[0,0,0,0]⟩) 0 (8 * z) w1 (by omega) (by rw [hsz];omega) (by rw [hsz];omega)
        refine h1.mono ?_
        rintro e w2 ⟨rfl,rfl⟩
        refine ⟨?_,rfl⟩
        have e1:(s.extract (k + kk) (k + kk + z) ++ ⟨#[0,0,0,0]⟩:ByteArray).data.toList = (s.data.toList.drop (k + kk)).take z ++ [0,0,0,0]:=by
         rw [ByteArray.data_append,Array.toList_append,ext_list2]
        rw [e1,unl_pad _ z hxl]
       have HG:=Lib.hid hG
       clear hG hx8 hxl
       generalize unlittle ((s.data.toList.drop (k + kk)).take z) = xv at *
       by_cases hxw:xv < 2 ^ wd
       ·have hd0:((xv:Int) / 2 ^ wd) = 0:=by
         rw [show ((2:Int) ^ wd) = ((2 ^ wd:Nat):Int) by simp,← Int.natCast_ediv,Nat.div_eq_of_lt hxw];rfl
        have HX:=Lib.hid hxw
        clear hxw
        go_wp2_with fail
        refine (Hc.out _ hevr).mono ?_;rintro e w1 ⟨rfl,hb1⟩
        go_wp2_with fail
        refine (Hz1.out _).mono ?_;rintro e w2 ⟨rfl,rfl⟩
        go_wp2_with fail
        refine (HG.out _).mono ?_;rintro e w3 ⟨rfl,rfl⟩
        go_wp2_with fail
        have hown2:=own_below Hown.out hb1
        have hb2':=hb.trans (hb1.mono hb.size)
        have Hown2:=Lib.hid hown2
        clear hown2 hb1
        go_loopw [6,97] (fun u i wr'=>∃ j:Nat,j ≤ c ∧ i = .int .i64 (j:Nat) ∧ wr'.ownsRow w.heap.size 3 1 u (L ++ List.replicate j xv).length ((L ++ List.replicate j xv).map natV) ∧ Below w.heap.size w wr') (fun _ i _=>c - (intOf i).toNat)
        case atStart=>exact ⟨0,Nat.zero_le _,rfl,by simpa using Hown2.out,hb2'⟩
        case round =>
         obtain ⟨j,hj,rfl,hownj,hbj⟩:=hrel
         have HL:=Lib.hid (show (L ++ List.replicate j xv).length = L.length + j by simp)
         have HS:=Lib.hid (repl_snoc xv j L)
         obtain ⟨Lj,hLj⟩:∃ Lj,Lj = L ++ List.replicate j xv:=⟨_,rfl⟩
         rw [← hLj] at HL HS hownj
         have HLj:=Lib.hid hLj
         clear hLj
         have Hownj:=Lib.hid hownj
         clear hownj
         by_cases hjc:j < c
         ·have h63:Lj.length + 1 ≤ maxLen:=by rw [HL.out];unfold maxLen;omega
          have h64:(Lj.length + 1) * 8 ≤ 140737488355328:=by rw [HL.out];omega
          go_wp2_with (at_builtin;refine wpList_push rfl _ _ 22 rfl w.heap.size 3 i0 (.int .i64 0) 8 Tryz.underlying22 hi hz0 hz1 hz2 rfl natV (fun _=>rfl) _ _ rfl Hownj.out _ _ rfl h63 h64 hbj.size xv rfl ?_;intro v' w2 hown' hb' hnn;have Ho':=Lib.hid hown';clear hown')
          go_roundw
          case rel=>exact ⟨j + 1,by omega,by go_num,by rw [← HS.out];exact Ho'.out,hbj.trans hb'⟩
          case measure=>simp [intOf];omega
         ·obtain rfl:j = c:=by omega
          obtain ⟨ad2,cap2,rfl⟩:=own_form Hownj.out
          go_wp2_with fail
          go_roundw
          case rel =>
           have h1:=HY.out (by intro h;rcases h with h | h;omega;exact absurd HX.out (by omega))
           refine ⟨Lj,k + kk + z,by rw [HL.out];omega,hfit,by go_num,Hownj.out,hbj,?_⟩
           rw [Hinv.out,h1,Option.map_map,← Hc2.out,HLj.out,List.length_append,List.length_replicate,show k + (kk + z) = k + kk + z by omega,show n - (L.length + j) = lf - j by omega]
           congr 1
           funext y
           simp [Nat.add_assoc]
          case measure=>simp [lenOf];rw [HL.out];omega
       ·have h2:2 ^ wd ≤ xv:=by omega
        have hd0:0 < ((xv:Int) / 2 ^ wd):=by
         rw [show ((2:Int) ^ wd) = ((2 ^ wd:Nat):Int) by simp,← Int.natCast_ediv]
         have:=Nat.div_pos h2 (Nat.pow_pos (by decide:0 < 2))
         omega
        have hN:=HZ.out (.inr h2)
        have HN:=Lib.hid hN
        clear hN hxw h2
        go_wp2_with fail
        refine (Hc.out _ hevr).mono ?_;rintro e w1 ⟨rfl,hb1⟩
        have hev1:=(hb1.cell (p:=⟨1,0,none⟩) (block_lt_of_cell hevr)).trans hevr
        go_wp2_with fail
        refine (Hz1.out _).mono ?_;rintro e w2 ⟨rfl,rfl⟩
        go_wp2_with fail
        refine (HG.out _).mono ?_;rintro e w3 ⟨rfl,rfl⟩
        go_wp2_with fail
        go_quiet (fail)
        go_wp2_with fail
        go_ret3
        refine ⟨RRet.bad (by rw [Hinv.out,HN.out];rfl),below_drewN (hb.trans (hb1.mono hb.size)) _⟩
      ·have hN:=HZ.out (.inl (by omega))
       have HN:=Lib.hid hN
       clear hN
       have hfit':s.size < k + kk + z:=by omega
       go_wp2_with fail
       refine (Hc.out _ hevr).mono ?_;rintro e w1 ⟨rfl,hb1⟩
       have hev1:=(hb1.cell (p:=⟨1,0,none⟩) (block_lt_of_cell hevr)).trans hevr
       go_wp2_with fail
       refine (Hz1.out _).mono ?_;rintro e w2 ⟨rfl,rfl⟩
       go_wp2_with fail
       go_quiet (fail)
       go_wp2_with fail
       go_ret3
       refine ⟨RRet.bad (by rw [Hinv.out,HN.out];rfl),below_drewN (hb.trans (hb1.mono hb.size)) _⟩
     ·as_aux_lemma =>
      have hpar1:h % 2 = 1:=by omega
      have hand:bits .and .u64 (h:Int) 1 = 1:=by
       rw [show (1:Int) = ((1:Nat):Int) from rfl,u64_and_nat _ 1 hl1 (by decide),nat_mask1,hpar1]
      have hY:=readR_odd wd lf h kk _ hlf0 HU.out Hbad.out hpar1
      have hZ:=readR_odd_bad wd lf h kk _ hlf0 HU.out Hbad.out hpar1
      rw [List.drop_drop,List.drop_drop,List.length_drop,HSl.out,← Hc2.out] at hY
      rw [List.drop_drop,List.length_drop,HSl.out,← Hc2.out] at hZ
      have HY:=Lib.hid hY;have HZ:=Lib.hid hZ
      clear hY hZ hpar hpar1
      have hcw:c * wd ≤ 20000 * 32:=Nat.mul_le_mul (by omega) hw
      obtain ⟨A,hA⟩:∃ A,A = c * wd:=⟨_,rfl⟩
      have hwA:IntKind.i64.wrap ((c:Int) * (wd:Int)) = (A:Int):=by rw [hA,← Int.natCast_mul];exact wrap_small _ (by omega) (by omega)
      have hA2:A ≤ 640000:=by omega
      rw [← hA] at HY HZ
      have HA:=Lib.hid hA
      clear hA hcw
      by_cases hfit:k + kk + A ≤ s.size ∧ 8 * c < lf + 8
      ·obtain ⟨hf1,hf2⟩:=hfit
       go_wp2_with fail
       refine (Hc.out _ hevr).mono ?_;rintro e w1 ⟨rfl,hb1⟩
       have hev1:=(hb1.cell (p:=⟨1,0,none⟩) (block_lt_of_cell hevr)).trans hevr
       go_wp2_with fail
       have hown2:=own_below Hown.out hb1
       have hb2':=hb.trans (hb1.mono hb.size)
       have Hown2:=Lib.hid hown2
       clear hown2 hb1
       have hAm:∀ j,j < 8 * c → j * wd + wd ≤ 8 * (s.size - (k + kk)) ∧ j * wd ≤ 6000000:=by
        intro j hj
        have h1:(j + 1) * wd ≤ 8 * c * wd:=Nat.mul_le_mul_right _ hj
        rw [Nat.mul_assoc,← HA.out,Nat.add_one_mul] at h1
        omega
       have hG:∀ j,j < 8 * c → ∀ w1,Calls Tryz.prog 76 #[.string (s.extract (k + kk) s.size),.int .i64 ((j * wd:Nat):Int),.int .i64 (wd:Nat)] w1 fun e w'=>e = .returned (.int .u64 ((unlittle (s.data.toList.drop (k + kk)) / 2 ^ (j * wd) % 2 ^ wd:Nat):Int)) ∧ w' = w1:=by
        intro j hj w1
        have h1:=get_any (s.extract (k + kk) s.size) (j * wd) wd w1 hw (by rw [ByteArray.size_extract,Nat.min_self];exact (hAm j hj).1) (by rw [ByteArray.size_extract];omega)
        rwa [ext_list] at h1
       have hAt:∀ j,j < 8 * c → (getAll (unlittle (s.data.toList.drop (k + kk))) wd (8 * c))[j]? = some (unlittle (s.data.toList.drop (k + kk)) / 2 ^ (j * wd) % 2 ^ wd):=fun j hj=>getAll_at _ _ _ _ hj
       have HG:=Lib.hid hG;have HAm:=Lib.hid hAm;have HAt:=Lib.hid hAt
       clear hG hAm hAt
       generalize unlittle (s.data.toList.drop (k + kk)) = V at *
       go_loopw [6,7,127] (fun u a i wr'=>∃ j:Nat,a = .int .i64 ((k:Int) + (kk:Int)) ∧ j ≤ 8 * c ∧ i = .int .i64 (j:Nat) ∧ wr'.ownsRow w.heap.size 3 1 u (L ++ (getAll V wd j).take lf).length ((L ++ (getAll V wd j).take lf).map natV) ∧ Below w.heap.size w wr' ∧ ∀ x ∈ (getAll V wd j).drop lf,x = 0) (fun _ _ i _=>8 * c - (intOf i).toNat)
       case atStart=>exact ⟨0,rfl,Nat.zero_le _,rfl,by simpa [getAll] using Hown2.out,hb2',by simp [getAll]⟩
       case round =>
        obtain ⟨j,rfl,hj,rfl,hownj,hbj,hz0⟩:=hrel
        have Hz0:=Lib.hid hz0
        have HL:=Lib.hid (show (L ++ (getAll V wd j).take lf).length = L.length + min lf j by simp [getAll_len])
        have Hsn:=Lib.hid (getAll_succ V wd j)
        obtain ⟨Lj,hLj⟩:∃ Lj,Lj = L ++ (getAll V wd j).take lf:=⟨_,rfl⟩
        rw [← hLj] at HL hownj
        have HLj:=Lib.hid hLj
        have Hownj:=Lib.hid hownj
        clear hLj hownj hz0
        have hevj:=(hbj.cell (p:=⟨1,0,none⟩) Hsz.out).trans Hev.out
        by_cases hjc:j < 8 * c
        ·have HGj:=Lib.hid (HG.out j hjc)
         obtain ⟨hjw1,hjw2⟩:=HAm.out j hjc
         have hwj:IntKind.i64.wrap ((j:Int) * (wd:Int)) = ((j * wd:Nat):Int):=by rw [← Int.natCast_mul];exact wrap_small _ (by omega) (by omega)
         have hxx:V / 2 ^ (j * wd) % 2 ^ wd < 4294967297:=Nat.lt_of_lt_of_le (Nat.mod_lt _ (Nat.pow_pos (by decide))) (Nat.le_trans (Nat.pow_le_pow_right (by decide:2 > 0) hw) (by decide))
         have HAj:=Lib.hid (HAt.out j hjc)
         obtain ⟨jw,hjw⟩:∃ jw,jw = j * wd:=⟨_,rfl⟩
         rw [← hjw] at hwj HGj hjw1 hjw2 hxx HAj Hsn
         generalize V / 2 ^ jw % 2 ^ wd = xj at *
         clear hjw
         by_cases hjl:j < lf
         ·have h63:Lj.length + 1 ≤ maxLen:=by rw [HL.out];unfold maxLen;omega
          have h64:(Lj.length + 1) * 8 ≤ 140737488355328:=by rw [HL.out];omega
          go_wp2_with fail
          refine (HGj.out _).mono ?_;rintro e w3 ⟨rfl,rfl⟩
          go_wp2_with (at_builtin;refine wpList_push rfl _ _ 22 rfl w.heap.size 3 i0 (.int .i64 0) 8 Tryz.underlying22 hi hz0 hz1 hz2 rfl natV (fun _=>rfl) _ _ rfl Hownj.out _ _ rfl h63 h64 hbj.size xj rfl ?_;intro v' w2 hown' hb' hnn;have Ho':=Lib.hid hown';clear hown')
          go_roundw
          case rel =>
           have hl:=getAll_len V wd j
           refine ⟨j + 1,rfl,by omega,by go_num,?_,hbj.trans hb',?_⟩
           ·have h:=Ho'.out
            rw [HLj.out,List.take_of_length_le (by omega)] at h
            rw [Hsn.out,List.take_of_length_le (by rw [List.length_append,hl];simp;omega),← List.append_assoc]
            exact h
           ·rw [Hsn.out,List.drop_eq_nil_of_le (by rw [List.length_append,hl];simp;omega)]
            simp
          case measure=>simp [intOf];omega
         ·by_cases hx0:xj = 0
          ·subst hx0
           go_wp2_with fail
           refine (HGj.out _).mono ?_;rintro e w3 ⟨rfl,rfl⟩
           go_wp2_with fail
           go_roundw
           case rel =>
            have hl:=getAll_len V wd j
            refine ⟨j + 1,rfl,by omega,by go_num,?_,hbj,?_⟩
            ·have h:=Hownj.out
             rw [HLj.out] at h
             rw [Hsn.out,List.take_append_of_le_length (by omega)]
             exact h
            ·rw [Hsn.out,List.drop_append_of_le_length (by omega)]
             intro x hx
             rcases List.mem_append.1 hx with hx | hx
             ·exact Hz0.out x hx
             ·simpa using hx
           case measure=>simp [intOf];omega
          ·have hne:¬ ((xj:Int) = 0):=by omega
           have hN:=HZ.out (.inr (.inr (by
            intro h
            refine hx0 (h xj ?_)
            refine List.mem_of_getElem? (i:=j - lf) ?_
            rw [List.getElem?_drop,show lf + (j - lf) = j by omega]
            exact HAj.out)))
           have HN:=Lib.hid hN
           clear hN
           go_wp2_with fail
           refine (HGj.out _).mono ?_;rintro e w3 ⟨rfl,rfl⟩
           go_wp2_with fail
           go_quiet (fail)
           go_wp2_with fail
           go_ret3
           refine ⟨RRet.bad (by rw [Hinv.out,HN.out];rfl),below_drewN hbj _⟩
        ·obtain rfl:j = 8 * c:=by omega
         obtain ⟨ad2,cap2,rfl⟩:=own_form Hownj.out
         go_wp2_with fail
         go_roundw
         case rel =>
          have h1:=HY.out (by
           intro h
           rcases h with h | h | h
           ·omega
           ·omega
           ·exact h Hz0.out)
          refine ⟨Lj,k + kk + A,by rw [HL.out];omega,hf1,by go_num,Hownj.out,hbj,?_⟩
          rw [Hinv.out,h1,Option.map_map,HL.out,HLj.out,show k + (kk + A) = k + kk + A by omega,show n - (L.length + min lf (8 * c)) = lf - 8 * c by omega]
          congr 1
          funext y
          simp [Nat.add_assoc]
         case measure=>simp [lenOf];rw [HL.out];omega
      ·have hN:=HZ.out (by omega)
       have HN:=Lib.hid hN
       clear hN
       by_cases hf1:k + kk + A ≤ s.size
       focus
        have hf2:8 ≤ c * 8 - (lf:Int):=by omega
        clear hfit
        go_wp2_with fail
        refine (Hc.out _ hevr).mono ?_;rintro e w1 ⟨rfl,hb1⟩
        have hev1:=(hb1.cell (p:=⟨1,0,none⟩) (block_lt_of_cell hevr)).trans hevr
        go_wp2_with fail
       rotate_left
       focus
        have hf2:s.size < k + kk + A:=by omega
        clear hfit
        go_wp2_with fail
        refine (Hc.out _ hevr).mono ?_;rintro e w1 ⟨rfl,hb1⟩
        have hev1:=(hb1.cell (p:=⟨1,0,none⟩) (block_lt_of_cell hevr)).trans hevr
        go_wp2_with fail
       all_goals
        go_quiet (fail)
        go_wp2_with fail
        go_ret3
        refine ⟨RRet.bad (by rw [Hinv.out,HN.out];rfl),below_drewN (hb.trans (hb1.mono hb.size)) _⟩
  ·go_wp2_with fail
   go_ret3
   have hLe:L.length = n:=by omega
   have hr:readR wd n s.data.toList = some (L,k):=by rw [Hinv.out,hLe,Nat.sub_self,readR_zero];simp
   exact ⟨by rw [hr];exact ⟨_,rfl,Hown.out⟩,hb⟩
end Go.Proofs.YtapiabmmfmfaeaaGreatDoor
/- Merged texts: RunsOf. -/
/- The walk of the document's RunsOf. -/
namespace Go.Proofs.YtapiabmmfmfaeaaGreatDoor
set_option linter.unusedVariables false
open Go Go.RowKit Go.ChangeShapes
end Go.Proofs.YtapiabmmfmfaeaaGreatDoor
