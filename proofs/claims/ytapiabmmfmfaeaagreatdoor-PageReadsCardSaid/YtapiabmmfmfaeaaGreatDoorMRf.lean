/- Merged texts: RfP, RfN, RfB, RfDi, RfX. -/
import Derived.Test.YtapiabmmfmfaeaaGreatDoorMRd
import Derived.Test.YtapiabmmfmfaeaaGreatDoorMRef
import Derived.Test.YtapiabmmfmfaeaaGreatDoorRdDi
import Derived.Test.YtapiabmmfmfaeaaGreatDoorMReadsO
/- The walk of the document's ReadPlainOf. -/
namespace Go.Proofs.YtapiabmmfmfaeaaGreatDoor
set_option maxHeartbeats 8000000
set_option linter.unusedVariables false
open Go Go.RowKit Go.ChangeShapes
def RfRet (B:Nat) (r:Option (List Val)) (e:Ending) (w':World):Prop :=
 match r with
 | none=>∃ u,e = .returned (.tuple #[u,.bool false])
 | some l=>∃ u,e = .returned (.tuple #[u,.bool true]) ∧ w'.ownsRow B 41 3 u l.length (l.flatMap valCells)
theorem RfRet.bad {B:Nat} {r:Option (List Val)} {u:Value} {b:Bool} {w':World} (h:r = none) (hb:b = false):RfRet B r (.returned (.tuple #[u,.bool b])) w':=by rw [h,hb];exact ⟨u,rfl⟩
theorem RfRet.good {B:Nat} {r:Option (List Val)} {l:List Val} {u:Value} {b:Bool} {w':World} (h:r = some l) (hb:b = true) (ho:w'.ownsRow B 41 3 u l.length (l.flatMap valCells)):RfRet B r (.returned (.tuple #[u,.bool b])) w':=by rw [h,hb];exact ⟨u,rfl,ho⟩
theorem bown_base2 {w:World} {B B' n s:Nat} {e:TypeId} {v:Value} {xs:List Value} (h:w.ownsRow B e s v n xs) (hB:B' ≤ B):w.ownsRow B' e s v n xs:=by
 refine ⟨h.1,?_⟩
 rcases h.2 with h0 | ⟨g,cap,cur,hv,h1,h2,h3⟩
 ·exact .inl h0
 ·exact .inr ⟨g,cap,cur,hv,Nat.le_trans hB h1,h2,h3⟩
theorem unlittle_mid (s:List UInt8) (j z:Nat) (h:j * z + z ≤ s.length):unlittle ((s.drop (j * z)).take z) = unlittle s / 2 ^ (j * (8 * z)) % 2 ^ (8 * z):=by
 have e1:s = s.take (j * z) ++ s.drop (j * z):=(List.take_append_drop _ _).symm
 have e2:s.drop (j * z) = (s.drop (j * z)).take z ++ (s.drop (j * z)).drop z:=(List.take_append_drop _ _).symm
 have l1:(s.take (j * z)).length = j * z:=by rw [List.length_take];omega
 have l2:((s.drop (j * z)).take z).length = z:=by rw [List.length_take,List.length_drop];omega
 have h1:=unlittle_lt (s.take (j * z))
 have h2:=unlittle_lt ((s.drop (j * z)).take z)
 rw [l1] at h1
 rw [l2] at h2
 have hu:unlittle s = unlittle (s.take (j * z)) + 256 ^ (j * z) * (unlittle ((s.drop (j * z)).take z) + 256 ^ z * unlittle ((s.drop (j * z)).drop z)):=by
  conv=>lhs;rw [e1,unlittle_append,l1,e2,unlittle_append,l2]
 rw [hu,show j * (8 * z) = 8 * (j * z) by rw [Nat.mul_left_comm],pow256,pow256,Nat.add_mul_div_left _ _ (Nat.pow_pos (by decide)),Nat.div_eq_of_lt h1,Nat.zero_add,Nat.add_mul_mod_self_left,Nat.mod_eq_of_lt h2]
set_option maxRecDepth 100000 in
theorem readPlainOf_texts (s:ByteArray) (n:Nat) (w:World) (hn:n ≤ 20000) (hs:s.size ≤ 1000000) :
    Calls Tryz.prog 55 #[.int .i64 4,.string s,.int .i64 (n:Nat)] w fun e w'=>RfRet w.heap.size (readTs n s.data.toList) e w' ∧ Below w.heap.size w w':=by
  go_enter Tryz.func55,Tryz.ntmps55
  go_wp2_with fail
  go_loopw [1,8,12] (fun re u i wr=>∃ (L:List Val) (r:ByteArray),L.length ≤ n ∧ i = .int .i64 (L.length:Nat) ∧ re = .string r ∧ r.size ≤ s.size ∧
    wr.ownsRow w.heap.size 41 3 u L.length (L.flatMap valCells) ∧ Below w.heap.size w wr ∧
    readTs n s.data.toList = (readTs (n - L.length) r.data.toList).map (L ++ ·)) (fun _ _ i _=>n - (intOf i).toNat)
  case atStart=>exact ⟨[],s,Nat.zero_le _,rfl,rfl,Nat.le_refl _,World.ownsRow_nil _ _ _ _,Below.refl _ _,by simp⟩
  case round =>
    obtain ⟨L,r,hLn,rfl,rfl,hrs,hown,hb,hinv⟩:=hrel
    have Hinv:=Lib.hid hinv;have Hown:=Lib.hid hown;have Hb:=Lib.hid hb
    have hrm:r.size ≤ maxLen:=by unfold maxLen;omega
    have hbs:=hb.size
    clear hinv hown hb
    by_cases hlt:L.length < n
    · have hlt':(L.length:Int) < (n:Int):=by omega
      obtain ⟨lf,hlf⟩:∃ lf,n - L.length = lf + 1:=⟨n - L.length - 1,by omega⟩
      have Hlf:=Lib.hid hlf
      rw [hlf] at Hinv
      clear hlf
      cases hT:readT r.data.toList with
      | none =>
        have Hc:=Lib.hid (fun w1=>readLong_none r w1 hrm hT)
        have HN:=Lib.hid (show readTs (lf + 1) r.data.toList = none by unfold readTs;rw [hT])
        clear hT
        go_wp2_with fail
        refine (Hc.out _).mono ?_;rintro e w1 ⟨rfl,rfl⟩
        go_wp2_with fail
        go_ret2
        exact ⟨RfRet.bad (by rw [Hinv.out,HN.out];rfl) rfl,Hb.out⟩
      | some y =>
        obtain ⟨t,k⟩:=y
        have Hc:=Lib.hid (fun w1=>readLong_some r w1 hrm hT)
        obtain ⟨_,htk,ht2,hkr⟩:=readT_inv hT
        have hk0:0 < k:=by
          obtain ⟨n',u',hr',_,_,_,hk'⟩:=readT_cases hT
          have:=readU_lt hr'
          omega
        have hkI0:((k:Int) == 0) = false:=by rw [beq_eq_false_iff_ne];omega
        have hrl:r.data.toList.length = r.size:=by simp
        rw [hrl] at hkr
        have HT:=Lib.hid hT
        clear hT hrl htk
        by_cases h100:100 < t.length
        · have HN:=Lib.hid (show readTs (lf + 1) r.data.toList = none by unfold readTs;rw [HT.out];simp only [];rw [if_pos h100])
          have h100':(100:Int) < (t.length:Int):=by omega
          go_wp2_with fail
          refine (Hc.out _).mono ?_;rintro e w1 ⟨rfl,rfl⟩
          go_wp2_with fail
          go_ret2
          exact ⟨RfRet.bad (by rw [Hinv.out,HN.out];rfl) rfl,Hb.out⟩
        · have HN:=Lib.hid (show readTs (lf + 1) r.data.toList = (readTs lf (r.data.toList.drop k)).map (textV t :: ·) from readTs_step HT.out h100)
          have h100':(t.length:Int) ≤ 100:=by omega
          have hl2:L.length ≤ 20000:=by omega
          have hkI:(k:Int) ≤ (r.size:Int):=by omega
          go_wp2_with fail
          refine (Hc.out _).mono ?_;rintro e w1 ⟨rfl,rfl⟩
          go_wp2_with (at_builtin;refine wpList_pushVal rfl _ _ rfl w.heap.size _ L rfl Hown.out _ _ rfl rfl hl2 hbs (textV t) _ rfl ?_;intro v' w4 hown' hgrow' hb';have HO4:=Lib.hid hown';have HB4:=Lib.hid (Hb.out.trans hb');clear hown' hgrow' hb')
          go_roundw
          case rel =>
            have hl1:(L ++ [textV t]).length = L.length + 1:=by simp
            refine ⟨L ++ [textV t],r.extract k r.size,by omega,by rw [hl1];rfl,rfl,by simp;omega,HO4.out,HB4.out,?_⟩
            rw [Hinv.out,HN.out,Option.map_map,bext_list,hl1,show n - (L.length + 1) = lf by have:=Hlf.out;omega]
            congr 1
            funext y
            simp
          case measure=>simp [intOf];omega
    · obtain rfl:L.length = n:=by omega
      rw [Nat.sub_self] at Hinv
      obtain ⟨adu,capu,rfl⟩:=bslice_form Hown.out
      have hie:=empty_beq' r
      by_cases hr0:r.size = 0
      · have HR:=Lib.hid (show readTs L.length s.data.toList = some L by
          rw [Hinv.out,show r.data.toList = [] by rw [empty_list hr0]]
          simp [readTs])
        have Hie:=Lib.hid (show r.toList.isEmpty = true by rw [hie];simpa using hr0)
        clear hr0 hie
        go_wp2_with fail
        go_ret2
        exact ⟨RfRet.good HR.out (by simpa using Hie.out) Hown.out,Hb.out⟩
      · have HR:=Lib.hid (show readTs L.length s.data.toList = none by
          rw [Hinv.out]
          have:r.data.toList ≠ []:=by intro e;apply hr0;rw [← size_data,e];rfl
          simp [readTs,this])
        have Hie:=Lib.hid (show r.toList.isEmpty = false by rw [hie,decide_eq_false_iff_not];exact hr0)
        clear hr0 hie
        go_wp2_with fail
        go_ret2
        exact ⟨RfRet.bad HR.out (by simpa using Hie.out),Hb.out⟩
end Go.Proofs.YtapiabmmfmfaeaaGreatDoor
/- The walk of the document's ReadPlainOf at numbers. -/
namespace Go.Proofs.YtapiabmmfmfaeaaGreatDoor
set_option maxHeartbeats 8000000
set_option linter.unusedVariables false
open Go Go.RowKit Go.ChangeShapes
theorem cell_n {kind z a:Int} (h:z = a):(#[.int .i64 kind,.int .i64 z,.string ⟨#[]⟩]:Array Value) = valA ⟨kind,a,⟨#[]⟩⟩:=by rw [h];rfl
theorem sign_hi {xx:Nat} (h:2147483647 < xx) (h2:xx < 4294967296):signN 2 xx = (xx:Int) - 4294967296:=by unfold signN;rw [if_pos rfl,if_neg (by omega)]
theorem sign_lo {xx:Nat} (h:¬ 2147483647 < xx):signN 2 xx = (xx:Int):=by unfold signN;rw [if_pos rfl,if_pos (by omega)]
theorem sign_35 {kind:Int} {xx:Nat} (hk:kind ≠ 2) (h:xx < 18446744073709551616):wrap64 (xx:Int) = signN kind xx:=by
 unfold wrap64 signN
 rw [if_neg hk]
 split <;> omega
set_option maxRecDepth 100000 in
theorem readPlainOf_num2 (s:ByteArray) (n:Nat) (w:World) (hn:n ≤ 20000) (hs:s.size ≤ 1000000) :
    Calls Tryz.prog 55 #[.int .i64 2,.string s,.int .i64 (n:Nat)] w fun e w'=>RfRet w.heap.size (readP 2 s.data.toList n) e w' ∧ Below w.heap.size w w':=by
  have hsl:s.data.toList.length = s.size:=by simp
  have hwz:wdOf 2 = 8 * 4:=rfl
  obtain ⟨X,hX⟩:∃ X:Nat → Nat,∀ j,X j = unlittle s.data.toList / 2 ^ (j * (8 * 4)) % 2 ^ (8 * 4):=⟨_,fun _=>rfl⟩
  have HM:=Lib.hid (show ∀ j,j * 4 + 4 ≤ s.size → unlittle ((s.data.toList.drop (j * 4)).take 4) = X j from fun j h=>by rw [hX];exact unlittle_mid _ j 4 (by rw [hsl];exact h))
  have HXb:=Lib.hid (show ∀ j,X j < 4294967296 from fun j=>by
    have h:=Nat.mod_lt (unlittle s.data.toList / 2 ^ (j * (8 * 4))) (Nat.pow_pos (n:=8 * 4) (by decide:0 < 2))
    rw [← hX j] at h
    have e:(2:Nat) ^ (8 * 4) = 4294967296:=by decide
    rw [e] at h;exact h)
  obtain ⟨LV,hLV⟩:∃ LV:Nat → List Val,∀ j,LV j = (getAll (unlittle s.data.toList) (8 * 4) j).map (numV 2):=⟨_,fun _=>rfl⟩
  have HL0:=Lib.hid (show LV 0 = [] by rw [hLV];rfl)
  have HLl:=Lib.hid (show ∀ j,(LV j).length = j from fun j=>by rw [hLV,List.length_map,getAll_len])
  have HLs:=Lib.hid (show ∀ j,LV (j + 1) = LV j ++ [numV 2 (X j)] from fun j=>by
    rw [hLV,hLV,show getAll (unlittle s.data.toList) (8 * 4) (j + 1) = getAll (unlittle s.data.toList) (8 * 4) j ++ [_] from rfl,List.map_append,hX];rfl)
  have HR1:=Lib.hid (show s.size = n * 4 → readP 2 s.data.toList n = some (LV n) from fun h=>by
    rw [readP_num (by decide) (by decide) (by rw [hsl,hwz,h];omega),hwz,hLV])
  have HR2:=Lib.hid (show s.size ≠ n * 4 → readP 2 s.data.toList n = none from fun h=>readP_short (by decide) (by rw [hsl,hwz];omega))
  clear hX hLV hwz hsl
  go_enter Tryz.func55,Tryz.ntmps55
  go_wp2_with fail
  go_loopw [1,8,12] (fun re u i wr=>∃ (j:Nat) (r:ByteArray),j ≤ n ∧ i = .int .i64 (j:Nat) ∧ re = .string r ∧ r.data.toList = s.data.toList.drop (j * 4) ∧ j * 4 + r.size = s.size ∧ wr.ownsRow w.heap.size 41 3 u (LV j).length ((LV j).flatMap valCells) ∧ Below w.heap.size w wr) (fun _ _ i _=>n - (intOf i).toNat)
  case atStart=>exact ⟨0,s,Nat.zero_le _,rfl,rfl,by rw [Nat.zero_mul];rfl,by omega,by rw [HL0.out];exact World.ownsRow_nil _ _ _ _,Below.refl _ _⟩
  case round =>
    obtain ⟨j,r,hj,rfl,rfl,hre,hrs,hown,hb⟩:=hrel
    have Hown:=Lib.hid hown;have Hb:=Lib.hid hb;have Hre:=Lib.hid hre;have Hrs:=Lib.hid hrs
    have hrm:r.size ≤ maxLen:=by unfold maxLen;omega
    have hrs2:r.size ≤ 1000000:=by omega
    have hbs:=hb.size
    clear hown hb hre hrs
    by_cases hlt:j < n
    · have hlt':(j:Int) < (n:Int):=by omega
      by_cases hsh:r.size < 4
      · have hshI:(r.size:Int) < 4:=by omega
        have HN:=Lib.hid (show readP 2 s.data.toList n = none from HR2.out (by have:=Hrs.out;omega))
        go_wp2_with fail
        go_ret2
        exact ⟨RfRet.bad HN.out rfl,Hb.out⟩
      · have hshI:¬ (r.size:Int) < 4:=by omega
        have hshN:4 ≤ r.size:=by omega
        have HC:=Lib.hid (fun w1=>show Calls Tryz.prog 53 #[.string r,.int .i64 4] w1 fun e w'=>e = .returned (.int .u64 (X j:Nat)) ∧ w' = w1 from by
          have h:=readLittle_any r 4 w1 (by decide) hshN hrm
          rwa [Hre.out,HM.out j (by have:=Hrs.out;omega)] at h)
        have HSj:=Lib.hid (HLs.out j)
        have hxb:=HXb.out j
        have hll:=HLl.out j
        have hl2:(LV j).length ≤ 20000:=by omega
        generalize X j = xx at *
        generalize LV j = Lj at *
        clear hll hsh
        by_cases hhi:2147483647 < xx
        · have hhiI:(2147483647:Int) < (xx:Int):=by omega
          go_wp2_with fail
          refine (HC.out _).mono ?_;rintro e w3 ⟨rfl,rfl⟩
          go_wp2_with (at_builtin;refine wpList_pushVal rfl _ _ rfl w.heap.size _ Lj rfl Hown.out _ _ rfl rfl hl2 hbs (numV 2 xx) _ ?_ ?_;(focus exact cell_n ((sign_hi hhi hxb).symm));intro v' w4 hown' hgrow' hb';have HO4:=Lib.hid hown';have HB4:=Lib.hid (Hb.out.trans hb');clear hown' hgrow' hb')
          go_roundw
          case rel =>
            have hO5:=HO4.out
            rw [← HSj.out] at hO5
            refine ⟨j + 1,r.extract 4 r.size,by omega,by go_num,rfl,?_,?_,hO5,HB4.out⟩
            · rw [bext_list,Hre.out,List.drop_drop,Nat.add_one_mul]
            · have:=Hrs.out;simp;omega
          case measure=>simp [intOf];omega
        · have hhiI:¬ (2147483647:Int) < (xx:Int):=by omega
          go_wp2_with fail
          refine (HC.out _).mono ?_;rintro e w3 ⟨rfl,rfl⟩
          go_wp2_with (at_builtin;refine wpList_pushVal rfl _ _ rfl w.heap.size _ Lj rfl Hown.out _ _ rfl rfl hl2 hbs (numV 2 xx) _ ?_ ?_;(focus exact cell_n ((sign_lo hhi).symm));intro v' w4 hown' hgrow' hb';have HO4:=Lib.hid hown';have HB4:=Lib.hid (Hb.out.trans hb');clear hown' hgrow' hb')
          go_roundw
          case rel =>
            have hO5:=HO4.out
            rw [← HSj.out] at hO5
            refine ⟨j + 1,r.extract 4 r.size,by omega,by go_num,rfl,?_,?_,hO5,HB4.out⟩
            · rw [bext_list,Hre.out,List.drop_drop,Nat.add_one_mul]
            · have:=Hrs.out;simp;omega
          case measure=>simp [intOf];omega
    · obtain rfl:j = n:=by omega
      rw [HLl.out j] at Hown
      obtain ⟨adu,capu,hu⟩:=bslice_form Hown.out
      subst hu
      have hie:=empty_beq' r
      by_cases hr0:r.size = 0
      · have Hie:=Lib.hid (show r.toList.isEmpty = true by rw [hie];simpa using hr0)
        have HN:=Lib.hid (HR1.out (by have:=Hrs.out;omega))
        clear hr0 hie
        go_wp2_with fail
        go_ret2
        exact ⟨RfRet.good HN.out (by simpa using Hie.out) (by rw [HLl.out j];exact Hown.out),Hb.out⟩
      · have Hie:=Lib.hid (show r.toList.isEmpty = false by rw [hie,decide_eq_false_iff_not];exact hr0)
        have HN:=Lib.hid (HR2.out (by have:=Hrs.out;omega))
        clear hr0 hie
        go_wp2_with fail
        go_ret2
        exact ⟨RfRet.bad HN.out (by simpa using Hie.out),Hb.out⟩
set_option maxRecDepth 100000 in
theorem readPlainOf_num3 (s:ByteArray) (n:Nat) (w:World) (hn:n ≤ 20000) (hs:s.size ≤ 1000000) :
    Calls Tryz.prog 55 #[.int .i64 3,.string s,.int .i64 (n:Nat)] w fun e w'=>RfRet w.heap.size (readP 3 s.data.toList n) e w' ∧ Below w.heap.size w w':=by
  have hsl:s.data.toList.length = s.size:=by simp
  have hwz:wdOf 3 = 8 * 8:=rfl
  obtain ⟨X,hX⟩:∃ X:Nat → Nat,∀ j,X j = unlittle s.data.toList / 2 ^ (j * (8 * 8)) % 2 ^ (8 * 8):=⟨_,fun _=>rfl⟩
  have HM:=Lib.hid (show ∀ j,j * 8 + 8 ≤ s.size → unlittle ((s.data.toList.drop (j * 8)).take 8) = X j from fun j h=>by rw [hX];exact unlittle_mid _ j 8 (by rw [hsl];exact h))
  have HXb:=Lib.hid (show ∀ j,X j < 18446744073709551616 from fun j=>by
    have h:=Nat.mod_lt (unlittle s.data.toList / 2 ^ (j * (8 * 8))) (Nat.pow_pos (n:=8 * 8) (by decide:0 < 2))
    rw [← hX j] at h
    have e:(2:Nat) ^ (8 * 8) = 18446744073709551616:=by decide
    rw [e] at h;exact h)
  obtain ⟨LV,hLV⟩:∃ LV:Nat → List Val,∀ j,LV j = (getAll (unlittle s.data.toList) (8 * 8) j).map (numV 3):=⟨_,fun _=>rfl⟩
  have HL0:=Lib.hid (show LV 0 = [] by rw [hLV];rfl)
  have HLl:=Lib.hid (show ∀ j,(LV j).length = j from fun j=>by rw [hLV,List.length_map,getAll_len])
  have HLs:=Lib.hid (show ∀ j,LV (j + 1) = LV j ++ [numV 3 (X j)] from fun j=>by
    rw [hLV,hLV,show getAll (unlittle s.data.toList) (8 * 8) (j + 1) = getAll (unlittle s.data.toList) (8 * 8) j ++ [_] from rfl,List.map_append,hX];rfl)
  have HR1:=Lib.hid (show s.size = n * 8 → readP 3 s.data.toList n = some (LV n) from fun h=>by
    rw [readP_num (by decide) (by decide) (by rw [hsl,hwz,h];omega),hwz,hLV])
  have HR2:=Lib.hid (show s.size ≠ n * 8 → readP 3 s.data.toList n = none from fun h=>readP_short (by decide) (by rw [hsl,hwz];omega))
  clear hX hLV hwz hsl
  go_enter Tryz.func55,Tryz.ntmps55
  go_wp2_with fail
  go_loopw [1,8,12] (fun re u i wr=>∃ (j:Nat) (r:ByteArray),j ≤ n ∧ i = .int .i64 (j:Nat) ∧ re = .string r ∧ r.data.toList = s.data.toList.drop (j * 8) ∧ j * 8 + r.size = s.size ∧ wr.ownsRow w.heap.size 41 3 u (LV j).length ((LV j).flatMap valCells) ∧ Below w.heap.size w wr) (fun _ _ i _=>n - (intOf i).toNat)
  case atStart=>exact ⟨0,s,Nat.zero_le _,rfl,rfl,by rw [Nat.zero_mul];rfl,by omega,by rw [HL0.out];exact World.ownsRow_nil _ _ _ _,Below.refl _ _⟩
  case round =>
    obtain ⟨j,r,hj,rfl,rfl,hre,hrs,hown,hb⟩:=hrel
    have Hown:=Lib.hid hown;have Hb:=Lib.hid hb;have Hre:=Lib.hid hre;have Hrs:=Lib.hid hrs
    have hrm:r.size ≤ maxLen:=by unfold maxLen;omega
    have hrs2:r.size ≤ 1000000:=by omega
    have hbs:=hb.size
    clear hown hb hre hrs
    by_cases hlt:j < n
    · have hlt':(j:Int) < (n:Int):=by omega
      by_cases hsh:r.size < 8
      · have hshI:(r.size:Int) < 8:=by omega
        have HN:=Lib.hid (show readP 3 s.data.toList n = none from HR2.out (by have:=Hrs.out;omega))
        go_wp2_with fail
        go_ret2
        exact ⟨RfRet.bad HN.out rfl,Hb.out⟩
      · have hshI:¬ (r.size:Int) < 8:=by omega
        have hshN:8 ≤ r.size:=by omega
        have HC:=Lib.hid (fun w1=>show Calls Tryz.prog 53 #[.string r,.int .i64 8] w1 fun e w'=>e = .returned (.int .u64 (X j:Nat)) ∧ w' = w1 from by
          have h:=readLittle_any r 8 w1 (by decide) hshN hrm
          rwa [Hre.out,HM.out j (by have:=Hrs.out;omega)] at h)
        have HSj:=Lib.hid (HLs.out j)
        have hxb:=HXb.out j
        have hll:=HLl.out j
        have hl2:(LV j).length ≤ 20000:=by omega
        generalize X j = xx at *
        generalize LV j = Lj at *
        clear hll hsh
        have hk2:True:=trivial
        go_wp2_with fail
        refine (HC.out _).mono ?_;rintro e w3 ⟨rfl,rfl⟩
        go_wp2_with (at_builtin;refine wpList_pushVal rfl _ _ rfl w.heap.size _ Lj rfl Hown.out _ _ rfl rfl hl2 hbs (numV 3 xx) _ ?_ ?_;(focus exact cell_n (sign_35 (by decide) hxb));intro v' w4 hown' hgrow' hb';have HO4:=Lib.hid hown';have HB4:=Lib.hid (Hb.out.trans hb');clear hown' hgrow' hb')
        go_roundw
        case rel =>
          have hO5:=HO4.out
          rw [← HSj.out] at hO5
          refine ⟨j + 1,r.extract 8 r.size,by omega,by go_num,rfl,?_,?_,hO5,HB4.out⟩
          · rw [bext_list,Hre.out,List.drop_drop,Nat.add_one_mul]
          · have:=Hrs.out;simp;omega
        case measure=>simp [intOf];omega
    · obtain rfl:j = n:=by omega
      rw [HLl.out j] at Hown
      obtain ⟨adu,capu,hu⟩:=bslice_form Hown.out
      subst hu
      have hie:=empty_beq' r
      by_cases hr0:r.size = 0
      · have Hie:=Lib.hid (show r.toList.isEmpty = true by rw [hie];simpa using hr0)
        have HN:=Lib.hid (HR1.out (by have:=Hrs.out;omega))
        clear hr0 hie
        go_wp2_with fail
        go_ret2
        exact ⟨RfRet.good HN.out (by simpa using Hie.out) (by rw [HLl.out j];exact Hown.out),Hb.out⟩
      · have Hie:=Lib.hid (show r.toList.isEmpty = false by rw [hie,decide_eq_false_iff_not];exact hr0)
        have HN:=Lib.hid (HR2.out (by have:=Hrs.out;omega))
        clear hr0 hie
        go_wp2_with fail
        go_ret2
        exact ⟨RfRet.bad HN.out (by simpa using Hie.out),Hb.out⟩
set_option maxRecDepth 100000 in
theorem readPlainOf_num5 (s:ByteArray) (n:Nat) (w:World) (hn:n ≤ 20000) (hs:s.size ≤ 1000000) :
    Calls Tryz.prog 55 #[.int .i64 5,.string s,.int .i64 (n:Nat)] w fun e w'=>RfRet w.heap.size (readP 5 s.data.toList n) e w' ∧ Below w.heap.size w w':=by
  have hsl:s.data.toList.length = s.size:=by simp
  have hwz:wdOf 5 = 8 * 8:=rfl
  obtain ⟨X,hX⟩:∃ X:Nat → Nat,∀ j,X j = unlittle s.data.toList / 2 ^ (j * (8 * 8)) % 2 ^ (8 * 8):=⟨_,fun _=>rfl⟩
  have HM:=Lib.hid (show ∀ j,j * 8 + 8 ≤ s.size → unlittle ((s.data.toList.drop (j * 8)).take 8) = X j from fun j h=>by rw [hX];exact unlittle_mid _ j 8 (by rw [hsl];exact h))
  have HXb:=Lib.hid (show ∀ j,X j < 18446744073709551616 from fun j=>by
    have h:=Nat.mod_lt (unlittle s.data.toList / 2 ^ (j * (8 * 8))) (Nat.pow_pos (n:=8 * 8) (by decide:0 < 2))
    rw [← hX j] at h
    have e:(2:Nat) ^ (8 * 8) = 18446744073709551616:=by decide
    rw [e] at h;exact h)
  obtain ⟨LV,hLV⟩:∃ LV:Nat → List Val,∀ j,LV j = (getAll (unlittle s.data.toList) (8 * 8) j).map (numV 5):=⟨_,fun _=>rfl⟩
  have HL0:=Lib.hid (show LV 0 = [] by rw [hLV];rfl)
  have HLl:=Lib.hid (show ∀ j,(LV j).length = j from fun j=>by rw [hLV,List.length_map,getAll_len])
  have HLs:=Lib.hid (show ∀ j,LV (j + 1) = LV j ++ [numV 5 (X j)] from fun j=>by
    rw [hLV,hLV,show getAll (unlittle s.data.toList) (8 * 8) (j + 1) = getAll (unlittle s.data.toList) (8 * 8) j ++ [_] from rfl,List.map_append,hX];rfl)
  have HR1:=Lib.hid (show s.size = n * 8 → readP 5 s.data.toList n = some (LV n) from fun h=>by
    rw [readP_num (by decide) (by decide) (by rw [hsl,hwz,h];omega),hwz,hLV])
  have HR2:=Lib.hid (show s.size ≠ n * 8 → readP 5 s.data.toList n = none from fun h=>readP_short (by decide) (by rw [hsl,hwz];omega))
  clear hX hLV hwz hsl
  go_enter Tryz.func55,Tryz.ntmps55
  go_wp2_with fail
  go_loopw [1,8,12] (fun re u i wr=>∃ (j:Nat) (r:ByteArray),j ≤ n ∧ i = .int .i64 (j:Nat) ∧ re = .string r ∧ r.data.toList = s.data.toList.drop (j * 8) ∧ j * 8 + r.size = s.size ∧ wr.ownsRow w.heap.size 41 3 u (LV j).length ((LV j).flatMap valCells) ∧ Below w.heap.size w wr) (fun _ _ i _=>n - (intOf i).toNat)
  case atStart=>exact ⟨0,s,Nat.zero_le _,rfl,rfl,by rw [Nat.zero_mul];rfl,by omega,by rw [HL0.out];exact World.ownsRow_nil _ _ _ _,Below.refl _ _⟩
  case round =>
    obtain ⟨j,r,hj,rfl,rfl,hre,hrs,hown,hb⟩:=hrel
    have Hown:=Lib.hid hown;have Hb:=Lib.hid hb;have Hre:=Lib.hid hre;have Hrs:=Lib.hid hrs
    have hrm:r.size ≤ maxLen:=by unfold maxLen;omega
    have hrs2:r.size ≤ 1000000:=by omega
    have hbs:=hb.size
    clear hown hb hre hrs
    by_cases hlt:j < n
    · have hlt':(j:Int) < (n:Int):=by omega
      by_cases hsh:r.size < 8
      · have hshI:(r.size:Int) < 8:=by omega
        have HN:=Lib.hid (show readP 5 s.data.toList n = none from HR2.out (by have:=Hrs.out;omega))
        go_wp2_with fail
        go_ret2
        exact ⟨RfRet.bad HN.out rfl,Hb.out⟩
      · have hshI:¬ (r.size:Int) < 8:=by omega
        have hshN:8 ≤ r.size:=by omega
        have HC:=Lib.hid (fun w1=>show Calls Tryz.prog 53 #[.string r,.int .i64 8] w1 fun e w'=>e = .returned (.int .u64 (X j:Nat)) ∧ w' = w1 from by
          have h:=readLittle_any r 8 w1 (by decide) hshN hrm
          rwa [Hre.out,HM.out j (by have:=Hrs.out;omega)] at h)
        have HSj:=Lib.hid (HLs.out j)
        have hxb:=HXb.out j
        have hll:=HLl.out j
        have hl2:(LV j).length ≤ 20000:=by omega
        generalize X j = xx at *
        generalize LV j = Lj at *
        clear hll hsh
        have hk2:True:=trivial
        go_wp2_with fail
        refine (HC.out _).mono ?_;rintro e w3 ⟨rfl,rfl⟩
        go_wp2_with (at_builtin;refine wpList_pushVal rfl _ _ rfl w.heap.size _ Lj rfl Hown.out _ _ rfl rfl hl2 hbs (numV 5 xx) _ ?_ ?_;(focus exact cell_n (sign_35 (by decide) hxb));intro v' w4 hown' hgrow' hb';have HO4:=Lib.hid hown';have HB4:=Lib.hid (Hb.out.trans hb');clear hown' hgrow' hb')
        go_roundw
        case rel =>
          have hO5:=HO4.out
          rw [← HSj.out] at hO5
          refine ⟨j + 1,r.extract 8 r.size,by omega,by go_num,rfl,?_,?_,hO5,HB4.out⟩
          · rw [bext_list,Hre.out,List.drop_drop,Nat.add_one_mul]
          · have:=Hrs.out;simp;omega
        case measure=>simp [intOf];omega
    · obtain rfl:j = n:=by omega
      rw [HLl.out j] at Hown
      obtain ⟨adu,capu,hu⟩:=bslice_form Hown.out
      subst hu
      have hie:=empty_beq' r
      by_cases hr0:r.size = 0
      · have Hie:=Lib.hid (show r.toList.isEmpty = true by rw [hie];simpa using hr0)
        have HN:=Lib.hid (HR1.out (by have:=Hrs.out;omega))
        clear hr0 hie
        go_wp2_with fail
        go_ret2
        exact ⟨RfRet.good HN.out (by simpa using Hie.out) (by rw [HLl.out j];exact Hown.out),Hb.out⟩
      · have Hie:=Lib.hid (show r.toList.isEmpty = false by rw [hie,decide_eq_false_iff_not];exact hr0)
        have HN:=Lib.hid (HR2.out (by have:=Hrs.out;omega))
        clear hr0 hie
        go_wp2_with fail
        go_ret2
        exact ⟨RfRet.bad HN.out (by simpa using Hie.out),Hb.out⟩
end Go.Proofs.YtapiabmmfmfaeaaGreatDoor
/- The walk of the document's ReadPlainOf at truth values; ReadPlainOf whole. -/
namespace Go.Proofs.YtapiabmmfmfaeaaGreatDoor
set_option maxHeartbeats 8000000
set_option linter.unusedVariables false
open Go Go.RowKit Go.ChangeShapes
theorem sign_1 {xx:Nat} (h:xx < 2):wrap64 (xx:Int) = signN 1 xx:=sign_35 (by decide) (by omega)
theorem sign_1b {xx:Nat} (h:xx < 2):(xx:Int) = signN 1 xx:=by rw [← sign_1 h];unfold wrap64;omega
set_option maxRecDepth 100000 in
theorem readPlainOf_bool (s:ByteArray) (n:Nat) (w:World) (hn:n ≤ 20000) (hs:s.size ≤ 1000000) :
    Calls Tryz.prog 55 #[.int .i64 1,.string s,.int .i64 (n:Nat)] w fun e w'=>RfRet w.heap.size (readP 1 s.data.toList n) e w' ∧ Below w.heap.size w w':=by
  have hsl:s.data.toList.length = s.size:=by simp
  obtain ⟨G,hG⟩:∃ G,G = getAll (unlittle s.data.toList) 1 n:=⟨_,rfl⟩
  have hGl:G.length = n:=by rw [hG,getAll_len]
  have hGb:∀ x ∈ G,x < 2:=fun x hx=>by rw [hG] at hx;simpa using getAll_lt _ 1 n x hx
  have HGb:=Lib.hid hGb
  have HC:=Lib.hid (fun w1=>unpackOf_any64 s 1 n w1 (by decide) (by omega) hs)
  rw [← hG] at HC
  have hR1:packed 1 G = s.data.toList → readP 1 s.data.toList n = some (G.map (numV 1)):=fun h=>by
    have hl:s.data.toList.length = (n * 1 + 7) / 8:=by rw [← h,packed,bytesOf_len,hGl]
    have hlt:=(packed_getAll s.data.toList 1 n hl).1 (by rw [← hG];exact h)
    unfold readP
    rw [if_neg (by decide),if_pos ⟨hl,fun _=>by simpa using hlt⟩,hG];rfl
  have hR2:packed 1 G ≠ s.data.toList → readP 1 s.data.toList n = none:=fun h=>by
    unfold readP
    rw [if_neg (by decide),if_neg]
    intro hh
    exact h (by rw [hG];exact (packed_getAll s.data.toList 1 n hh.1).2 (by simpa using hh.2 rfl))
  have hR3:8 * s.size < n → readP 1 s.data.toList n = none:=fun h=>by
    unfold readP
    rw [if_neg (by decide),if_neg]
    intro hh
    have:=hh.1
    rw [hsl] at this
    have e:wdOf 1 = 1:=rfl
    rw [e] at this
    omega
  have HR1:=Lib.hid hR1;have HR2:=Lib.hid hR2;have HR3:=Lib.hid hR3
  have HPk:=Lib.hid (show numsOf 1 (G.map (numV 1)) = G from by
    unfold numsOf
    rw [List.map_map]
    refine (List.map_congr_left fun x hx=>?_).trans (List.map_id' _)
    have hx':=hGb x hx
    show uN (numV 1 x) % 2 ^ 1 = x
    have h:=uN_num 1 x (fun h=>absurd h (by decide)) (by omega)
    have e:wdOf 1 = 1:=rfl
    rw [e] at h
    rw [h,Nat.pow_one,Nat.mod_eq_of_lt hx'])
  have HOk:=Lib.hid (show ∀ x ∈ G.map (numV 1),OkP 1 x from fun x hx=>by
    obtain ⟨y,hy,rfl⟩:=List.mem_map.1 hx
    exact (num_ok 1 y (by decide) (by decide) (by decide) (by have:=hGb y hy;exact this)).2)
  have HGl:=Lib.hid hGl
  clear hR1 hR2 hR3 hG hGl hGb hsl
  go_enter Tryz.func55,Tryz.ntmps55
  go_wp2_with fail
  refine (HC.out _).mono ?_;rintro e w1 ⟨hU | hU,hb1⟩
  rotate_left
  focus
    obtain ⟨hlt,rfl⟩:=hU
    have HN:=Lib.hid (HR3.out (by omega))
    go_wp2_with fail
    go_ret2
    exact ⟨RfRet.bad HN.out rfl,hb1⟩
  obtain ⟨hle,uU,rfl,hou⟩:=hU
  rw [← HGl.out] at hou
  have HIu:=Lib.hid (numsU_nat hou)
  obtain ⟨adU,capU,hu⟩:=bslice_form hou
  subst hu
  have Hb1:=Lib.hid hb1
  have hbs1:=hb1.size
  clear hou hb1
  go_wp2_with fail
  go_loopw [8,11] (fun u i wr=>∃ j:Nat,j ≤ n ∧ i = .int .i64 (j:Nat) ∧ wr.ownsRow w1.heap.size 41 3 u ((G.take j).map (numV 1)).length (((G.take j).map (numV 1)).flatMap valCells) ∧ Below w1.heap.size w1 wr) (fun _ i _=>n - (intOf i).toNat)
  case atStart=>exact ⟨0,Nat.zero_le _,rfl,World.ownsRow_nil _ _ _ _,Below.refl _ _⟩
  case round =>
    obtain ⟨j,hj,rfl,hown,hb⟩:=hrel
    have Hown:=Lib.hid hown;have Hb:=Lib.hid hb
    have hbs:=hb.size
    clear hown hb
    by_cases hlt:j < n
    · have hltI:(j:Int) < (n:Int):=by omega
      have hltG:j < G.length:=by rw [HGl.out];exact hlt
      obtain ⟨b1,o1,rfl,hq1,hlt1,hc1⟩:=(HIu.out.below Hb.out (Nat.le_refl _)).at (by rw [show (ints G).length = G.length from List.length_map _];omega)
      have hcp:=hc1 j ((G[j]:Nat):Int) (by rw [show ints G = G.map (fun (q:Nat)=>(q:Int)) from rfl,List.getElem?_map,List.getElem?_eq_getElem hltG];rfl)
      have hpb:=HGb.out _ (List.getElem_mem hltG)
      have htk:G.take (j + 1) = G.take j ++ [G[j]]:=List.take_succ_eq_append_getElem hltG
      have hl2:((G.take j).map (numV 1)).length ≤ 20000:=by rw [List.length_map,List.length_take];omega
      have hltGI:(j:Int) < (G.length:Int):=by omega
      generalize G[j] = p at *
      have Htk:=Lib.hid htk
      clear hc1 htk hq1
      go_wp2_with (at_builtin;refine wpList_pushVal rfl _ _ rfl w1.heap.size _ ((G.take j).map (numV 1)) rfl Hown.out _ _ rfl rfl hl2 hbs (numV 1 p) _ ?_ ?_;(focus (first | exact cell_n (sign_1 hpb) | exact cell_n (sign_1b hpb)));intro v' w8 hown' hgrow' hb';have HO8:=Lib.hid hown';have HB8:=Lib.hid (Hb.out.trans hb');clear hown' hgrow' hb')
      go_roundw
      case rel =>
        have hO9:=HO8.out
        rw [show (G.take j).map (numV 1) ++ [numV 1 p] = (G.take (j + 1)).map (numV 1) by rw [Htk.out];simp] at hO9
        exact ⟨j + 1,by omega,by go_num,hO9,HB8.out⟩
      case measure=>simp [intOf];omega
    · obtain rfl:j = n:=by omega
      rw [List.take_of_length_le (by rw [HGl.out];exact Nat.le_refl _)] at Hown
      have HIl:=Lib.hid (IsVals.of_own Hown.out)
      have HPO:=Lib.hid (fun v=>fun (h:IsVals wr v (G.map (numV 1)))=>plainOf_bools v (G.map (numV 1)) wr h (by rw [List.length_map,HGl.out];exact hn) HOk.out)
      rw [HPk.out] at HPO
      have hml:(G.map (numV 1)).length = j:=by rw [List.length_map,HGl.out]
      rw [hml] at Hown
      obtain ⟨adl,capl,hul⟩:=bslice_form Hown.out
      subst hul
      clear hml
      by_cases he:packed 1 G = s.data.toList
      · have HN:=Lib.hid (HR1.out he)
        have hq:(packed 1 G == s.toList) = true:=by rw [ByteArray.toList_eq,beq_iff_eq];exact he
        clear he
        go_wp2_with fail
        refine (HPO.out _ HIl.out).mono ?_;rintro e w2 ⟨rfl,hb2⟩
        have Ho2:=Lib.hid (bown_below Hown.out hb2)
        have Hb2:=Lib.hid ((Hb1.out.trans (Hb.out.mono hbs1)).trans (hb2.mono (Nat.le_trans hbs1 hbs)))
        clear hb2
        go_wp2_with fail
        go_ret2
        exact ⟨RfRet.good HN.out (by first | rfl | simp [hq]) (by rw [List.length_map,HGl.out];exact bown_base2 Ho2.out hbs1),Hb2.out⟩
      · have HN:=Lib.hid (HR2.out he)
        have hq:(packed 1 G == s.toList) = false:=by rw [ByteArray.toList_eq,beq_eq_false_iff_ne];exact he
        clear he
        go_wp2_with fail
        refine (HPO.out _ HIl.out).mono ?_;rintro e w2 ⟨rfl,hb2⟩
        have Hb2:=Lib.hid ((Hb1.out.trans (Hb.out.mono hbs1)).trans (hb2.mono (Nat.le_trans hbs1 hbs)))
        clear hb2
        go_wp2_with fail
        go_ret2
        exact ⟨RfRet.bad HN.out (by first | rfl | simp [hq]),Hb2.out⟩
theorem readPlainOf_any (kind:Int) (s:ByteArray) (n:Nat) (w:World) (h1:1 ≤ kind) (h5:kind ≤ 5) (hn:n ≤ 20000) (hs:s.size ≤ 1000000) :
  Calls Tryz.prog 55 #[.int .i64 kind,.string s,.int .i64 (n:Nat)] w fun e w'=>RfRet w.heap.size (readP kind s.data.toList n) e w' ∧ Below w.heap.size w w':=by
 have:kind = 1 ∨ kind = 2 ∨ kind = 3 ∨ kind = 4 ∨ kind = 5:=by omega
 rcases this with rfl | rfl | rfl | rfl | rfl
 ·exact readPlainOf_bool s n w hn hs
 ·exact readPlainOf_num2 s n w hn hs
 ·exact readPlainOf_num3 s n w hn hs
 ·exact readPlainOf_texts s n w hn hs
 ·exact readPlainOf_num5 s n w hn hs
end Go.Proofs.YtapiabmmfmfaeaaGreatDoor
/- The walk of the document's ReadDictOf. -/
namespace Go.Proofs.YtapiabmmfmfaeaaGreatDoor
set_option maxHeartbeats 8000000
set_option linter.unusedVariables false
open Go Go.RowKit Go.ChangeShapes
set_option maxRecDepth 100000 in
theorem readDictOf_any (kind:Int) (s:ByteArray) (n:Nat) (w:World) (h1:1 ≤ kind) (h5:kind ≤ 5) (hn:n ≤ 20000) (hs:s.size ≤ 200000) :
    Calls Tryz.prog 59 #[.int .i64 kind,.string s,.int .i64 (n:Nat)] w fun e w'=>RfRet w.heap.size (readDi kind s.data.toList n) e w' ∧ Below w.heap.size w w':=by
  obtain ⟨iv,hiv,hzv,hsv⟩:=val_info
  have hszv:(Tryz.prog.info? 41).map (·.size) = some (valA ⟨0,0,⟨#[]⟩⟩).size:=by rw [hiv];simp [hsv,valA]
  have hsm:s.size ≤ maxLen:=by unfold maxLen;omega
  have hsl:s.data.toList.length = s.size:=by simp
  have Hsl:=Lib.hid hsl
  clear hsl
  cases hU:readU s.data.toList with
  | none=>as_aux_lemma =>
    have HC:=Lib.hid (fun w1=>readSeven_none s w1 hsm hU)
    have HN:=Lib.hid (show readDi kind s.data.toList n = none from readDi_1 hU)
    clear hU
    go_enter Tryz.func59,Tryz.ntmps59
    go_wp2_with fail
    refine (HC.out w).mono ?_;rintro e w1 ⟨rfl,hw1⟩
    subst hw1
    go_wp2_with fail
    go_ret2
    exact ⟨RfRet.bad HN.out rfl,Below.refl _ _⟩
  | some y =>
    obtain ⟨many,u⟩:=y
    have HC:=Lib.hid (fun w1=>readSeven_some s w1 hsm hU)
    obtain ⟨hl1,hl2,hl3,hl4⟩:=readU_lt hU
    rw [Hsl.out] at hl3
    have hu0:((u:Int) == 0) = false:=by rw [beq_eq_false_iff_ne];omega
    have HU:=Lib.hid hU
    clear hU
    by_cases hmn:n < many
    · as_aux_lemma =>
      have HN:=Lib.hid (show readDi kind s.data.toList n = none from readDi_2 HU.out hmn)
      have hmI:(n:Int) < (many:Int):=by omega
      go_enter Tryz.func59,Tryz.ntmps59
      go_wp2_with fail
      refine (HC.out w).mono ?_;rintro e w1 ⟨rfl,hw1⟩
      subst hw1
      go_wp2_with fail
      go_ret2
      exact ⟨RfRet.bad HN.out rfl,Below.refl _ _⟩
    · have hml:many ≤ n:=by omega
      have Hmn:=Lib.hid hmn
      clear hmn
      have hes:(s.extract u s.size).size ≤ maxLen:=by simp;unfold maxLen;omega
      have he:=bext_list s u
      cases hT:readT (s.data.toList.drop u) with
      | none=>as_aux_lemma =>
        have HC2:=Lib.hid (fun w1=>readLong_none (s.extract u s.size) w1 hes (by rw [he];exact hT))
        have HN:=Lib.hid (show readDi kind s.data.toList n = none from readDi_3 HU.out Hmn.out hT)
        clear hT he
        go_enter Tryz.func59,Tryz.ntmps59
        go_wp2_with fail
        refine (HC.out w).mono ?_;rintro e w1 ⟨rfl,hw1⟩
        subst hw1
        go_wp2_with fail
        refine (HC2.out w1).mono ?_;rintro e w2 ⟨rfl,hw2⟩
        subst hw2
        go_wp2_with fail
        go_ret2
        exact ⟨RfRet.bad HN.out rfl,Below.refl _ _⟩
      | some y =>
        obtain ⟨t,m⟩:=y
        have HC2:=Lib.hid (fun w1=>readLong_some (s.extract u s.size) w1 hes (by rw [he];exact hT))
        obtain ⟨_,htk,ht2,hkr⟩:=readT_inv hT
        rw [List.length_drop,Hsl.out] at hkr
        have hum:u + m ≤ s.size:=by omega
        have hm0:0 < m:=by
          obtain ⟨n',u',hr',_,_,_,hk'⟩:=readT_cases hT
          have:=readU_lt hr'
          omega
        have hmI:((m:Int) == 0) = false:=by rw [beq_eq_false_iff_ne];omega
        have htm:t.length ≤ m:=by
          have:(textOf t).length = (seven t.length).length + t.length:=List.length_append
          omega
        have hts:(ByteArray.mk t.toArray).size ≤ 1000000:=by show t.toArray.size ≤ _;simp;omega
        have HC3:=Lib.hid (fun w1=>readPlainOf_any kind ⟨t.toArray⟩ many w1 h1 h5 (by omega) hts)
        have HT:=Lib.hid hT
        clear hT he htk
        cases hP:readP kind t many with
        | none=>as_aux_lemma =>
          have HN:=Lib.hid (show readDi kind s.data.toList n = none from readDi_4 HU.out Hmn.out HT.out hP)
          rw [hP] at HC3
          clear hP
          go_enter Tryz.func59,Tryz.ntmps59
          go_wp2_with fail
          refine (HC.out w).mono ?_;rintro e w1 ⟨rfl,hw1⟩
          subst hw1
          go_wp2_with fail
          refine (HC2.out w1).mono ?_;rintro e w2 ⟨rfl,hw2⟩
          subst hw2
          go_wp2_with fail
          refine (HC3.out w2).mono ?_;rintro e w3 ⟨⟨uv,rfl⟩,hb⟩
          go_wp2_with fail
          go_ret2
          exact ⟨RfRet.bad HN.out rfl,hb⟩
        | some us =>
          obtain ⟨pi1,pi2,pi3,pi4⟩:=readP_inv h1 h5 hP
          have HOu:=Lib.hid pi3
          have husl:us.length ≤ 20000:=by omega
          have HP:=Lib.hid hP
          rw [hP] at HC3
          have hws:=placeW_le2 (n:=many) (by omega)
          have HWm:=Lib.hid (fun w1=>placeWidth_any many (by omega) w1)
          have hrs:(s.extract (u + m) s.size).size ≤ 200000:=by simp;omega
          have hre:=bext_list s (u + m)
          have HC5:=Lib.hid (fun w1=>readRunsOf_any (s.extract (u + m) s.size) (placeW many) n w1 hws hn hrs)
          rw [hre] at HC5
          clear hre pi1 pi2 pi3 pi4 hP hrs
          generalize hpw:placeW many = pw at *
          have Hpw:=Lib.hid hpw
          clear hpw
          cases hR:readR pw n (s.data.toList.drop (u + m)) with
          | none=>as_aux_lemma =>
            have HN:=Lib.hid (show readDi kind s.data.toList n = none from readDi_5 HU.out Hmn.out HT.out HP.out (by rw [Hpw.out];exact hR))
            rw [hR] at HC5
            clear hR
            have hkI:((-1:Int) != ((s.size - (u + m):Nat):Int)) = true:=by rw [bne_iff_ne];omega
            go_enter Tryz.func59,Tryz.ntmps59
            go_wp2_with fail
            refine (HC.out w).mono ?_;rintro e w1 ⟨rfl,hw1⟩
            subst hw1
            go_wp2_with fail
            refine (HC2.out w1).mono ?_;rintro e w2 ⟨rfl,hw2⟩
            subst hw2
            go_wp2_with fail
            refine (HC3.out w2).mono ?_;rintro e w3 ⟨⟨uv,rfl,huv⟩,hb3⟩
            obtain ⟨adv,capv,rfl⟩:=bslice_form huv
            clear huv
            go_wp2_with fail
            refine (HWm.out w3).mono ?_;rintro e w4 ⟨rfl,hw4⟩
            subst hw4
            go_wp2_with fail
            refine (HC5.out w4).mono ?_;rintro e w5 ⟨rfl,hb5⟩
            go_wp2_with fail
            go_ret2
            exact ⟨RfRet.bad HN.out rfl,below_trans hb3 hb5⟩
          | some y =>
            obtain ⟨ps,k⟩:=y
            have hplen:=readR_len2 pw n n _ ps k rfl hR
            have hpl2:ps.length ≤ 20000:=by omega
            clear hplen
            have h6:=readDi_6 HU.out Hmn.out HT.out HP.out (by rw [Hpw.out];exact hR)
            rw [hR] at HC5
            have H6:=Lib.hid h6
            have hdl:(s.data.toList.drop (u + m)).length = s.size - (u + m):=by rw [List.length_drop,Hsl.out]
            rw [hdl] at H6
            clear hR h6 hdl
            go_enter Tryz.func59,Tryz.ntmps59
            go_wp2_with fail
            refine (HC.out w).mono ?_;rintro e w1 ⟨rfl,hw1⟩
            subst hw1
            go_wp2_with fail
            refine (HC2.out w1).mono ?_;rintro e w2 ⟨rfl,hw2⟩
            subst hw2
            go_wp2_with fail
            refine (HC3.out w2).mono ?_;rintro e w3 ⟨⟨uv,rfl,huv⟩,hb3⟩
            have HVs:=Lib.hid (IsVals.of_own huv)
            obtain ⟨adv,capv,rfl⟩:=bslice_form huv
            have Hb3:=Lib.hid hb3
            clear huv hb3
            go_wp2_with fail
            refine (HWm.out w3).mono ?_;rintro e w4 ⟨rfl,hw4⟩
            subst hw4
            go_wp2_with fail
            refine (HC5.out w4).mono ?_;rintro e w6 ⟨⟨pv,rfl,hps⟩,hb⟩
            have Hb6:=Lib.hid (below_trans Hb3.out hb)
            have HVs6:=Lib.hid (HVs.out.below hb (Nat.le_refl _))
            have HPs:=Lib.hid (nums_nat hps)
            obtain ⟨adp,capp,rfl⟩:=bslice_form hps
            clear hb hps
            by_cases hk:k = s.size - (u + m)
            rotate_left
            focus
              have HN:=Lib.hid (show readDi kind s.data.toList n = none by rw [H6.out,if_neg (fun hh=>hk hh.1)])
              have hkI:((k:Int) != ((s.size - (u + m):Nat):Int)) = true:=by rw [bne_iff_ne];omega
              go_wp2_with fail
              go_ret2
              exact ⟨RfRet.bad HN.out rfl,Hb6.out⟩
            subst hk
            go_wp2_with fail
            obtain ⟨f,hf⟩:∃ f:Nat → Val,f = fun p=>us.getD p zeroV:=⟨_,rfl⟩
            rw [← hf] at H6
            have HfO:=Lib.hid (show ∀ p,p < us.length → (f p).Ok from fun p hp=>by rw [hf];exact getD_ok HOu.out hp)
            have HfA:=Lib.hid (show ∀ p,p < us.length → us[p]? = some (f p) from fun p hp=>by rw [hf];exact getD_at hp)
            clear hf
            have hws6:=Hb6.out.size
            go_loopw [17,18] (fun lv iv wr=>∃ j:Nat,j ≤ ps.length ∧ iv = .int .i64 (j:Nat) ∧ wr.ownsRow w6.heap.size 41 3 lv ((ps.take j).map f).length (((ps.take j).map f).flatMap valCells) ∧ (∀ p ∈ ps.take j,p < us.length) ∧ Below w6.heap.size w6 wr) (fun _ iv _=>ps.length - (intOf iv).toNat)
            case atStart=>exact ⟨0,Nat.zero_le _,rfl,World.ownsRow_nil _ _ _ _,by simp,Below.refl _ _⟩
            case round =>
              obtain ⟨j,hj,rfl,hown,hall,hb⟩:=hrel
              have Hown:=Lib.hid hown;have Hall:=Lib.hid hall;have Hb:=Lib.hid hb
              have Hbw:=Lib.hid (Hb6.out.trans (hb.mono hws6))
              have hbs:=hb.size
              clear hown hall hb
              by_cases hlt:j < ps.length
              · have hltI:(j:Int) < (ps.length:Int):=by omega
                obtain ⟨b1,o1,rfl,hq1,hlt1,hc1⟩:=(HPs.out.below Hb.out (Nat.le_refl _)).at (by rw [show (ints ps).length = ps.length from List.length_map _];omega)
                have hcp:=hc1 j ((ps[j]:Nat):Int) (by rw [show ints ps = ps.map (fun (q:Nat)=>(q:Int)) from rfl,List.getElem?_map,List.getElem?_eq_getElem hlt];rfl)
                have hpm:ps[j] ∈ ps:=List.getElem_mem hlt
                have htk:ps.take (j + 1) = ps.take j ++ [ps[j]]:=List.take_succ_eq_append_getElem hlt
                generalize ps[j] = p at *
                have Htk:=Lib.hid htk
                clear hc1 htk hq1
                by_cases hp:p < us.length
                · obtain ⟨b2,o2,rfl,hq2,hlt2,hc2⟩:=(HVs6.out.below Hb.out (Nat.le_refl _)).at (by omega)
                  have hcx:=hc2 p (f p) (HfA.out p hp)
                  have Hcx:=Lib.hid hcx.cells
                  have hpI:¬ (us.length:Int) ≤ (p:Int):=by omega
                  have hpI2:(p:Int) < (us.length:Int):=by omega
                  have hl2:((ps.take j).map f).length ≤ 20000:=by rw [List.length_map,List.length_take];omega
                  have hvs:(valA (f p)).size = 3:=rfl
                  clear hc2 hcx hq2
                  go_wp2_with (first
                    | (refine wpList_load_cells rfl 41 _ rfl b2 (o2 + p * 3) rfl (valA (f p)) _ Hcx.out Tryz.underlying41 rfl hszv ?_)
                    | (at_builtin;refine wpList_pushVal rfl _ _ rfl w6.heap.size _ ((ps.take j).map f) rfl Hown.out _ _ rfl rfl hl2 hbs (f p) _ rfl ?_;intro v' w8 hown' hgrow' hb';have HO8:=Lib.hid hown';have HB8:=Lib.hid (Hb.out.trans hb');clear hown' hgrow' hb'))
                  go_roundw
                  case rel =>
                    have hO9:=HO8.out
                    rw [show (ps.take j).map f ++ [f p] = (ps.take (j + 1)).map f by rw [Htk.out];simp] at hO9
                    refine ⟨j + 1,by omega,by go_num,hO9,?_,HB8.out⟩
                    intro q hq
                    rw [Htk.out] at hq
                    rcases List.mem_append.1 hq with hq | hq
                    · exact Hall.out q hq
                    · obtain rfl:=List.mem_singleton.1 hq;exact hp
                  case measure=>simp [intOf];omega
                · have HN:=Lib.hid (show readDi kind s.data.toList n = none by rw [H6.out,if_neg (fun hh=>hp (hh.2.1 p hpm))])
                  have hpI:(us.length:Int) ≤ (p:Int):=by omega
                  go_wp2_with fail
                  go_ret2
                  exact ⟨RfRet.bad HN.out rfl,Hbw.out⟩
              · obtain rfl:j = ps.length:=by omega
                rw [List.take_length] at Hown Hall
                have hlO:∀ z ∈ ps.map f,z.Ok:=fun z hz=>by
                  obtain ⟨q,hq,rfl⟩:=List.mem_map.1 hz
                  exact HfO.out q (Hall.out q hq)
                have HUn:=Lib.hid (fun v=>fun (h:IsVals wr v (ps.map f))=>unlikeOf_any v (ps.map f) wr h (by rw [List.length_map];omega) hlO)
                have HIl:=Lib.hid (IsVals.of_own Hown.out)
                rw [List.length_map] at Hown
                obtain ⟨adl,capl,rfl⟩:=bslice_form Hown.out
                clear hlO
                go_wp2_with fail
                refine (HUn.out _ HIl.out).mono ?_;rintro e w7 ⟨⟨vs2,ps2,rfl,hv2,_⟩,hb7⟩
                have Ho7:=Lib.hid (bown_below Hown.out hb7)
                have Hb7:=Lib.hid (Hbw.out.trans (hb7.mono Hbw.out.size))
                have HVs7:=Lib.hid ((HVs6.out.below Hb.out (Nat.le_refl _)).below hb7 (Nat.le_refl _))
                have HI7:=Lib.hid (IsVals.of_own hv2)
                have hfl7:=(unlikeV_len (ps.map f) []).2
                rw [List.length_nil,Nat.zero_add,List.length_map] at hfl7
                have H7:=Lib.hid (show readDi kind s.data.toList n = if sameB (unlikeV [] (ps.map f)) us = true then some (ps.map f) else none by
                  rw [H6.out]
                  by_cases h:sameB (unlikeV [] (ps.map f)) us = true
                  · rw [if_pos ⟨by first | rfl | trivial,Hall.out,h⟩,if_pos h]
                  · rw [if_neg (fun hh=>h hh.2.2),if_neg h])
                clear hb7 hv2
                generalize unlikeV [] (ps.map f) = fs at *
                have HSv:=Lib.hid (sameValues_any vs2 (.slice adv us.length capv) fs us w7 HI7.out HVs7.out (by unfold maxLen;omega) (by unfold maxLen;omega))
                go_wp2_with fail
                refine HSv.out.mono ?_;rintro e w9 ⟨rfl,hb9⟩
                have Hb9:=Lib.hid (Hb7.out.trans (hb9.mono Hb7.out.size))
                have Ho9:=Lib.hid (bown_below Ho7.out hb9)
                clear hb9
                go_wp2_with fail
                go_ret2
                refine ⟨?_,Hb9.out⟩
                cases hsb:sameB fs us with
                | false =>
                  rw [hsb] at H7
                  exact RfRet.bad H7.out rfl
                | true =>
                  rw [hsb] at H7
                  exact RfRet.good (l:=ps.map f) (by rw [H7.out];rfl) rfl (by rw [List.length_map];exact bown_base2 Ho9.out hws6)
end Go.Proofs.YtapiabmmfmfaeaaGreatDoor
/- The walk of the document's ReadPrefixOf. -/
namespace Go.Proofs.YtapiabmmfmfaeaaGreatDoor
set_option maxHeartbeats 8000000
set_option linter.unusedVariables false
open Go Go.RowKit Go.ChangeShapes
def XfRet (r:Option (List (List UInt8))) (e:Ending) (w':World):Prop :=
 ∃ u ls b,e = .returned (.tuple #[u,.bool b]) ∧ IsStrs w' u ls ∧ ls.length ≤ 20000 ∧ r = if b then some (bytesL ls) else none
theorem XfRet.bad {r:Option (List (List UInt8))} {w':World} (h:r = none):XfRet r (.returned (.tuple #[.slice none 0 0,.bool false])) w':=⟨_,[],false,rfl,.inl ⟨rfl,none,0,rfl⟩,Nat.zero_le _,by rw [h];rfl⟩
set_option maxRecDepth 100000 in
theorem readPrefixOf_any (s:ByteArray) (n:Nat) (w:World) (hn:n ≤ 20000) (hs:s.size ≤ 200000) :
  Calls Tryz.prog 61 #[.string s,.int .i64 (n:Nat)] w fun e w'=>XfRet (readX s.data.toList n) e w' ∧ Below w.heap.size w w':=by
 obtain ⟨i0,hi,hz0,hz1,hz2⟩:=info_parts info_strX
 go_enter Tryz.func61,Tryz.ntmps61
 go_wp2_with fail
 go_loopw [6,7,8,9] (fun u re la i wr=>∃ (L:List ByteArray) (r:ByteArray) (last:List UInt8),L.length ≤ n ∧ i = .int .i64 (L.length:Nat) ∧ re = .string r ∧ la = .string ⟨last.toArray⟩ ∧ r.size ≤ s.size ∧ last.length ≤ 100 ∧
  wr.ownsRow w.heap.size 9 1 u L.length (L.map strV) ∧ (∀ y ∈ L,y.size ≤ 100) ∧ Below w.heap.size w wr ∧
  prefixP [] n s.data.toList = (prefixP last (n - L.length) r.data.toList).map (bytesL L ++ ·)) (fun _ _ _ i _=>n - (intOf i).toNat)
 case atStart=>exact ⟨[],s,[],Nat.zero_le _,rfl,rfl,rfl,Nat.le_refl _,Nat.zero_le _,World.ownsRow_nil _ _ _ _,by simp,Below.refl _ _,by simp [bytesL]⟩
 case round =>
  obtain ⟨L,r,last,hLn,rfl,rfl,rfl,hrs,hls,hown,hall,hb,hinv⟩:=hrel
  have Hinv:=Lib.hid hinv;have Hown:=Lib.hid hown;have Hall:=Lib.hid hall;have Hb:=Lib.hid hb
  have hrm:r.size ≤ maxLen:=by unfold maxLen;omega
  have hbs:=hb.size
  clear hinv hown hall hb
  by_cases hlt:L.length < n
  ·have hlt':(L.length:Int) < (n:Int):=by omega
   obtain ⟨lf,hlf⟩:∃ lf,n - L.length = lf + 1:=⟨n - L.length - 1,by omega⟩
   have Hlf:=Lib.hid hlf
   rw [hlf] at Hinv
   clear hlf
   cases hU:readU r.data.toList with
   | none =>
    have Hc:=Lib.hid (fun w1=>readSeven_none r w1 hrm hU)
    have HN:=Lib.hid (show prefixP last (lf + 1) r.data.toList = none by unfold prefixP;rw [hU])
    clear hU
    go_wp2_with fail
    refine (Hc.out _).mono ?_;rintro e w1 ⟨rfl,rfl⟩
    go_wp2_with fail
    go_ret2
    refine ⟨XfRet.bad (readX_none (by rw [Hinv.out,HN.out];rfl)),Hb.out⟩
   | some y =>
    obtain ⟨k,kk⟩:=y
    have Hc:=Lib.hid (fun w1=>readSeven_some r w1 hrm hU)
    obtain ⟨hl1,hl2,hl3,hl4⟩:=readU_lt hU
    have hrl:r.data.toList.length = r.size:=by simp
    rw [hrl] at hl3
    have HU:=Lib.hid hU
    have hkk0:((kk:Int) == 0) = false:=by rw [beq_eq_false_iff_ne];omega
    clear hU hrl
    by_cases hkl:last.length < k
    ·have HN:=Lib.hid (show prefixP last (lf + 1) r.data.toList = none by unfold prefixP;rw [HU.out];simp only [];rw [if_pos hkl])
     have hki:(last.length:Int) < (k:Int):=by omega
     go_wp2_with fail
     refine (Hc.out _).mono ?_;rintro e w1 ⟨rfl,rfl⟩
     go_wp2_with fail
     go_ret2
     refine ⟨XfRet.bad (readX_none (by rw [Hinv.out,HN.out];rfl)),Hb.out⟩
    ·have hkl':k ≤ last.length:=by omega
     have Hkl:=Lib.hid hkl
     have hes:(r.extract kk r.size).size ≤ maxLen:=by simp;unfold maxLen;omega
     have he:=bext_list r kk
     clear hkl
     cases hT:readT (r.data.toList.drop kk) with
     | none =>
      have HN:=Lib.hid (show prefixP last (lf + 1) r.data.toList = none by unfold prefixP;rw [HU.out];simp only [];rw [if_neg Hkl.out,hT])
      have Hct:=Lib.hid (fun w1=>readLong_none (r.extract kk r.size) w1 hes (by rw [he];exact hT))
      clear hT he
      go_wp2_with fail
      refine (Hc.out _).mono ?_;rintro e w1 ⟨rfl,rfl⟩
      go_wp2_with fail
      refine (Hct.out _).mono ?_;rintro e w2 ⟨rfl,rfl⟩
      go_wp2_with fail
      go_ret2
      refine ⟨XfRet.bad (readX_none (by rw [Hinv.out,HN.out];rfl)),Hb.out⟩
     | some y =>
      obtain ⟨t,m⟩:=y
      have Hct:=Lib.hid (fun w1=>readLong_some (r.extract kk r.size) w1 hes (by rw [he];exact hT))
      have htl:=(readT_inv hT).2
      have hml:=htl.2.2
      have htl2:=htl.2.1
      have hm0:0 < m:=by
       obtain ⟨n',u',hr',_,_,_,hk'⟩:=readT_cases hT
       have:=readU_lt hr'
       omega
      have hmI:((m:Int) == 0) = false:=by rw [beq_eq_false_iff_ne];omega
      rw [List.length_drop] at hml
      have hrl:r.data.toList.length = r.size:=by simp
      rw [hrl] at hml
      have HT:=Lib.hid hT
      clear hT he htl hrl
      by_cases h100:100 < k + t.length
      ·have HN:=Lib.hid (show prefixP last (lf + 1) r.data.toList = none by unfold prefixP;rw [HU.out];simp only [];rw [if_neg Hkl.out,HT.out];simp only [];rw [if_pos h100])
       have h100':(100:Int) < (t.length:Int) + (k:Int):=by omega
       go_wp2_with fail
       refine (Hc.out _).mono ?_;rintro e w1 ⟨rfl,rfl⟩
       go_wp2_with fail
       refine (Hct.out _).mono ?_;rintro e w2 ⟨rfl,rfl⟩
       go_wp2_with fail
       go_ret2
       refine ⟨XfRet.bad (readX_none (by rw [Hinv.out,HN.out];rfl)),Hb.out⟩
      ·have HN:=Lib.hid (show prefixP last (lf + 1) r.data.toList = (prefixP (last.take k ++ t) lf ((r.data.toList.drop kk).drop m)).map ((last.take k ++ t) :: ·) from prefixP_step HU.out Hkl.out HT.out h100)
       have h100':(t.length:Int) + (k:Int) ≤ 100:=by omega
       have h63:L.length + 1 ≤ maxLen:=by unfold maxLen;omega
       have h64:(L.length + 1) * 16 ≤ 140737488355328:=by omega
       have hkm:kk + m ≤ r.size:=by omega
       go_wp2_with fail
       refine (Hc.out _).mono ?_;rintro e w1 ⟨rfl,rfl⟩
       go_wp2_with fail
       refine (Hct.out _).mono ?_;rintro e w2 ⟨rfl,rfl⟩
       go_wp2_with (at_builtin;refine wpList_push rfl _ _ 103 rfl w.heap.size 9 i0 (.string ByteArray.empty) 16 Tryz.underlying103 hi hz0 hz1 hz2 rfl strV (fun _=>rfl) _ _ rfl Hown.out _ _ rfl h63 h64 hbs _ rfl ?_;intro v' w3 hown' hb' hnn;have Ho':=Lib.hid hown';have Hb3:=Lib.hid (Hb.out.trans hb');clear hown' hb')
       go_roundw
       case rel =>
        have hE:(ByteArray.mk last.toArray).extract 0 k ++ ByteArray.mk t.toArray = ⟨(last.take k ++ t).toArray⟩:=by
         rw [ba_extract,ByteArray.mk_append_mk]
         simp
        have hl1:(L ++ [(ByteArray.mk last.toArray).extract 0 k ++ ByteArray.mk t.toArray]).length = L.length + 1:=by simp
        have hlt1:(last.take k ++ t).length ≤ 100:=by rw [List.length_append,List.length_take];omega
        refine ⟨_,r.extract (kk + m) r.size,last.take k ++ t,by rw [hl1];omega,by rw [hl1];rfl,rfl,by rw [hE],by simp;omega,hlt1,Ho'.out,?_,Hb3.out,?_⟩
        ·intro y hy
         rcases List.mem_append.1 hy with hy | hy
         ·exact Hall.out y hy
         ·obtain rfl:=List.mem_singleton.1 hy
          rw [hE];exact hlt1
        ·rw [Hinv.out,HN.out,hl1,show n - (L.length + 1) = lf by have:=Hlf.out;omega,bext_list,Option.map_map,List.drop_drop]
         congr 1
         funext y
         rw [hE]
         simp [bytesL]
       case measure=>simp [intOf];omega
  ·obtain rfl:L.length = n:=by omega
   rw [Nat.sub_self] at Hinv
   have hpa:prefixP [] L.length s.data.toList = some (bytesL L):=by rw [Hinv.out];simp [prefixP]
   have HPx:=Lib.hid (fun w1 hh=>prefixOf_any u6 L w1 hh hn Hall.out)
   have HIs:=Lib.hid (IsStrs.of_own Hown.out)
   obtain ⟨adu,capu,rfl⟩:=bslice_form Hown.out
   have hra:readX s.data.toList L.length = if prefixB [] (bytesL L) = s.data.toList then some (bytesL L) else none:=by unfold readX;rw [hpa]
   have Hra:=Lib.hid hra
   clear hpa hra
   by_cases he:prefixB [] (bytesL L) = s.data.toList
   ·rw [if_pos he] at Hra
    have hneq:(prefixB [] (bytesL L) == s.toList) = true:=by rw [ByteArray.toList_eq,beq_iff_eq];exact he
    clear he
    go_wp2_with fail
    refine (HPx.out _ HIs.out).mono ?_;rintro e w1 ⟨rfl,hb1⟩
    have Ho1:=Lib.hid (bown_below Hown.out hb1)
    have Hb1:=Lib.hid (Hb.out.trans (hb1.mono Hb.out.size))
    clear hb1
    go_wp2_with fail
    go_ret2
    exact ⟨⟨_,L,true,ret_of (by first | rfl | simp [hneq]),IsStrs.of_own Ho1.out,hn,by rw [Hra.out];rfl⟩,Hb1.out⟩
   ·rw [if_neg he] at Hra
    have hneq:(prefixB [] (bytesL L) == s.toList) = false:=by rw [ByteArray.toList_eq,beq_eq_false_iff_ne];exact he
    clear he
    go_wp2_with fail
    refine (HPx.out _ HIs.out).mono ?_;rintro e w1 ⟨rfl,hb1⟩
    have Ho1:=Lib.hid (bown_below Hown.out hb1)
    have Hb1:=Lib.hid (Hb.out.trans (hb1.mono Hb.out.size))
    clear hb1
    go_wp2_with fail
    go_ret2
    exact ⟨⟨_,L,false,ret_of (by first | rfl | simp [hneq]),IsStrs.of_own Ho1.out,hn,by rw [Hra.out];rfl⟩,Hb1.out⟩
end Go.Proofs.YtapiabmmfmfaeaaGreatDoor
