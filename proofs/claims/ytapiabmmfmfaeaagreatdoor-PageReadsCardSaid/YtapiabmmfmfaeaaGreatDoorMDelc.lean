/- Merged texts: DelW2, DelW3. -/
import Derived.Test.YtapiabmmfmfaeaaGreatDoorMDela
import Derived.Test.YtapiabmmfmfaeaaGreatDoorMDelb
import Derived.Test.YtapiabmmfmfaeaaGreatDoorMDel
import Derived.Test.YtapiabmmfmfaeaaGreatDoorMRef
import Derived.Test.YtapiabmmfmfaeaaGreatDoorMBits
/- enc.Delta at whatever numbers. -/
namespace Go.Proofs.YtapiabmmfmfaeaaGreatDoor
set_option maxHeartbeats 8000000
set_option linter.unusedVariables false
open Go Go.RowKit Go.ChangeShapes
set_option maxRecDepth 100000 in
theorem delta_kind (kind:Int) (v:Value) (l:List Val) (w:World) (adr:Nat → Addr) (hE:ErrsAt w adr [2,4]) (hI:IsVals w v l) (h2:kind ≠ 2) (h3:kind ≠ 3) :
  Calls Tryz.prog 82 #[.int .i64 kind,v] w fun e w'=>e = .returned (.tuple #[.string ⟨#[]⟩,.iface 211 (.pointer (some (adr 4)))]) ∧ Below w.heap.size w w':=by
 have e4:=hE.cell 4 (by decide)
 unfold gErr at e4
 obtain ⟨ad,cap,rfl⟩:=hI.form
 have d2:(kind != 2) = true:=by simpa using h2
 have d3:(kind != 3) = true:=by simpa using h3
 clear hE hI h2 h3
 go_enter Tryz.func82,Tryz.ntmps82
 go_wp2_with fail
 go_quiet (fail)
 go_wp2_with fail
 go_ret2
 exact ⟨rfl,below_drewN (Below.refl _ _) _⟩
set_option maxRecDepth 100000 in
theorem delta_err (kind:Int) (hk:kind = 2 ∨ kind = 3) (v:Value) (l:List Val) (w:World) (adr:Nat → Addr) (hE:ErrsAt w adr [2,4]) (hI:IsVals w v l) (hO:∀ x ∈ l,x.Ok) (hn:valsErr kind l ≠ .nil) :
  Calls Tryz.prog 82 #[.int .i64 kind,v] w fun e w'=>(∃ u,e = .returned (.tuple #[.string ⟨#[]⟩,u]) ∧ IsErr w' adr (valsErr kind l) u) ∧ Below w.heap.size w w':=by
 have HC:=Lib.hid (check_any kind v l w adr hE hI hO)
 have HN:=Lib.hid hn
 obtain ⟨ad,cap,rfl⟩:=hI.form
 clear hI hO hE hn
 rcases hk with rfl | rfl
 all_goals
  go_enter Tryz.func82,Tryz.ntmps82
  go_wp2_with fail
  refine HC.out.mono ?_;rintro e w1 ⟨⟨u,rfl,hu⟩,hb1⟩
  have HU:=Lib.hid hu
  obtain ⟨T,a,rfl,hT⟩:=hu.some' HN.out
  clear hu
  rcases hT with rfl | rfl
  all_goals
   go_wp2_with fail
   go_ret2
   exact ⟨⟨_,rfl,HU.out⟩,hb1⟩
set_option maxRecDepth 100000 in
theorem delta_nil (kind:Int) (hk:kind = 2 ∨ kind = 3) (v:Value) (w:World) (hI:IsVals w v []) :
  Calls Tryz.prog 82 #[.int .i64 kind,v] w fun e w'=>e = .returned (.tuple #[.string ⟨#[]⟩,.nilIface]) ∧ Below w.heap.size w w':=by
 have HC:=Lib.hid (check_vals kind v [] w hI (by omega) (by omega) (by simp) (by simp) (by simp))
 obtain ⟨ad,cap,rfl⟩:=hI.form
 clear hI
 rcases hk with rfl | rfl
 all_goals
  go_enter Tryz.func82,Tryz.ntmps82
  go_wp2_with fail
  refine HC.out.mono ?_;rintro e w1 ⟨rfl,hb1⟩
  go_wp2_with fail
  go_ret2
  exact ⟨rfl,hb1⟩
theorem delta_ok (kind:Int) (hk:kind = 2 ∨ kind = 3) (v:Value) (l:List Val) (w:World) (hI:IsVals w v l) (hO:∀ x ∈ l,x.Ok) (hn:valsErr kind l = .nil) :
  Calls Tryz.prog 82 #[.int .i64 kind,v] w fun e w'=>e = .returned (.tuple #[.string ⟨(deltaB (numsI l)).toArray⟩,.nilIface]) ∧ Below w.heap.size w w':=by
 obtain ⟨h1,h5,hl,hP⟩:=valsErr_nil hn
 cases l with
 | nil=>exact delta_nil kind hk v w hI
 | cons a l =>
  rcases hk with h | h
  ·exact delta_some2 kind h v (a :: l) w hI (by simp) hl hO hP
  ·exact delta_some3 kind h v (a :: l) w hI (by simp) hl hO hP
end Go.Proofs.YtapiabmmfmfaeaaGreatDoor
/- The walk of the document's DeltaOf. -/
namespace Go.Proofs.YtapiabmmfmfaeaaGreatDoor
set_option maxHeartbeats 8000000
set_option linter.unusedVariables false
open Go Go.RowKit Go.ChangeShapes
set_option maxRecDepth 100000 in
theorem deltaOf_some (v:Value) (l:List Val) (w:World) (hI:IsVals w v l) (h0:0 < l.length) (hl:l.length ≤ 20000) (hO:∀ x ∈ l,x.Ok) :
    Calls Tryz.prog 89 #[v] w fun e w'=>e = .returned (.string ⟨(deltaB (numsI l)).toArray⟩) ∧ Below w.heap.size w w':=by
  obtain ⟨i0,hi,hz0,hz1,hz2⟩:=info_parts info_i64
  obtain ⟨i1,hinf,hy0,hy1,hy2⟩:=info_parts info_u64
  have HI:=Lib.hid hI;have HO:=Lib.hid hO
  have hLl:(numsI l).length = l.length:=by unfold numsI;rw [List.length_map]
  have hdl:=deltaB_len (numsI l) (fun x hx=>by
    obtain ⟨y,hy,rfl⟩:=List.mem_map.1 hx
    exact ⟨(hO y hy).n0,(hO y hy).n1⟩)
  rw [hLl] at hdl
  have hdl2:(deltaB (numsI l)).length ≤ 6000000:=by omega
  have HLl:=Lib.hid hLl
  obtain ⟨ad,cap,rfl⟩:=hI.form
  have d0:((l.length:Int) == 0) = false:=by rw [beq_eq_false_iff_ne];omega
  have hst:seven (zig (l[0].n)) ++ restB ((numsI l).getD (1 - 1) 0) ((numsI l).drop 1) = deltaB (numsI l):=by
    cases l with
    | nil=>simp at h0
    | cons x l=>rfl
  have Hst:=Lib.hid hst
  have ho0:=hO l[0] (List.getElem_mem h0)
  have HV:=Lib.hid (fun w1=>signed_any l[0].n w1 ho0.n0 ho0.n1)
  have hx0:=List.getElem?_eq_getElem h0
  generalize l[0] = x0 at *
  obtain ⟨b0,off0,rfl,hq,hlt0,hc⟩:=hI.at h0
  have hcx:=(hc 0 x0 hx0).2.1
  rw [Nat.zero_mul,Nat.add_zero] at hcx
  clear hI hO hLl hdl hst ho0 hx0 hc hq
  go_enter Tryz.func89,Tryz.ntmps89
  go_wp2_with fail
  refine (HV.out w).mono ?_;rintro e w2 ⟨rfl,hb2⟩
  have Hb2:=Lib.hid hb2
  clear hb2 hcx
  go_wp2_with fail
  go_loopw [3,4] (fun s iv wr=>∃ (i:Nat) (acc:List UInt8),1 ≤ i ∧ i ≤ l.length + 31 ∧ iv = .int .i64 (i:Nat) ∧ s = .string ⟨acc.toArray⟩ ∧ acc ++ restB ((numsI l).getD (i - 1) 0) ((numsI l).drop i) = deltaB (numsI l) ∧ Below w.heap.size w wr) (fun _ iv _=>l.length + 40 - (intOf iv).toNat)
  case atStart=>exact ⟨1,_,Nat.le_refl _,by omega,rfl,rfl,Hst.out,Hb2.out⟩
  case round =>
    obtain ⟨i,acc,hi1,hi2,rfl,rfl,hacc,hb⟩:=hrel
    have Hacc:=Lib.hid hacc;have Hb:=Lib.hid hb
    clear hacc hb
    by_cases hlt:i < l.length
    · have hcl:(((numsI l).drop i).take 32).length = min 32 (l.length - i):=by rw [List.length_take,List.length_drop,HLl.out]
      have hstep:=restB_step (numsI l) i hi1 (by rw [HLl.out];exact hlt)
      rw [hstep,← List.append_assoc] at Hacc
      have hpl:=diffs_place (numsI l) i
      have hDl:=diffs_len (((numsI l).drop i).take 32) ((numsI l).getD (i - 1) 0)
      have hDin:=diffs_in (((numsI l).drop i).take 32) ((numsI l).getD (i - 1) 0)
      have hcd:=chunkB_eq ((numsI l).getD (i - 1) 0) (((numsI l).drop i).take 32)
      rw [hcl] at hDl
      rw [hcl] at hpl
      have hal:acc.length ≤ 6000000:=by
        have:=congrArg List.length Hacc.out
        rw [List.length_append,List.length_append] at this
        omega
      generalize chunkB ((numsI l).getD (i - 1) 0) (((numsI l).drop i).take 32) = ch at *
      generalize diffs ((numsI l).getD (i - 1) 0) (((numsI l).drop i).take 32) = D at *
      have hm1:1 ≤ min 32 (l.length - i):=by omega
      have hm2:min 32 (l.length - i) ≤ 32:=by omega
      have him:i + min 32 (l.length - i) ≤ l.length:=by omega
      have hm3:min 32 (l.length - i) = 32 ∨ i + min 32 (l.length - i) = l.length:=by omega
      generalize min 32 (l.length - i) = m at *
      have Hpl:=Lib.hid hpl;have HDl:=Lib.hid hDl;have HDin:=Lib.hid hDin;have Hcd:=Lib.hid hcd;have Hm3:=Lib.hid hm3
      clear hcl hstep hpl hDl hDin hcd hm3
      have hin0:(i:Int) < (l.length:Int):=by omega
      go_wp2_with fail
      obtain ⟨wo,hwo⟩:∃ wo:World,wo = wr:=⟨_,rfl⟩
      subst hwo
      go_loopw [5,6] (fun dv kv w3=>∃ j:Nat,j ≤ m ∧ kv = .int .i64 ((i + j:Nat):Int) ∧ w3.ownsRow wo.heap.size 2 1 dv j ((D.take j).map i64V) ∧ Below wo.heap.size wo w3) (fun _ kv _=>l.length + 40 - (intOf kv).toNat)
      case atStart=>exact ⟨0,Nat.zero_le _,by go_num,World.ownsRow_nil _ _ _ _,Below.refl _ _⟩
      case round =>
        obtain ⟨j,hj,rfl,hown,hb3⟩:=hrel
        have Ho:=Lib.hid hown;have Hb3:=Lib.hid hb3
        clear hown hb3
        by_cases hjm:j < m
        · obtain ⟨k,hk⟩:∃ k,k = i + j - 1:=⟨_,rfl⟩
          have hij:i + j = k + 1:=by omega
          obtain ⟨b1,off1,he,hq,hlw,hcq⟩:=(HI.out.below Hb.out (Nat.le_refl _)).at h0
          have hc:=fun (q:Nat) (z:Val) (hz:l[q]? = some z)=>(hcq q z hz).below Hb3.out hlw
          injection he with he
          injection he with he1 he2
          subst he1 he2
          have hx:=List.getElem?_eq_getElem (show k + 1 < l.length by omega)
          have hy:=List.getElem?_eq_getElem (show k < l.length by omega)
          have hcx:=(hc (k + 1) _ hx).2.1
          have hcy:=(hc k _ hy).2.1
          have hcw:=(hcq (k + 1) _ hx).2.1
          have hcv:=(hcq k _ hy).2.1
          have hpj:=Hpl.out j hi1 hjm
          rw [hij,show k + 1 - 1 = k by omega,numsI_at l (k + 1) (by omega),numsI_at l k (by omega)] at hpj
          have hd:IntKind.i64.wrap ((l[k + 1]'(by omega)).n - (l[k]'(by omega)).n) = d64 (l[k + 1]'(by omega)).n (l[k]'(by omega)).n:=rfl
          generalize (l[k + 1]'(by omega)).n = x at *
          generalize (l[k]'(by omega)).n = y at *
          generalize d64 x y = dd at *
          have htk:D.take (j + 1) = D.take j ++ [dd]:=by rw [List.take_add_one,hpj];rfl
          have h63:j + 1 ≤ maxLen:=by unfold maxLen;omega
          have h64:(j + 1) * 8 ≤ 140737488355328:=by omega
          have Htk:=Lib.hid htk
          have hlt3:(k:Int) + 1 < (i:Int) + 32:=by omega
          have hin1:(k:Int) + 1 < (l.length:Int):=by omega
          have hin2:(k:Int) < (l.length:Int):=by omega
          have hin3:(0:Int) ≤ (k:Int) + 1:=by omega
          have hin4:(0:Int) ≤ (k:Int):=by omega
          have hkk2:IntKind.i64.wrap ((k:Int) + 1 - 1) = (k:Int):=by rw [IntKind.wrap_i64];omega
          have hkk4:IntKind.i64.wrap (k:Int) = (k:Int):=by rw [IntKind.wrap_i64];omega
          have hkk3:((k:Int) + 1).toNat = k + 1:=by omega
          rw [hij]
          clear hc hcq hq hx hy hpj htk hk
          go_wp2_with fail
          have hws:wo.heap.size ≤ wr.heap.size:=Hb3.out.size
          go_region_held3 (fun w'=>w'.cell? ⟨b0,off0 + (k + 1) * 3 + 1,none⟩ = some (.int .i64 x) ∧ w'.cell? ⟨b0,off0 + k * 3 + 1,none⟩ = some (.int .i64 y))
            (first | exact ⟨hcx,hcy⟩ | exact ⟨hcx5,hcy5⟩ | go_keep)
            ((refine step_append_lies _ (by rfl) _ _ _ (by rfl) wo.heap.size 2 i0 _ 1 8 Tryz.underlying185 hi hz0 hz1 hz2 rfl (by omega) _ _ ((D.take j).map i64V) (by rfl) ((Ho.out.alloc _).drew)
                ⟨wr.heap.size,0,none⟩ 1 1 [.int .i64 dd] (by rfl) (by rfl) (World.news_of_block (cs:=#[.int .i64 dd]) (t:=2) (fr:=(0,0)) (heap_alloc_new wr _)) (by simp [Value.oneCell'])
                (by omega) h63 h64 (by simp;omega) (wr.heap.size + 1) (by simp) ?_;intro gg cap5 w5 hown5 hgrow5 hat5 hlt5
              have hb5:Below wo.heap.size wo w5:=((Hb3.out.alloc hws _).drew).grown hgrow5 (by simp;omega) (fun k hk=>(Ho.out.lt k hk).1)
              have hcx5:=(hb5.cell (p:=⟨b0,off0 + (k + 1) * 3 + 1,none⟩) hlw).trans hcw
              have hcy5:=(hb5.cell (p:=⟨b0,off0 + k * 3 + 1,none⟩) hlw).trans hcv))
          have Ho5:=Lib.hid hown5;have Hb5:=Lib.hid hb5
          clear hown5 hb5 hcx5 hcy5 hgrow5 hat5 hlt5
          go_wp2_with fail
          go_roundw
          case rel=>exact ⟨j + 1,by omega,by simp;omega,by rw [Htk.out,List.map_append];exact Ho5.out,Hb5.out⟩
          case measure=>simp [intOf];omega
        · obtain rfl:j = m:=by omega
          have hDt:D.take j = D:=List.take_of_length_le (by rw [HDl.out];exact Nat.le_refl _)
          rw [hDt] at Ho
          have hJ:=IsNums.of_own (K:=.i64) (l:=D) (B:=wo.heap.size) (e:=2) (by rw [HDl.out];exact Ho.out)
          obtain ⟨adD,capD,hD⟩:=hJ.form
          subst hD
          have hDpos:0 < D.length:=by rw [HDl.out];omega
          obtain ⟨gD,oD,rfl,_,hgl,hcD⟩:=hJ.at hDpos
          have hcD0:=hcD 0 (D.headD 0) (by cases D with | nil=>simp at hDpos | cons a D=>rfl)
          rw [Nat.add_zero] at hcD0
          have hmn0:D.foldl min (D.headD 0) = minOf D:=rfl
          generalize D.headD 0 = dz at *
          have Hmn0:=Lib.hid hmn0
          clear hmn0
          have HcD:=Lib.hid hcD
          have hDm:D.length ≤ 32:=by rw [HDl.out];omega
          have hend:(decide ((i:Int) + (j:Int) < (i:Int) + 32) = false ∧ decide ((j:Int) < 32) = false ∧ decide (j < 32) = false) ∨ ((j:Int) < 32 ∧ (i:Int) + (j:Int) < (i:Int) + 32 ∧ decide ((i:Int) + (j:Int) < (l.length:Int)) = false ∧ decide (i + j < l.length) = false):=by
            rcases Nat.lt_or_ge j 32 with h | h
            · have:=Hm3.out
              exact .inr ⟨by omega,by omega,by simp;omega,by simp;omega⟩
            · exact .inl ⟨by simp;omega,by simp;omega,by simp;omega⟩
          clear hcD hJ hDt hjm
          rcases hend with ⟨e1,e2,e3⟩ | ⟨e1,e2,e3,e4⟩
          all_goals
            go_wp2_with fail
            go_loop [7,8] (fun lv q=>∃ t:Nat,t ≤ D.length ∧ q = .int .i64 (t:Nat) ∧ lv = .int .i64 ((D.take t).foldl min dz)) (fun _ q=>D.length - (intOf q).toNat)
            case atStart=>exact ⟨0,Nat.zero_le _,rfl,rfl⟩
            case round =>
              obtain ⟨t,ht,rfl,rfl⟩:=hrel
              by_cases htm:t < D.length
              · have hct:=HcD.out t D[t] (List.getElem?_eq_getElem htm)
                have hts:=fold_min_snoc (D.take t) D[t] dz
                rw [← List.take_succ_eq_append_getElem htm] at hts
                generalize D[t] = x at *
                generalize (D.take t).foldl min dz = cur at *
                by_cases hxc:x < cur
                · have Hts:=Lib.hid (show List.foldl min dz (D.take (t + 1)) = x by rw [hts];omega)
                  clear hts
                  go_wp2_with fail
                  go_round
                  case rel=>exact ⟨t + 1,by omega,by go_num,by rw [Hts.out]⟩
                  case measure=>simp [intOf];omega
                · have Hts:=Lib.hid (show List.foldl min dz (D.take (t + 1)) = cur by rw [hts];omega)
                  clear hts
                  go_wp2_with fail
                  go_round
                  case rel=>exact ⟨t + 1,by omega,by go_num,by rw [Hts.out]⟩
                  case measure=>simp [intOf];omega
              · obtain rfl:t = D.length:=by omega
                rw [List.take_length]
                rw [Hmn0.out]
                have hmin':=HDin.out _ (minOf_in (l:=D) (by intro h;rw [h] at hDpos;simp at hDpos))
                have hU:unsubs D = D.map (unsub (minOf D)):=rfl
                have hUlt:=unsubs_lt D
                have hwl:=widOf_le (unsubs D)
                have hwfit:=widOf_fits hUlt
                have hmost:=mostOf_lt hUlt
                have HWd:=Lib.hid (fun w1=>show Calls Tryz.prog 58 #[.int .u64 ((mostOf (unsubs D):Nat):Int)] w1 fun e w'=>e = .returned (.int .i64 ((widOf (unsubs D):Nat):Int)) ∧ w' = w1 from widthOf_any (mostOf (unsubs D)) hmost w1)
                have hmf:(unsubs D).foldl max 0 = mostOf (unsubs D):=rfl
                have HV2:=Lib.hid (fun w1=>signed_any (minOf D) w1 hmin'.1 hmin'.2)
                have HBy:=Lib.hid (fun w1=>show Calls Tryz.prog 118 #[.int .i64 ((widOf (unsubs D):Nat):Int)] w1 fun e w'=>e = .returned (.string ⟨#[UInt8.ofNat (widOf (unsubs D))]⟩) ∧ Below w1.heap.size w1 w' from by
                  have h:=byte_any ((widOf (unsubs D):Nat):Int) w1
                  rwa [show (((widOf (unsubs D):Nat):Int) % 256).toNat = widOf (unsubs D) by omega] at h)
                generalize unsubs D = U at *
                generalize widOf U = wd at *
                generalize minOf D = mn at *
                generalize mostOf U = mo at *
                have hUl:U.length = D.length:=by rw [hU,List.length_map]
                have HU:=Lib.hid hU;have HUl:=Lib.hid hUl;have Hwfit:=Lib.hid hwfit;have HUlt:=Lib.hid hUlt;have Hmf:=Lib.hid hmf
                clear hU hUl hwfit hUlt hmf htm ht hcD0
                go_wp2_with fail
                obtain ⟨wx,hwx⟩:∃ wx:World,wx = wr:=⟨_,rfl⟩
                subst hwx
                go_loopw [9,10,11] (fun uv mv q w6=>∃ t:Nat,t ≤ D.length ∧ q = .int .i64 (t:Nat) ∧ mv = .int .u64 (((U.take t).foldl max 0:Nat):Int) ∧ w6.ownsRow wx.heap.size 84 1 uv (U.take t).length ((U.take t).map natU) ∧ Below wx.heap.size wx w6) (fun _ _ q _=>D.length - (intOf q).toNat)
                case atStart=>exact ⟨0,Nat.zero_le _,rfl,rfl,World.ownsRow_nil _ _ _ _,Below.refl _ _⟩
                case round =>
                  obtain ⟨t,ht,rfl,rfl,hou,hb6⟩:=hrel
                  have Hou:=Lib.hid hou;have Hb6:=Lib.hid hb6
                  clear hou hb6
                  by_cases htm:t < D.length
                  · have hct:=(Hb6.out.cell (p:=⟨gD,oD + t,none⟩) hgl).trans (HcD.out t D[t] (List.getElem?_eq_getElem htm))
                    have hts:U.take (t + 1) = U.take t ++ [unsub mn D[t]]:=by
                      rw [HU.out,← List.map_take,List.take_succ_eq_append_getElem htm,List.map_append,List.map_take];rfl
                    have hfm:=fold_max_snoc (U.take t) (unsub mn D[t]) 0
                    rw [← hts] at hfm
                    have hul:=unsub_lt mn D[t]
                    have hus:=unsub_conv mn D[t]
                    have hus2:IntKind.u64.wrap (wrap64 (D[t] - mn)) = (unsub mn D[t]:Int):=by
                      unfold wrap64 unsub;rw [IntKind.wrap_u64];omega
                    generalize D[t] = x at *
                    generalize unsub mn x = un at *
                    generalize List.foldl max 0 (U.take t) = mc at *
                    have h63:(U.take t).length + 1 ≤ maxLen:=by rw [List.length_take];unfold maxLen;omega
                    have h64:((U.take t).length + 1) * 8 ≤ 140737488355328:=by rw [List.length_take];omega
                    have Hts:=Lib.hid hts
                    have hb6s:=Hb6.out.size
                    clear hts
                    by_cases hxc:mc < un
                    · have Hfm:=Lib.hid (show List.foldl max 0 (U.take (t + 1)) = un by rw [hfm];omega)
                      clear hfm
                      go_wp2_with (at_builtin;refine wpList_push rfl _ _ 145 rfl wx.heap.size 84 i1 (.int .u64 0) 8 Tryz.underlying145 hinf hy0 hy1 hy2 rfl natU (fun _=>rfl) _ _ rfl Hou.out _ _ rfl h63 h64 hb6s un rfl ?_;intro v' w1 hown' hb' hnn;have Ho':=Lib.hid hown';have Hb':=Lib.hid (Hb6.out.trans hb');clear hown' hb')
                      go_roundw
                      case rel=>exact ⟨t + 1,by omega,by go_num,by rw [Hfm.out],by rw [Hts.out];exact Ho'.out,Hb'.out⟩
                      case measure=>simp [intOf];omega
                    · have Hfm:=Lib.hid (show List.foldl max 0 (U.take (t + 1)) = mc by rw [hfm];omega)
                      clear hfm
                      go_wp2_with (at_builtin;refine wpList_push rfl _ _ 145 rfl wx.heap.size 84 i1 (.int .u64 0) 8 Tryz.underlying145 hinf hy0 hy1 hy2 rfl natU (fun _=>rfl) _ _ rfl Hou.out _ _ rfl h63 h64 hb6s un rfl ?_;intro v' w1 hown' hb' hnn;have Ho':=Lib.hid hown';have Hb':=Lib.hid (Hb6.out.trans hb');clear hown' hb')
                      go_roundw
                      case rel=>exact ⟨t + 1,by omega,by go_num,by rw [Hfm.out],by rw [Hts.out];exact Ho'.out,Hb'.out⟩
                      case measure=>simp [intOf];omega
                  · obtain rfl:t = D.length:=by omega
                    rw [List.take_of_length_le (Nat.le_of_eq HUl.out)] at Hou ⊢
                    rw [Hmf.out]
                    have hKU:=numsU_nat Hou.out
                    obtain ⟨adU,capU,hUf⟩:=hKU.form
                    subst hUf
                    have HKU:=Lib.hid hKU
                    have HPk:=Lib.hid (fun w1 h=>packOf_any64 (.slice adU (ints U).length capU) U wd w1 h hwl (by rw [HUl.out];omega) Hwfit.out)
                    have hpkl:(packed wd U).length ≤ 300:=by
                      rw [packed,bytesOf_len,HUl.out]
                      have:D.length * wd ≤ 32 * 64:=Nat.mul_le_mul hDm hwl
                      omega
                    have hs7:(seven (zig mn)).length ≤ 10:=seven_len (zig_lt hmin'.1 hmin'.2)
                    have hchl:ch = seven (zig mn) ++ [UInt8.ofNat wd] ++ packed wd U:=Hcd.out
                    generalize seven (zig mn) = s7 at *
                    generalize packed wd U = pk at *
                    have hchb:ByteArray.mk acc.toArray ++ ByteArray.mk s7.toArray ++ ByteArray.mk #[UInt8.ofNat wd] ++ ByteArray.mk pk.toArray = ByteArray.mk (acc ++ ch).toArray:=by
                      rw [hchl,ByteArray.mk_append_mk acc s7,ByteArray.mk_append_mk _ [UInt8.ofNat wd],ByteArray.mk_append_mk,List.append_assoc,List.append_assoc,List.append_assoc]
                    have hbs:(ByteArray.mk #[UInt8.ofNat wd]).size = 1:=rfl
                    generalize ByteArray.mk #[UInt8.ofNat wd] = bw at *
                    have Hch:=Lib.hid hchb
                    have hadd1:¬ 9223372036854775807 < acc.length + s7.length:=by omega
                    have hadd2:¬ 9223372036854775807 < acc.length + s7.length + bw.size:=by omega
                    have hadd3:¬ 9223372036854775807 < acc.length + s7.length + bw.size + pk.length:=by omega
                    clear hchl hchb hbs hKU Hou htm ht
                    go_wp2_with fail
                    refine (HWd.out _).mono ?_;rintro e w7 ⟨rfl,hw7⟩
                    subst hw7
                    go_wp2_with fail
                    refine (HV2.out _).mono ?_;rintro e w8 ⟨rfl,hb8⟩
                    have Hk8:=Lib.hid (HKU.out.below hb8 (Nat.le_refl _))
                    have hb8:=Hb6.out.trans (hb8.mono Hb6.out.size)
                    go_wp2_with fail
                    refine (HBy.out _).mono ?_;rintro e w9 ⟨rfl,hb9⟩
                    have Hk9:=Lib.hid (Hk8.out.below hb9 (Nat.le_refl _))
                    have hb9:=hb8.trans (hb9.mono hb8.size)
                    clear hb8
                    go_wp2_with fail
                    refine (HPk.out w9 Hk9.out).mono ?_;rintro e w10 ⟨rfl,hb10⟩
                    have Hb10:=Lib.hid (hb9.trans (hb10.mono hb9.size))
                    clear hb9 hb10
                    go_wp2_with fail
                    go_roundw
                    case rel=>exact ⟨i + 32,acc ++ ch,by omega,by omega,by go_num,by rw [← Hch.out],Hacc.out,Hb.out.trans ((Hb3.out.trans (Hb10.out.mono Hb3.out.size)).mono Hb.out.size)⟩
                    case measure=>simp [intOf];omega
    · have hd:(numsI l).drop i = []:=List.drop_eq_nil_iff.2 (by rw [HLl.out];omega)
      have Hfin:=Lib.hid (show acc = deltaB (numsI l) by rw [← Hacc.out,hd,restB_nil,List.append_nil])
      clear hd
      go_wp2_with fail
      go_ret
      exact ⟨ret_of (by rw [← Hfin.out];rfl),Hb.out⟩
set_option maxRecDepth 100000 in
theorem deltaOf_nil (v:Value) (w:World) (hI:IsVals w v []) :
  Calls Tryz.prog 89 #[v] w fun e w'=>e = .returned (.string ⟨#[]⟩) ∧ Below w.heap.size w w':=by
 obtain ⟨ad,cap,rfl⟩:=hI.form
 clear hI
 go_enter Tryz.func89,Tryz.ntmps89
 go_wp2_with fail
 go_ret
 exact ⟨rfl,Below.refl _ _⟩
theorem deltaOf_any (v:Value) (l:List Val) (w:World) (hI:IsVals w v l) (hl:l.length ≤ 20000) (hO:∀ x ∈ l,x.Ok) :
  Calls Tryz.prog 89 #[v] w fun e w'=>e = .returned (.string ⟨(deltaB (numsI l)).toArray⟩) ∧ Below w.heap.size w w':=by
 cases l with
 | nil=>exact deltaOf_nil v w hI
 | cons a l=>exact deltaOf_some v (a :: l) w hI (by simp) hl hO
end Go.Proofs.YtapiabmmfmfaeaaGreatDoor
