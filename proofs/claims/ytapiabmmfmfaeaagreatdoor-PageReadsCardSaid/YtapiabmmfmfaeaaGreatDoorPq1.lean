/- The walk of the document's ReadPageOf. -/
import Derived.Test.YtapiabmmfmfaeaaGreatDoorPr3
import Derived.Test.YtapiabmmfmfaeaaGreatDoorMRw
import Derived.Test.YtapiabmmfmfaeaaGreatDoorTx7
import Derived.Test.YtapiabmmfmfaeaaGreatDoorMTz
import Derived.Test.YtapiabmmfmfaeaaGreatDoorMCe
import Derived.Test.YtapiabmmfmfaeaaGreatDoorRfBe
import Derived.Deep.RegionHeld3
import Derived.Deep.DeepCutAuto
namespace Go.Proofs.YtapiabmmfmfaeaaGreatDoor
set_option maxHeartbeats 16000000
set_option linter.unusedVariables false
set_option linter.unusedSimpArgs false
open Go Go.RowKit Go.ChangeShapes
def zcolO:Value:=.agg #[.int .i64 0,.slice none 0 0,.slice none 0 0,.slice none 0 0]
def PoRet (r:Nat ⊕ (Col × Nat)) (e:Ending) (w':World):Prop:=match r with
 | .inl k=>e = .returned (.tuple #[zcolO,.int .i64 0,.int .i64 (k:Nat)])
 | .inr x=>∃ u,e = .returned (.tuple #[u,.int .i64 (x.2:Nat),.int .i64 0]) ∧ IsCol w' u x.1
theorem PoRet.bad {r:Nat ⊕ (Col × Nat)} {k:Nat} {w':World} (h:r = .inl k):PoRet r (.returned (.tuple #[zcolO,.int .i64 0,.int .i64 (k:Nat)])) w':=by rw [h];exact rfl
theorem PoRet.good {r:Nat ⊕ (Col × Nat)} {c:Col} {n:Nat} {u:Value} {w':World} (h:r = .inr (c,n)) (hu:IsCol w' u c):PoRet r (.returned (.tuple #[u,.int .i64 (n:Nat),.int .i64 0])) w':=by rw [h];exact ⟨u,rfl,hu⟩
def BoRet (B:Nat) (r:Option (List Val)) (e:Ending) (w':World):Prop:=match r with
 | none=>∃ k:Nat,0 < k ∧ e = .returned (.tuple #[.slice none 0 0,.int .i64 (k:Nat)])
 | some l=>∃ u,e = .returned (.tuple #[u,.int .i64 0]) ∧ w'.ownsRow B 41 3 u l.length (l.flatMap valCells)
theorem BoRet.of_bf {B:Nat} {r:Option (List Val)} {e:Ending} {w':World} (h:BfRet B r e w'):BoRet B r e w':=by
 cases r with
 | none=>exact ⟨1,by decide,h⟩
 | some l=>exact h
theorem readBestOf_all (kind code:Int) (s:ByteArray) (n:Nat) (w:World) (h1:1 ≤ kind) (h5:kind ≤ 5) (hn:n ≤ 20000) (hs:s.size ≤ 200000) :
  Calls Tryz.prog 29 #[.int .i64 kind,.int .i64 code,.string s,.int .i64 (n:Nat)] w fun e w'=>BoRet w.heap.size (bestR kind code s.data.toList n) e w' ∧ Below w.heap.size w w':=by
 by_cases c0:code = 0
 ·subst c0
  refine (readBestOf_0 kind s n _ w (readPlainOf_any kind s n w h1 h5 hn (by omega))).mono fun e w' ⟨a,b⟩=>⟨?_,b⟩
  unfold bestR;rw [if_pos rfl];exact BoRet.of_bf a
 by_cases c1:code = 1
 ·subst c1
  refine (readBestOf_1 kind s n _ w (readDictOf_any kind s n w h1 h5 hn hs)).mono fun e w' ⟨a,b⟩=>⟨?_,b⟩
  unfold bestR;rw [if_neg (by decide),if_pos rfl];exact BoRet.of_bf a
 by_cases c2:code = 2 ∧ (kind = 2 ∨ kind = 3)
 ·obtain ⟨rfl,hk⟩:=c2
  refine (readBestOf_2 kind hk s n _ w (readDeltaOf_any kind hk s n w hn hs)).mono fun e w' ⟨a,b⟩=>⟨?_,b⟩
  unfold bestR;rw [if_neg (by decide),if_neg (by decide),if_pos ⟨rfl,hk⟩];exact BoRet.of_bf a
 by_cases c3:code = 3 ∧ kind = 4
 ·obtain ⟨rfl,rfl⟩:=c3
  refine (readBestOf_3 s n w hn hs).mono fun e w' ⟨a,b⟩=>⟨?_,b⟩
  unfold bestR;rw [if_neg (by decide),if_neg (by decide),if_neg (by decide),if_pos ⟨rfl,rfl⟩];exact BoRet.of_bf a
 ·refine (readBestOf_shape kind code s n w c0 c1 c2 c3).mono fun e w' ⟨a,b⟩=>⟨?_,b⟩
  unfold bestR;rw [if_neg c0,if_neg c1,if_neg c2,if_neg c3];exact ⟨3,by decide,a⟩
theorem statsOfText_none (s:ByteArray) (hs:s.size ≤ 1000000) (w:World) (h:readPr s.data.toList = none) :
  Calls Tryz.prog 26 #[.string s] w fun e w'=>e = .returned (.tuple #[.agg #[.int .i64 0,.int .i64 0,.bool false,.int .i64 0,.int .i64 0,.string ⟨#[]⟩,.int .i64 0,.int .i64 0,.string ⟨#[]⟩],.int .i64 0]) ∧ Below w.heap.size w w' :=
 (rso_any s hs w).mono fun e w' ⟨a,b⟩=>⟨by rw [a,← readPr_eq,h];rfl,b⟩
theorem statsOfText_some (s:ByteArray) (hs:s.size ≤ 1000000) (w:World) {te tn k:Nat} {th:Bool} {lo hi:Val} (h:readPr s.data.toList = some (⟨(te:Nat),(tn:Nat),th,lo,hi⟩,k)) :
  Calls Tryz.prog 26 #[.string s] w fun e w'=>e = .returned (.tuple #[.agg #[.int .i64 (te:Nat),.int .i64 (tn:Nat),.bool th,.int .i64 lo.k,.int .i64 lo.n,.string lo.s,.int .i64 hi.k,.int .i64 hi.n,.string hi.s],.int .i64 (k:Nat)]) ∧ Below w.heap.size w w' :=
 (rso_any s hs w).mono fun e w' ⟨a,b⟩=>⟨by rw [a,← readPr_eq,h];rfl,b⟩
theorem colR_6 {f:Lf} {b:List UInt8} {t:St} {k k1 k2:Nat} {rep df:List Nat} (h:readPr b = some (t,k)) (h0:¬ t.e = 0) (h1:levR f.mr t.e.toNat (b.drop k) = some (rep,k1)) (h2:levR f.md t.e.toNat ((b.drop k).drop k1) = some (df,k2)):colR f b = valsR f t rep df (((b.drop k).drop k1).drop k2):=by
 unfold colR;rw [h];simp only;rw [if_neg h0,h1];simp only;rw [h2]
theorem colErr_pos2 {f:Lf} {c:Col} {free:Bool} (h:(colErr f c free).isNil = false):0 < (colErr f c free).code:=by
 unfold colErr at h ⊢
 split
 ·rename_i hs
  rw [if_pos hs] at h
  split
  ·rename_i hb;rw [hb] at h;cases h
  ·show (0:Int) < ((4:Nat):Int);omega
 ·show (0:Int) < ((3:Nat):Int);omega
theorem neq_rst (x y:St) (w:World):(binOp .neq 46 (.agg (stA x)) (.agg (stA y))).run Tryz.prog w = .ok (.bool (!stEq x y)) w:=by
 have hm:Tryz.prog.stoodInHeld 46 = false:=by kernel_rfl
 unfold stA
 simp [go_sem]
 rw [st_ifs]
 cases stEq x y <;> rfl
set_option maxRecDepth 100000 in
theorem rpo_any (f:Lf) (vf:Value) (s:ByteArray) (hs:s.size ≤ 1000000) (w:World) (hf:IsLf w vf f) (fo:f.Ok) :
  Calls Tryz.prog 8 #[vf,.string s] w fun e w'=>PoRet (pageR f s.data.toList) e w' ∧ Below w.heap.size w w':=by
 obtain ⟨p,rfl,hp⟩:=hf
 have Hp:=Lib.hid hp;have Fo:=Lib.hid fo
 clear hp fo
 unfold lfA
 by_cases hrt:rightB f = true
 case neg =>
  have hrf:rightB f = false:=by simpa using hrt
  have HR:=Lib.hid (pageR_3 (L:=s.data.toList) hrf)
  have HC:=Lib.hid (fun w1=>isLeaf_no f p w1 hrf)
  clear hrt hrf
  go_enter Tryz.func8,Tryz.ntmps8
  go_upto_region 2 with fail
  obtain ⟨rL,rO,rC,hbw,hz⟩:=rows3 (w:=w) (A:=.cells #[.int .i64 f.id,.int .i64 f.kind,.int .i64 f.mr,.int .i64 f.md,p] 24) (B:=.cells #[.int .i64 0,.slice none 0 0,.slice none 0 0,.slice none 0 0] 29) (C:=.cells #[.int .i64 f.id,.slice none 0 0,.slice none 0 0,.slice none 0 0] 29) (Below.refl _ _)
  have RL:=Lib.hid rL;have RO:=Lib.hid rO;have RC:=Lib.hid rC;have Hbw:=Lib.hid hbw
  clear rL rO rC hbw hz
  generalize (((w.alloc (.cells #[.int .i64 f.id,.int .i64 f.kind,.int .i64 f.mr,.int .i64 f.md,p] 24)).alloc (.cells #[.int .i64 0,.slice none 0 0,.slice none 0 0,.slice none 0 0] 29)).alloc (.cells #[.int .i64 f.id,.slice none 0 0,.slice none 0 0,.slice none 0 0] 29)) = w0 at *
  have cL:=rowc RL.out;have fL:=rowf RL.out;have cO:=rowc RO.out;have fO:=rowf RO.out;have cC:=rowc RC.out;have fC:=rowf RC.out
  go_wp2_with fail
  refine (HC.out _).mono ?_;rintro e9 w1 ⟨rfl,hb9⟩
  clear cL fL cO fO cC fC
  replace RL:=Lib.hid (row_keep hb9 RL.out);replace RO:=Lib.hid (row_keep hb9 RO.out);replace RC:=Lib.hid (row_keep hb9 RC.out);replace Hbw:=Lib.hid (Hbw.out.trans (hb9.mono Hbw.out.size))
  clear hb9
  have cL:=rowc RL.out;have fL:=rowf RL.out;have cO:=rowc RO.out;have fO:=rowf RO.out;have cC:=rowc RC.out;have fC:=rowf RC.out
  go_wp2_with fail
  refine bodyPost_ret (v:=.tuple #[(.agg #[.int .i64 0,.slice none 0 0,.slice none 0 0,.slice none 0 0]),.int .i64 0,.int .i64 3]) ?_ rfl ⟨PoRet.bad HR.out,?_⟩
  focus (refine results_row_tmp2 Tryz.results8 _ _ (w.heap.size + 1) 29 _ (0,0) _ rfl ?_ Tryz.underlying29 rfl (by kernel_rfl);with_reducible exact row_set4 RO.out rfl _ _ _ _)
  focus (with_reducible exact below_set4 Hbw.out _ (Nat.le_succ _) _ _ _ _)
 have HRt:=Lib.hid hrt
 have hrp:1 ≤ f.kind ∧ f.kind ≤ 5 ∧ 0 ≤ f.mr ∧ f.mr ≤ 40 ∧ 0 ≤ f.md ∧ f.md ≤ 40:=by unfold rightB at hrt;simpa using hrt
 have HRp:=Lib.hid hrp
 have HC:=Lib.hid (fun w1=>isLeaf_yes f p w1 hrt)
 clear hrt hrp
 go_enter Tryz.func8,Tryz.ntmps8
 go_upto_region 2 with fail
 obtain ⟨rL,rO,rC,hbw,hz⟩:=rows3 (w:=w) (A:=.cells #[.int .i64 f.id,.int .i64 f.kind,.int .i64 f.mr,.int .i64 f.md,p] 24) (B:=.cells #[.int .i64 0,.slice none 0 0,.slice none 0 0,.slice none 0 0] 29) (C:=.cells #[.int .i64 f.id,.slice none 0 0,.slice none 0 0,.slice none 0 0] 29) (Below.refl _ _)
 have RL:=Lib.hid rL;have RO:=Lib.hid rO;have RC:=Lib.hid rC;have Hbw:=Lib.hid hbw
 clear rL rO rC hbw hz
 generalize (((w.alloc (.cells #[.int .i64 f.id,.int .i64 f.kind,.int .i64 f.mr,.int .i64 f.md,p] 24)).alloc (.cells #[.int .i64 0,.slice none 0 0,.slice none 0 0,.slice none 0 0] 29)).alloc (.cells #[.int .i64 f.id,.slice none 0 0,.slice none 0 0,.slice none 0 0] 29)) = w0 at *
 have cL:=rowc RL.out;have fL:=rowf RL.out;have cO:=rowc RO.out;have fO:=rowf RO.out;have cC:=rowc RC.out;have fC:=rowf RC.out
 go_wp2_with fail
 refine (HC.out _).mono ?_;rintro e9 w1 ⟨rfl,hb9⟩
 clear cL fL cO fO cC fC
 replace RL:=Lib.hid (row_keep hb9 RL.out);replace RO:=Lib.hid (row_keep hb9 RO.out);replace RC:=Lib.hid (row_keep hb9 RC.out);replace Hbw:=Lib.hid (Hbw.out.trans (hb9.mono Hbw.out.size))
 clear hb9
 have cL:=rowc RL.out;have fL:=rowf RL.out;have cO:=rowc RO.out;have fO:=rowf RO.out;have cC:=rowc RC.out;have fC:=rowf RC.out
 cases hb:bodyR s.data.toList with
 | text =>
  have HR:=Lib.hid (pageR_t HRt.out hb)
  have HB:=Lib.hid (fun w1=>bodyOf_text s (by omega) w1 hb)
  clear hb
  go_wp2_with fail
  refine (HB.out _).mono ?_;rintro e9 w2 ⟨rfl,hb9⟩
  clear cL fL cO fO cC fC
  replace RL:=Lib.hid (row_keep hb9 RL.out);replace RO:=Lib.hid (row_keep hb9 RO.out);replace RC:=Lib.hid (row_keep hb9 RC.out);replace Hbw:=Lib.hid (Hbw.out.trans (hb9.mono Hbw.out.size))
  clear hb9
  have cL:=rowc RL.out;have fL:=rowf RL.out;have cO:=rowc RO.out;have fO:=rowf RO.out;have cC:=rowc RC.out;have fC:=rowf RC.out
  go_wp2_with fail
  refine bodyPost_ret (v:=.tuple #[(.agg #[.int .i64 0,.slice none 0 0,.slice none 0 0,.slice none 0 0]),.int .i64 0,.int .i64 1]) ?_ rfl ⟨PoRet.bad HR.out,?_⟩
  focus (refine results_row_tmp2 Tryz.results8 _ _ (w.heap.size + 1) 29 _ (0,0) _ rfl ?_ Tryz.underlying29 rfl (by kernel_rfl);with_reducible exact row_set4 RO.out rfl _ _ _ _)
  focus (with_reducible exact below_set4 Hbw.out _ (Nat.le_succ _) _ _ _ _)
 | sum =>
  have HR:=Lib.hid (pageR_s HRt.out hb)
  have HB:=Lib.hid (fun w1=>bodyOf_sum s (by omega) w1 hb)
  clear hb
  go_wp2_with fail
  refine (HB.out _).mono ?_;rintro e9 w2 ⟨rfl,hb9⟩
  clear cL fL cO fO cC fC
  replace RL:=Lib.hid (row_keep hb9 RL.out);replace RO:=Lib.hid (row_keep hb9 RO.out);replace RC:=Lib.hid (row_keep hb9 RC.out);replace Hbw:=Lib.hid (Hbw.out.trans (hb9.mono Hbw.out.size))
  clear hb9
  have cL:=rowc RL.out;have fL:=rowf RL.out;have cO:=rowc RO.out;have fO:=rowf RO.out;have cC:=rowc RC.out;have fC:=rowf RC.out
  go_wp2_with fail
  refine bodyPost_ret (v:=.tuple #[(.agg #[.int .i64 0,.slice none 0 0,.slice none 0 0,.slice none 0 0]),.int .i64 0,.int .i64 7]) ?_ rfl ⟨PoRet.bad HR.out,?_⟩
  focus (refine results_row_tmp2 Tryz.results8 _ _ (w.heap.size + 1) 29 _ (0,0) _ rfl ?_ Tryz.underlying29 rfl (by kernel_rfl);with_reducible exact row_set4 RO.out rfl _ _ _ _)
  focus (with_reducible exact below_set4 Hbw.out _ (Nat.le_succ _) _ _ _ _)
 | ok b used =>
  obtain ⟨sb,hsb⟩:∃ sb:ByteArray,sb.data.toList = b:=⟨⟨b.toArray⟩,by simp⟩
  obtain ⟨hb2,hused,-⟩:=bodyR_len hb
  rw [ba_len] at hused
  have hsbz:sb.size ≤ 200000:=by rw [← ba_len sb,hsb];exact hb2
  have Hsb:=Lib.hid hsb;have Hb:=Lib.hid hb
  have HB:=Lib.hid (fun w1=>bodyOf_ok s (by omega) w1 hb sb hsb)
  clear hb hsb hb2
  go_wp2_with fail
  refine (HB.out _).mono ?_;rintro e9 w2 ⟨rfl,hb9⟩
  clear cL fL cO fO cC fC
  replace RL:=Lib.hid (row_keep hb9 RL.out);replace RO:=Lib.hid (row_keep hb9 RO.out);replace RC:=Lib.hid (row_keep hb9 RC.out);replace Hbw:=Lib.hid (Hbw.out.trans (hb9.mono Hbw.out.size))
  clear hb9
  have cL:=rowc RL.out;have fL:=rowf RL.out;have cO:=rowc RO.out;have fO:=rowf RO.out;have cC:=rowc RC.out;have fC:=rowf RC.out
  cases hr:readPr b with
  | none =>
   have HR:=Lib.hid (pageR_n HRt.out Hb.out (colR_1 hr))
   have HS:=Lib.hid (fun w1=>statsOfText_none sb (by omega) w1 (by rw [Hsb.out];exact hr))
   clear hr
   go_wp2_with fail
   refine (HS.out _).mono ?_;rintro e9 w3 ⟨rfl,hb9⟩
   clear cL fL cO fO cC fC
   replace RL:=Lib.hid (row_keep hb9 RL.out);replace RO:=Lib.hid (row_keep hb9 RO.out);replace RC:=Lib.hid (row_keep hb9 RC.out);replace Hbw:=Lib.hid (Hbw.out.trans (hb9.mono Hbw.out.size))
   clear hb9
   have cL:=rowc RL.out;have fL:=rowf RL.out;have cO:=rowc RO.out;have fO:=rowf RO.out;have cC:=rowc RC.out;have fC:=rowf RC.out
   go_upto_region 8 with fail
   have hwz9:w.heap.size + 1 + 1 < w3.heap.size:=row_lt RC.out
   have hb9:=(Below.refl w3.heap.size w3).alloc (Nat.le_refl _) (.cells #[.int .i64 0,.int .i64 0,.bool false,.int .i64 0,.int .i64 0,.string ⟨#[]⟩,.int .i64 0,.int .i64 0,.string ⟨#[]⟩] 46)
   clear cL fL cO fO cC fC
   replace RL:=Lib.hid (row_keep hb9 RL.out);replace RO:=Lib.hid (row_keep hb9 RO.out);replace RC:=Lib.hid (row_keep hb9 RC.out);replace Hbw:=Lib.hid (Hbw.out.trans (hb9.mono Hbw.out.size))
   have RT:=Lib.hid (heap_alloc_new w3 (.cells #[.int .i64 0,.int .i64 0,.bool false,.int .i64 0,.int .i64 0,.string ⟨#[]⟩,.int .i64 0,.int .i64 0,.string ⟨#[]⟩] 46))
   clear hb9
   generalize w3.alloc (.cells #[.int .i64 0,.int .i64 0,.bool false,.int .i64 0,.int .i64 0,.string ⟨#[]⟩,.int .i64 0,.int .i64 0,.string ⟨#[]⟩] 46) = w4 at *
   generalize w3.heap.size = gT at *
   have cL:=rowc RL.out;have fL:=rowf RL.out;have cO:=rowc RO.out;have fO:=rowf RO.out;have cC:=rowc RC.out;have fC:=rowf RC.out;have cT:=rowc RT.out;have fT:=rowf RT.out
   go_wp2_with fail
   refine bodyPost_ret (v:=.tuple #[(.agg #[.int .i64 0,.slice none 0 0,.slice none 0 0,.slice none 0 0]),.int .i64 0,.int .i64 1]) ?_ rfl ⟨PoRet.bad HR.out,?_⟩
   focus (refine results_row_tmp2 Tryz.results8 _ _ (w.heap.size + 1) 29 _ (0,0) _ rfl ?_ Tryz.underlying29 rfl (by kernel_rfl);with_reducible exact row_set4 RO.out rfl _ _ _ _)
   focus (with_reducible exact below_set4 Hbw.out _ (Nat.le_succ _) _ _ _ _)
  | some y =>
   obtain ⟨t,k⟩:=y
   obtain ⟨te,tn,e1,e2,hne,he2,hkb,hk0,hlo,hhi⟩:=readPr_ok hr
   obtain ⟨te',tn',th,lo,hi⟩:=t
   simp only at e1 e2 hlo hhi
   subst e1 e2
   have HS:=Lib.hid (fun w1=>statsOfText_some sb (by omega) w1 (by rw [Hsb.out];exact hr))
   have Hr:=Lib.hid hr
   rw [← Hsb.out,ba_len] at hkb
   have hk0':(((k:Nat):Int) == 0) = false:=by rw [beq_eq_false_iff_ne];omega
   clear hr
   go_wp2_with fail
   refine (HS.out _).mono ?_;rintro e9 w3 ⟨rfl,hb9⟩
   clear cL fL cO fO cC fC
   replace RL:=Lib.hid (row_keep hb9 RL.out);replace RO:=Lib.hid (row_keep hb9 RO.out);replace RC:=Lib.hid (row_keep hb9 RC.out);replace Hbw:=Lib.hid (Hbw.out.trans (hb9.mono Hbw.out.size))
   clear hb9
   have cL:=rowc RL.out;have fL:=rowf RL.out;have cO:=rowc RO.out;have fO:=rowf RO.out;have cC:=rowc RC.out;have fC:=rowf RC.out
   go_upto_region 8 with fail
   have hwz9:w.heap.size + 1 + 1 < w3.heap.size:=row_lt RC.out
   have hb9:=(Below.refl w3.heap.size w3).alloc (Nat.le_refl _) (.cells #[.int .i64 (te:Nat),.int .i64 (tn:Nat),.bool th,.int .i64 lo.k,.int .i64 lo.n,.string lo.s,.int .i64 hi.k,.int .i64 hi.n,.string hi.s] 46)
   clear cL fL cO fO cC fC
   replace RL:=Lib.hid (row_keep hb9 RL.out);replace RO:=Lib.hid (row_keep hb9 RO.out);replace RC:=Lib.hid (row_keep hb9 RC.out);replace Hbw:=Lib.hid (Hbw.out.trans (hb9.mono Hbw.out.size))
   have RT:=Lib.hid (heap_alloc_new w3 (.cells #[.int .i64 (te:Nat),.int .i64 (tn:Nat),.bool th,.int .i64 lo.k,.int .i64 lo.n,.string lo.s,.int .i64 hi.k,.int .i64 hi.n,.string hi.s] 46))
   clear hb9
   generalize w3.alloc (.cells #[.int .i64 (te:Nat),.int .i64 (tn:Nat),.bool th,.int .i64 lo.k,.int .i64 lo.n,.string lo.s,.int .i64 hi.k,.int .i64 hi.n,.string hi.s] 46) = w4 at *
   generalize w3.heap.size = gT at *
   have cL:=rowc RL.out;have fL:=rowf RL.out;have cO:=rowc RO.out;have fO:=rowf RO.out;have cC:=rowc RC.out;have fC:=rowf RC.out;have cT:=rowc RT.out;have fT:=rowf RT.out
   by_cases h0:te = 0
   ·have HR:=Lib.hid (pageR_n HRt.out Hb.out (colR_2 Hr.out (show ((te:Nat):Int) = 0 by omega)))
    have h0':(((te:Nat):Int) == 0) = true:=by rw [beq_iff_eq];omega
    clear h0
    go_wp2_with fail
    refine bodyPost_ret (v:=.tuple #[(.agg #[.int .i64 0,.slice none 0 0,.slice none 0 0,.slice none 0 0]),.int .i64 0,.int .i64 1]) ?_ rfl ⟨PoRet.bad HR.out,?_⟩
    focus (refine results_row_tmp2 Tryz.results8 _ _ (w.heap.size + 1) 29 _ (0,0) _ rfl ?_ Tryz.underlying29 rfl (by kernel_rfl);with_reducible exact row_set4 RO.out rfl _ _ _ _)
    focus (with_reducible exact below_set4 Hbw.out _ (Nat.le_succ _) _ _ _ _)
   have h0':(((te:Nat):Int) == 0) = false:=by rw [beq_eq_false_iff_ne];omega
   have H0:=Lib.hid (show ¬ ((te:Nat):Int) = 0 by omega)
   clear h0
   have hkI:(k:Int) ≤ (sb.size:Int):=by omega
   go_upto_region 11 with fail
   have HX:=Lib.hid (show (sb.extract k sb.size).data.toList = b.drop k from by rw [bext_list,Hsb.out])
   have hz2:(sb.extract k sb.size).size ≤ 200000:=by rw [ByteArray.size_extract];omega
   generalize sb.extract k sb.size = s2 at *
   cases hl1:levR f.mr te (b.drop k) with
   | none =>
    have HR:=Lib.hid (pageR_n HRt.out Hb.out (colR_3 Hr.out H0.out hl1))
    have HLa:=Lib.hid (fun w1=>levelsOf_none s2 hz2 f.mr HRp.out.2.2.1 HRp.out.2.2.2.1 te he2 w1 (by rw [HX.out];exact hl1))
    clear hl1
    go_wp2_with fail
    refine (HLa.out _).mono ?_;rintro e9 w5 ⟨rfl,hb9⟩
    clear cL fL cO fO cC fC cT fT
    replace RL:=Lib.hid (row_keep hb9 RL.out);replace RO:=Lib.hid (row_keep hb9 RO.out);replace RC:=Lib.hid (row_keep hb9 RC.out);replace RT:=Lib.hid (row_keep hb9 RT.out);replace Hbw:=Lib.hid (Hbw.out.trans (hb9.mono Hbw.out.size))
    clear hb9
    have cL:=rowc RL.out;have fL:=rowf RL.out;have cO:=rowc RO.out;have fO:=rowf RO.out;have cC:=rowc RC.out;have fC:=rowf RC.out;have cT:=rowc RT.out;have fT:=rowf RT.out
    go_upto_region 12 with fail
    obtain ⟨p1,p2,p3,p4⟩:=store_cell_row (j:=1) (v:=.slice none 0 0) RC.out
    replace RL:=Lib.hid ((p2 _ (by omega)).trans RL.out);replace RO:=Lib.hid ((p2 _ (by omega)).trans RO.out);replace RT:=Lib.hid ((p2 _ (by omega)).trans RT.out)
    replace RC:=Lib.hid (p1.trans (show _ = some (.cells #[.int .i64 f.id,.slice none 0 0,.slice none 0 0,.slice none 0 0] 29 (0,0)) from rfl));replace Hbw:=Lib.hid (Hbw.out.trans (p3.mono (by omega)))
    clear p1 p2 p3 p4
    clear cL fL cO fO cC fC cT fT
    generalize w5.setCell ⟨w.heap.size + 1 + 1,1,none⟩ (.slice none 0 0) = w6 at *
    have cL:=rowc RL.out;have fL:=rowf RL.out;have cO:=rowc RO.out;have fO:=rowf RO.out;have cC:=rowc RC.out;have fC:=rowf RC.out;have cT:=rowc RT.out;have fT:=rowf RT.out
    go_wp2_with fail
    refine bodyPost_ret (v:=.tuple #[(.agg #[.int .i64 0,.slice none 0 0,.slice none 0 0,.slice none 0 0]),.int .i64 0,.int .i64 1]) ?_ rfl ⟨PoRet.bad HR.out,?_⟩
    focus (refine results_row_tmp2 Tryz.results8 _ _ (w.heap.size + 1) 29 _ (0,0) _ rfl ?_ Tryz.underlying29 rfl (by kernel_rfl);with_reducible exact row_set4 RO.out rfl _ _ _ _)
    focus (with_reducible exact below_set4 Hbw.out _ (Nat.le_succ _) _ _ _ _)
   | some z1 =>
    obtain ⟨rep,k1⟩:=z1
    have HLa:=Lib.hid (fun w1=>levelsOf_some s2 hz2 f.mr HRp.out.2.2.1 HRp.out.2.2.2.1 te he2 w1 (l:=rep) (k:=k1) (by rw [HX.out];exact hl1))
    obtain ⟨hrl,hr64,hk10,hk1⟩:=levR_ok HRp.out.2.2.1 HRp.out.2.2.2.1 hl1
    rw [← HX.out,ba_len] at hk1
    have Hl1:=Lib.hid hl1;have Hrl:=Lib.hid (And.intro hrl hr64)
    have hk10':(((k1:Nat):Int) == 0) = false:=by rw [beq_eq_false_iff_ne];omega
    have hwz4:w.heap.size + 1 + 1 < w4.heap.size:=row_lt RC.out
    clear hl1 hrl hr64
    go_wp2_with fail
    refine (HLa.out _).mono ?_;rintro e9 w5 ⟨⟨u1,rfl,hu1⟩,hb9⟩
    clear cL fL cO fO cC fC cT fT
    replace RL:=Lib.hid (row_keep hb9 RL.out);replace RO:=Lib.hid (row_keep hb9 RO.out);replace RC:=Lib.hid (row_keep hb9 RC.out);replace RT:=Lib.hid (row_keep hb9 RT.out);replace Hbw:=Lib.hid (Hbw.out.trans (hb9.mono Hbw.out.size))
    clear hb9
    have cL:=rowc RL.out;have fL:=rowf RL.out;have cO:=rowc RO.out;have fO:=rowf RO.out;have cC:=rowc RC.out;have fC:=rowf RC.out;have cT:=rowc RT.out;have fT:=rowf RT.out
    obtain ⟨n1,b1,c1,eu1⟩:=own_cap' hu1
    subst eu1
    have HU1:=Lib.hid (own_base (B':=w.heap.size + 1 + 1 + 1) hu1 (by omega))
    clear hu1
    go_upto_region 12 with fail
    obtain ⟨p1,p2,p3,p4⟩:=store_cell_row (j:=1) (v:=.slice b1 n1 c1) RC.out
    replace RL:=Lib.hid ((p2 _ (by omega)).trans RL.out);replace RO:=Lib.hid ((p2 _ (by omega)).trans RO.out);replace RT:=Lib.hid ((p2 _ (by omega)).trans RT.out);replace HU1:=Lib.hid (ownK HU1.out fun i hi _=>p2 i (by omega))
    replace RC:=Lib.hid (p1.trans (show _ = some (.cells #[.int .i64 f.id,.slice b1 n1 c1,.slice none 0 0,.slice none 0 0] 29 (0,0)) from rfl));replace Hbw:=Lib.hid (Hbw.out.trans (p3.mono (by omega)))
    clear p1 p2 p3 p4
    clear cL fL cO fO cC fC cT fT
    generalize w5.setCell ⟨w.heap.size + 1 + 1,1,none⟩ (.slice b1 n1 c1) = w6 at *
    have cL:=rowc RL.out;have fL:=rowf RL.out;have cO:=rowc RO.out;have fO:=rowf RO.out;have cC:=rowc RC.out;have fC:=rowf RC.out;have cT:=rowc RT.out;have fT:=rowf RT.out
    have hk1I:(k1:Int) ≤ (s2.size:Int):=by omega
    go_upto_region 15 with fail
    have HX2:=Lib.hid (show (s2.extract k1 s2.size).data.toList = (b.drop k).drop k1 from by rw [bext_list,HX.out])
    have hz3:(s2.extract k1 s2.size).size ≤ 200000:=by rw [ByteArray.size_extract];omega
    generalize s2.extract k1 s2.size = s3 at *
    cases hl2:levR f.md te ((b.drop k).drop k1) with
    | none =>
     have HR:=Lib.hid (pageR_n HRt.out Hb.out (colR_4 Hr.out H0.out Hl1.out hl2))
     have HLb:=Lib.hid (fun w1=>levelsOf_none s3 hz3 f.md HRp.out.2.2.2.2.1 HRp.out.2.2.2.2.2 te he2 w1 (by rw [HX2.out];exact hl2))
     clear hl2
     go_wp2_with fail
     refine (HLb.out _).mono ?_;rintro e9 w7 ⟨rfl,hb9⟩
     clear cL fL cO fO cC fC cT fT
     replace RL:=Lib.hid (row_keep hb9 RL.out);replace RO:=Lib.hid (row_keep hb9 RO.out);replace RC:=Lib.hid (row_keep hb9 RC.out);replace RT:=Lib.hid (row_keep hb9 RT.out);replace HU1:=Lib.hid (ownBelow HU1.out hb9);replace Hbw:=Lib.hid (Hbw.out.trans (hb9.mono Hbw.out.size))
     clear hb9
     have cL:=rowc RL.out;have fL:=rowf RL.out;have cO:=rowc RO.out;have fO:=rowf RO.out;have cC:=rowc RC.out;have fC:=rowf RC.out;have cT:=rowc RT.out;have fT:=rowf RT.out
     go_upto_region 16 with fail
     obtain ⟨p1,p2,p3,p4⟩:=store_cell_row (j:=2) (v:=.slice none 0 0) RC.out
     replace RL:=Lib.hid ((p2 _ (by omega)).trans RL.out);replace RO:=Lib.hid ((p2 _ (by omega)).trans RO.out);replace RT:=Lib.hid ((p2 _ (by omega)).trans RT.out);replace HU1:=Lib.hid (ownK HU1.out fun i hi _=>p2 i (by omega))
     replace RC:=Lib.hid (p1.trans (show _ = some (.cells #[.int .i64 f.id,.slice b1 n1 c1,.slice none 0 0,.slice none 0 0] 29 (0,0)) from rfl));replace Hbw:=Lib.hid (Hbw.out.trans (p3.mono (by omega)))
     clear p1 p2 p3 p4
     clear cL fL cO fO cC fC cT fT
     generalize w7.setCell ⟨w.heap.size + 1 + 1,2,none⟩ (.slice none 0 0) = w8 at *
     have cL:=rowc RL.out;have fL:=rowf RL.out;have cO:=rowc RO.out;have fO:=rowf RO.out;have cC:=rowc RC.out;have fC:=rowf RC.out;have cT:=rowc RT.out;have fT:=rowf RT.out
     go_wp2_with fail
     refine bodyPost_ret (v:=.tuple #[(.agg #[.int .i64 0,.slice none 0 0,.slice none 0 0,.slice none 0 0]),.int .i64 0,.int .i64 1]) ?_ rfl ⟨PoRet.bad HR.out,?_⟩
     focus (refine results_row_tmp2 Tryz.results8 _ _ (w.heap.size + 1) 29 _ (0,0) _ rfl ?_ Tryz.underlying29 rfl (by kernel_rfl);with_reducible exact row_set4 RO.out rfl _ _ _ _)
     focus (with_reducible exact below_set4 Hbw.out _ (Nat.le_succ _) _ _ _ _)
    | some z2 =>
     obtain ⟨df,k2⟩:=z2
     have HLb:=Lib.hid (fun w1=>levelsOf_some s3 hz3 f.md HRp.out.2.2.2.2.1 HRp.out.2.2.2.2.2 te he2 w1 (l:=df) (k:=k2) (by rw [HX2.out];exact hl2))
     obtain ⟨hdl,hd64,hk20,hk2⟩:=levR_ok HRp.out.2.2.2.2.1 HRp.out.2.2.2.2.2 hl2
     rw [← HX2.out,ba_len] at hk2
     have Hc5:=Lib.hid (colR_6 Hr.out H0.out Hl1.out hl2)
     have Hdl:=Lib.hid (And.intro hdl hd64)
     have hk20':(((k2:Nat):Int) == 0) = false:=by rw [beq_eq_false_iff_ne];omega
     have hwz6:w.heap.size + 1 + 1 < w6.heap.size:=row_lt RC.out
     clear hl2 hdl hd64
     go_wp2_with fail
     refine (HLb.out _).mono ?_;rintro e9 w7 ⟨⟨u2,rfl,hu2⟩,hb9⟩
     clear cL fL cO fO cC fC cT fT
     replace RL:=Lib.hid (row_keep hb9 RL.out);replace RO:=Lib.hid (row_keep hb9 RO.out);replace RC:=Lib.hid (row_keep hb9 RC.out);replace RT:=Lib.hid (row_keep hb9 RT.out);replace HU1:=Lib.hid (ownBelow HU1.out hb9);replace Hbw:=Lib.hid (Hbw.out.trans (hb9.mono Hbw.out.size))
     clear hb9
     have cL:=rowc RL.out;have fL:=rowf RL.out;have cO:=rowc RO.out;have fO:=rowf RO.out;have cC:=rowc RC.out;have fC:=rowf RC.out;have cT:=rowc RT.out;have fT:=rowf RT.out
     obtain ⟨n2,b2,c2,eu2⟩:=own_cap' hu2
     subst eu2
     have HU2:=Lib.hid (own_base (B':=w.heap.size + 1 + 1 + 1) hu2 (by omega))
     clear hu2
     go_upto_region 16 with fail
     obtain ⟨p1,p2,p3,p4⟩:=store_cell_row (j:=2) (v:=.slice b2 n2 c2) RC.out
     replace RL:=Lib.hid ((p2 _ (by omega)).trans RL.out);replace RO:=Lib.hid ((p2 _ (by omega)).trans RO.out);replace RT:=Lib.hid ((p2 _ (by omega)).trans RT.out);replace HU1:=Lib.hid (ownK HU1.out fun i hi _=>p2 i (by omega));replace HU2:=Lib.hid (ownK HU2.out fun i hi _=>p2 i (by omega))
     replace RC:=Lib.hid (p1.trans (show _ = some (.cells #[.int .i64 f.id,.slice b1 n1 c1,.slice b2 n2 c2,.slice none 0 0] 29 (0,0)) from rfl));replace Hbw:=Lib.hid (Hbw.out.trans (p3.mono (by omega)))
     clear p1 p2 p3 p4
     clear cL fL cO fO cC fC cT fT
     generalize w7.setCell ⟨w.heap.size + 1 + 1,2,none⟩ (.slice b2 n2 c2) = w8 at *
     have cL:=rowc RL.out;have fL:=rowf RL.out;have cO:=rowc RO.out;have fO:=rowf RO.out;have cC:=rowc RC.out;have fC:=rowf RC.out;have cT:=rowc RT.out;have fT:=rowf RT.out
     by_cases hqs:s3.size ≤ k2
     ·have HR:=Lib.hid (pageR_n HRt.out Hb.out (Hc5.out.trans (valsR_0 (List.drop_eq_nil_of_le (by rw [← HX2.out,ba_len];exact hqs)))))
      have hqs':(s3.size:Int) ≤ (k2:Int):=by omega
      have hqs'':decide (s3.size ≤ k2) = true:=by simpa using hqs
      clear hqs
      go_wp2_with fail
      refine bodyPost_ret (v:=.tuple #[(.agg #[.int .i64 0,.slice none 0 0,.slice none 0 0,.slice none 0 0]),.int .i64 0,.int .i64 1]) ?_ rfl ⟨PoRet.bad HR.out,?_⟩
      focus (refine results_row_tmp2 Tryz.results8 _ _ (w.heap.size + 1) 29 _ (0,0) _ rfl ?_ Tryz.underlying29 rfl (by kernel_rfl);with_reducible exact row_set4 RO.out rfl _ _ _ _)
      focus (with_reducible exact below_set4 Hbw.out _ (Nat.le_succ _) _ _ _ _)
     have hqs':¬ (s3.size:Int) ≤ (k2:Int):=by omega
     have hqs'':decide (s3.size ≤ k2) = false:=by simpa using hqs
     have hq2:k2 < s3.size:=by omega
     have hq2I:(k2:Int) < (s3.size:Int):=by omega
     clear hqs
     have HD:=Lib.hid (show ((b.drop k).drop k1).drop k2 = s3[k2] :: s3.data.toList.drop (k2 + 1) from by rw [← HX2.out];exact drop_cons s3 k2 hq2)
     have hcb:(s3[k2]).toNat < 256:=(s3[k2]).toNat_lt
     go_upto_region 20 with fail
     generalize s3[k2] = cb at *
     have HX3:=Lib.hid (show (s3.extract (k2 + 1) s3.size).data.toList = s3.data.toList.drop (k2 + 1) from bext_list s3 (k2 + 1))
     have hz4:(s3.extract (k2 + 1) s3.size).size ≤ 200000:=by rw [ByteArray.size_extract];omega
     have hs4:(s3.extract (k2 + 1) s3.size).size = s3.size - (k2 + 1):=by rw [ByteArray.size_extract];omega
     generalize s3.extract (k2 + 1) s3.size = s4 at *
     cases ht:readT (s3.data.toList.drop (k2 + 1)) with
     | none =>
      have HR:=Lib.hid (pageR_n HRt.out Hb.out (Hc5.out.trans (valsR_1 HD.out ht)))
      have HTa:=Lib.hid (fun w1=>readLong_none s4 w1 (by unfold maxLen;omega) (by rw [HX3.out];exact ht))
      clear ht
      go_wp2_with fail
      refine (HTa.out _).mono ?_;rintro e9 w8b ⟨rfl,rfl⟩
      go_wp2_with fail
      refine bodyPost_ret (v:=.tuple #[(.agg #[.int .i64 0,.slice none 0 0,.slice none 0 0,.slice none 0 0]),.int .i64 0,.int .i64 1]) ?_ rfl ⟨PoRet.bad HR.out,?_⟩
      focus (refine results_row_tmp2 Tryz.results8 _ _ (w.heap.size + 1) 29 _ (0,0) _ rfl ?_ Tryz.underlying29 rfl (by kernel_rfl);with_reducible exact row_set4 RO.out rfl _ _ _ _)
      focus (with_reducible exact below_set4 Hbw.out _ (Nat.le_succ _) _ _ _ _)
     | some z3 =>
      obtain ⟨v,x⟩:=z3
      obtain ⟨sv,hsv⟩:∃ sv:ByteArray,sv.data.toList = v:=⟨⟨v.toArray⟩,by simp⟩
      have HTa:=Lib.hid (fun w1=>readLong_ba s4 w1 (by unfold maxLen;omega) (t:=v) (k:=x) (by rw [HX3.out];exact ht) sv hsv)
      obtain ⟨hxl,hvl⟩:=readT_le ht
      obtain ⟨e1,e2,_,e3⟩:=readT_inv ht
      have hx0:0 < x:=by rw [e2];unfold textOf;rw [List.length_append];have:=seven_pos v.length;omega
      rw [← HX3.out,ba_len] at hxl hvl
      have hsvz:sv.size ≤ 200000:=by rw [← ba_len sv,hsv];omega
      have hx0':(((x:Nat):Int) == 0) = false:=by rw [beq_eq_false_iff_ne];omega
      have Hsv:=Lib.hid hsv;have Ht:=Lib.hid ht
      clear hsv ht hvl e1 e2 e3
      go_wp2_with fail
      refine (HTa.out _).mono ?_;rintro e9 w8b ⟨rfl,rfl⟩
      by_cases hx:x = s4.size
      case neg =>
       have HR:=Lib.hid (pageR_n HRt.out Hb.out (Hc5.out.trans (valsR_2 HD.out Ht.out (by rw [← HX3.out,ba_len];exact hx))))
       have hx':(((x:Nat):Int) != (s4.size:Int)) = true:=by rw [bne_iff_ne];omega
       clear hx
       go_wp2_with fail
       refine bodyPost_ret (v:=.tuple #[(.agg #[.int .i64 0,.slice none 0 0,.slice none 0 0,.slice none 0 0]),.int .i64 0,.int .i64 1]) ?_ rfl ⟨PoRet.bad HR.out,?_⟩
       focus (refine results_row_tmp2 Tryz.results8 _ _ (w.heap.size + 1) 29 _ (0,0) _ rfl ?_ Tryz.underlying29 rfl (by kernel_rfl);with_reducible exact row_set4 RO.out rfl _ _ _ _)
       focus (with_reducible exact below_set4 Hbw.out _ (Nat.le_succ _) _ _ _ _)
      have hx':(((x:Nat):Int) != (s4.size:Int)) = false:=by rw [bne_eq_false_iff_eq];omega
      have Hx:=Lib.hid (show ¬ x ≠ (s3.data.toList.drop (k2 + 1)).length by rw [← HX3.out,ba_len];omega)
      clear hx
      have hsub:((te - tn:Nat):Int) = (te:Int) - (tn:Int):=by omega
      have HB1:=fun w1=>readBestOf_all f.kind ((cb.toNat:Nat):Int) sv (te - tn) w1 HRp.out.1 HRp.out.2.1 (by omega) hsvz
      rw [hsub,Hsv.out] at HB1
      have HBt:=Lib.hid HB1
      have Htn:=Lib.hid (show (((te:Nat):Int) - ((tn:Nat):Int)).toNat = te - tn by omega)
      have hwz8:w.heap.size + 1 + 1 < w8b.heap.size:=row_lt RC.out
      clear HB1 hsub
      cases hbs:bestR f.kind ((cb.toNat:Nat):Int) v (te - tn) with
      | none =>
       have HR:=Lib.hid (pageR_n HRt.out Hb.out (Hc5.out.trans (valsR_3 HD.out Ht.out Hx.out (by rw [Htn.out];exact hbs))))
       rw [hbs] at HBt
       have HBa:=Lib.hid (fun w1=>show Calls Tryz.prog 29 _ w1 fun e w'=>(∃ k:Nat,0 < k ∧ e = .returned (.tuple #[.slice none 0 0,.int .i64 (k:Nat)])) ∧ Below w1.heap.size w1 w' from HBt.out w1)
       have Hco:=Lib.hid (show Col.Ok ⟨f.id,ints rep,ints df,[]⟩ from ⟨Fo.out.id0,Fo.out.id1,ints_fits (by rw [Hrl.out.1];unfold maxLen;omega) Hrl.out.2,ints_fits (by rw [Hdl.out.1];unfold maxLen;omega) Hdl.out.2,by simp,by intro x hx;cases hx⟩)
       clear hbs
       go_wp2_with fail
       refine (HBa.out _).mono ?_;rintro e9 w9 ⟨⟨kk,hkk,rfl⟩,hb9⟩
       clear cL fL cO fO cC fC cT fT
       replace RL:=Lib.hid (row_keep hb9 RL.out);replace RO:=Lib.hid (row_keep hb9 RO.out);replace RC:=Lib.hid (row_keep hb9 RC.out);replace RT:=Lib.hid (row_keep hb9 RT.out);replace HU1:=Lib.hid (ownBelow HU1.out hb9);replace HU2:=Lib.hid (ownBelow HU2.out hb9);replace Hbw:=Lib.hid (Hbw.out.trans (hb9.mono Hbw.out.size))
       clear hb9
       have cL:=rowc RL.out;have fL:=rowf RL.out;have cO:=rowc RO.out;have fO:=rowf RO.out;have cC:=rowc RC.out;have fC:=rowf RC.out;have cT:=rowc RT.out;have fT:=rowf RT.out
       go_upto_region 24 with fail
       obtain ⟨p1,p2,p3,p4⟩:=store_cell_row (j:=3) (v:=.slice none 0 0) RC.out
       replace RL:=Lib.hid ((p2 _ (by omega)).trans RL.out);replace RO:=Lib.hid ((p2 _ (by omega)).trans RO.out);replace RT:=Lib.hid ((p2 _ (by omega)).trans RT.out);replace HU1:=Lib.hid (ownK HU1.out fun i hi _=>p2 i (by omega));replace HU2:=Lib.hid (ownK HU2.out fun i hi _=>p2 i (by omega))
       replace RC:=Lib.hid (p1.trans (show _ = some (.cells #[.int .i64 f.id,.slice b1 n1 c1,.slice b2 n2 c2,.slice none 0 0] 29 (0,0)) from rfl));replace Hbw:=Lib.hid (Hbw.out.trans (p3.mono (by omega)))
       clear p1 p2 p3 p4
       clear cL fL cO fO cC fC cT fT
       generalize w9.setCell ⟨w.heap.size + 1 + 1,3,none⟩ (.slice none 0 0) = wa at *
       have cL:=rowc RL.out;have fL:=rowf RL.out;have cO:=rowc RO.out;have fO:=rowf RO.out;have cC:=rowc RC.out;have fC:=rowf RC.out;have cT:=rowc RT.out;have fT:=rowf RT.out
       have hkk':decide (0 < kk) = true:=by simp;omega
       obtain ⟨c,hc⟩:∃ c:Col,c = ⟨f.id,ints rep,ints df,[]⟩:=⟨_,rfl⟩
       have HCol:=Lib.hid (show IsCol wa (.agg #[.int .i64 f.id,.slice b1 n1 c1,.slice b2 n2 c2,.slice none 0 0]) c from by rw [hc];exact ⟨_,_,_,rfl,nums_nat HU1.out,nums_nat HU2.out,.inl ⟨rfl,none,0,rfl⟩⟩)
       rw [← hc] at Hco
       have Hcq:=Lib.hid hc
       have HCE0:=fun w1 (h:Below w.heap.size w w1) (hcc:IsCol w1 (.agg #[.int .i64 f.id,.slice b1 n1 c1,.slice b2 n2 c2,.slice none 0 0]) c)=>cerr_any f c true (.agg #[.int .i64 f.id,.int .i64 f.kind,.int .i64 f.mr,.int .i64 f.md,p]) (.agg #[.int .i64 f.id,.slice b1 n1 c1,.slice b2 n2 c2,.slice none 0 0]) w1 ⟨p,rfl,Hp.out.below h (Nat.le_refl _)⟩ hcc Fo.out Hco.out
       unfold faultV at HCE0
       obtain ⟨fc,hfc⟩:∃ x,x = (colErr f c true).code:=⟨_,rfl⟩
       obtain ⟨fa,hfa⟩:∃ x,x = (colErr f c true).at':=⟨_,rfl⟩
       rw [← hfc,← hfa] at HCE0
       have HCE:=Lib.hid HCE0;have Hfc:=Lib.hid hfc
       clear HCE0 hfc hfa hc
       go_wp2_with fail
       refine (HCE.out _ Hbw.out HCol.out).mono ?_;rintro e9 wb ⟨rfl,hb9⟩
       clear cL fL cO fO cC fC cT fT
       replace RL:=Lib.hid (row_keep hb9 RL.out);replace RO:=Lib.hid (row_keep hb9 RO.out);replace RC:=Lib.hid (row_keep hb9 RC.out);replace RT:=Lib.hid (row_keep hb9 RT.out);replace HU1:=Lib.hid (ownBelow HU1.out hb9);replace HU2:=Lib.hid (ownBelow HU2.out hb9);replace Hbw:=Lib.hid (Hbw.out.trans (hb9.mono Hbw.out.size))
       replace HCol:=Lib.hid (HCol.out.below hb9 (Nat.le_refl _))
       clear hb9
       have cL:=rowc RL.out;have fL:=rowf RL.out;have cO:=rowc RO.out;have fO:=rowf RO.out;have cC:=rowc RC.out;have fC:=rowf RC.out;have cT:=rowc RT.out;have fT:=rowf RT.out
       go_upto_region 25 with fail
       have hwz9:w.heap.size + 1 + 1 < wb.heap.size:=row_lt RC.out
       have hb9:=(Below.refl wb.heap.size wb).alloc (Nat.le_refl _) (.cells #[.int .i64 fc,.int .i64 fa] 75)
       clear cL fL cO fO cC fC cT fT
       replace RL:=Lib.hid (row_keep hb9 RL.out);replace RO:=Lib.hid (row_keep hb9 RO.out);replace RC:=Lib.hid (row_keep hb9 RC.out);replace RT:=Lib.hid (row_keep hb9 RT.out);replace HU1:=Lib.hid (ownBelow HU1.out hb9);replace HU2:=Lib.hid (ownBelow HU2.out hb9);replace Hbw:=Lib.hid (Hbw.out.trans (hb9.mono Hbw.out.size))
       have RF:=Lib.hid (heap_alloc_new wb (.cells #[.int .i64 fc,.int .i64 fa] 75))
       replace HCol:=Lib.hid (HCol.out.below hb9 (Nat.le_refl _))
       clear hb9
       generalize wb.alloc (.cells #[.int .i64 fc,.int .i64 fa] 75) = wd at *
       generalize wb.heap.size = gF at *
       have cL:=rowc RL.out;have fL:=rowf RL.out;have cO:=rowc RO.out;have fO:=rowf RO.out;have cC:=rowc RC.out;have fC:=rowf RC.out;have cT:=rowc RT.out;have fT:=rowf RT.out;have cF:=rowc RF.out;have fF:=rowf RF.out
       go_quiet (fail)
       go_wp2_with fail
       refine bodyPost_ret (v:=.tuple #[(.agg #[.int .i64 0,.slice none 0 0,.slice none 0 0,.slice none 0 0]),.int .i64 0,.int .i64 1]) ?_ rfl ⟨PoRet.bad HR.out,?_⟩
       focus (refine results_row_tmp2 Tryz.results8 _ _ (w.heap.size + 1) 29 _ (0,0) _ rfl ?_ Tryz.underlying29 rfl (by kernel_rfl);with_reducible exact row_set4 (row_keep (below_drewN (Below.refl wd.heap.size wd) _) RO.out) rfl _ _ _ _)
       focus (with_reducible exact below_set4 (below_drewN Hbw.out _) _ (Nat.le_succ _) _ _ _ _)
      | some l =>
       rw [hbs] at HBt
       have HBa:=Lib.hid (fun w1=>show Calls Tryz.prog 29 _ w1 fun e w'=>(∃ u,e = .returned (.tuple #[u,.int .i64 0]) ∧ w'.ownsRow w1.heap.size 41 3 u l.length (l.flatMap valCells)) ∧ Below w1.heap.size w1 w' from HBt.out w1)
       have Hv4:=Lib.hid (Hc5.out.trans (valsR_4 HD.out Ht.out Hx.out (by rw [Htn.out];exact hbs)))
       obtain ⟨hll,hlo2⟩:=bestR_ok HRp.out.1 HRp.out.2.1 hbs
       have hlm:l.length ≤ maxLen:=by rw [hll];unfold maxLen;omega
       have Hco:=Lib.hid (show Col.Ok ⟨f.id,ints rep,ints df,l⟩ from ⟨Fo.out.id0,Fo.out.id1,ints_fits (by rw [Hrl.out.1];unfold maxLen;omega) Hrl.out.2,ints_fits (by rw [Hdl.out.1];unfold maxLen;omega) Hdl.out.2,hlm,hlo2⟩)
       clear hbs hll hlo2 hlm
       go_wp2_with fail
       refine (HBa.out _).mono ?_;rintro e9 w9 ⟨⟨u3,rfl,hu3⟩,hb9⟩
       clear cL fL cO fO cC fC cT fT
       replace RL:=Lib.hid (row_keep hb9 RL.out);replace RO:=Lib.hid (row_keep hb9 RO.out);replace RC:=Lib.hid (row_keep hb9 RC.out);replace RT:=Lib.hid (row_keep hb9 RT.out);replace HU1:=Lib.hid (ownBelow HU1.out hb9);replace HU2:=Lib.hid (ownBelow HU2.out hb9);replace Hbw:=Lib.hid (Hbw.out.trans (hb9.mono Hbw.out.size))
       clear hb9
       have cL:=rowc RL.out;have fL:=rowf RL.out;have cO:=rowc RO.out;have fO:=rowf RO.out;have cC:=rowc RC.out;have fC:=rowf RC.out;have cT:=rowc RT.out;have fT:=rowf RT.out
       obtain ⟨n3,b3,c3,eu3⟩:=own_cap' hu3;subst eu3
       have HU3:=Lib.hid (own_base (B':=w.heap.size + 1 + 1 + 1) hu3 (by omega));clear hu3
       go_upto_region 24 with fail
       obtain ⟨p1,p2,p3,p4⟩:=store_cell_row (j:=3) (v:=.slice b3 n3 c3) RC.out
       replace RL:=Lib.hid ((p2 _ (by omega)).trans RL.out);replace RO:=Lib.hid ((p2 _ (by omega)).trans RO.out);replace RT:=Lib.hid ((p2 _ (by omega)).trans RT.out);replace HU1:=Lib.hid (ownK HU1.out fun i hi _=>p2 i (by omega));replace HU2:=Lib.hid (ownK HU2.out fun i hi _=>p2 i (by omega));replace HU3:=Lib.hid (ownK HU3.out fun i hi _=>p2 i (by omega))
       replace RC:=Lib.hid (p1.trans (show _ = some (.cells #[.int .i64 f.id,.slice b1 n1 c1,.slice b2 n2 c2,.slice b3 n3 c3] 29 (0,0)) from rfl));replace Hbw:=Lib.hid (Hbw.out.trans (p3.mono (by omega)))
       clear p1 p2 p3 p4
       clear cL fL cO fO cC fC cT fT
       generalize w9.setCell ⟨w.heap.size + 1 + 1,3,none⟩ (.slice b3 n3 c3) = wa at *
       have cL:=rowc RL.out;have fL:=rowf RL.out;have cO:=rowc RO.out;have fO:=rowf RO.out;have cC:=rowc RC.out;have fC:=rowf RC.out;have cT:=rowc RT.out;have fT:=rowf RT.out
       obtain ⟨c,hc⟩:∃ c:Col,c = ⟨f.id,ints rep,ints df,l⟩:=⟨_,rfl⟩
       have HCol:=Lib.hid (show IsCol wa (.agg #[.int .i64 f.id,.slice b1 n1 c1,.slice b2 n2 c2,.slice b3 n3 c3]) c from by rw [hc];exact ⟨_,_,_,rfl,nums_nat HU1.out,nums_nat HU2.out,IsVals.of_own HU3.out⟩)
       rw [← hc] at Hco
       have Hcq:=Lib.hid hc
       have HCE0:=fun w1 (h:Below w.heap.size w w1) (hcc:IsCol w1 (.agg #[.int .i64 f.id,.slice b1 n1 c1,.slice b2 n2 c2,.slice b3 n3 c3]) c)=>cerr_any f c true (.agg #[.int .i64 f.id,.int .i64 f.kind,.int .i64 f.mr,.int .i64 f.md,p]) (.agg #[.int .i64 f.id,.slice b1 n1 c1,.slice b2 n2 c2,.slice b3 n3 c3]) w1 ⟨p,rfl,Hp.out.below h (Nat.le_refl _)⟩ hcc Fo.out Hco.out
       unfold faultV at HCE0
       obtain ⟨fc,hfc⟩:∃ x,x = (colErr f c true).code:=⟨_,rfl⟩
       obtain ⟨fa,hfa⟩:∃ x,x = (colErr f c true).at':=⟨_,rfl⟩
       rw [← hfc,← hfa] at HCE0
       have HCE:=Lib.hid HCE0;have Hfc:=Lib.hid hfc
       clear HCE0 hfc hfa hc
       go_wp2_with fail
       refine (HCE.out _ Hbw.out HCol.out).mono ?_;rintro e9 wb ⟨rfl,hb9⟩
       clear cL fL cO fO cC fC cT fT
       replace RL:=Lib.hid (row_keep hb9 RL.out);replace RO:=Lib.hid (row_keep hb9 RO.out);replace RC:=Lib.hid (row_keep hb9 RC.out);replace RT:=Lib.hid (row_keep hb9 RT.out);replace HU1:=Lib.hid (ownBelow HU1.out hb9);replace HU2:=Lib.hid (ownBelow HU2.out hb9);replace HU3:=Lib.hid (ownBelow HU3.out hb9);replace Hbw:=Lib.hid (Hbw.out.trans (hb9.mono Hbw.out.size))
       replace HCol:=Lib.hid (HCol.out.below hb9 (Nat.le_refl _))
       clear hb9
       have cL:=rowc RL.out;have fL:=rowf RL.out;have cO:=rowc RO.out;have fO:=rowf RO.out;have cC:=rowc RC.out;have fC:=rowf RC.out;have cT:=rowc RT.out;have fT:=rowf RT.out
       go_upto_region 25 with fail
       have hwz9:w.heap.size + 1 + 1 < wb.heap.size:=row_lt RC.out
       have hb9:=(Below.refl wb.heap.size wb).alloc (Nat.le_refl _) (.cells #[.int .i64 fc,.int .i64 fa] 75)
       clear cL fL cO fO cC fC cT fT
       replace RL:=Lib.hid (row_keep hb9 RL.out);replace RO:=Lib.hid (row_keep hb9 RO.out);replace RC:=Lib.hid (row_keep hb9 RC.out);replace RT:=Lib.hid (row_keep hb9 RT.out);replace HU1:=Lib.hid (ownBelow HU1.out hb9);replace HU2:=Lib.hid (ownBelow HU2.out hb9);replace HU3:=Lib.hid (ownBelow HU3.out hb9);replace Hbw:=Lib.hid (Hbw.out.trans (hb9.mono Hbw.out.size))
       have RF:=Lib.hid (heap_alloc_new wb (.cells #[.int .i64 fc,.int .i64 fa] 75))
       replace HCol:=Lib.hid (HCol.out.below hb9 (Nat.le_refl _))
       clear hb9
       generalize wb.alloc (.cells #[.int .i64 fc,.int .i64 fa] 75) = wd at *
       generalize wb.heap.size = gF at *
       have cL:=rowc RL.out;have fL:=rowf RL.out;have cO:=rowc RO.out;have fO:=rowf RO.out;have cC:=rowc RC.out;have fC:=rowf RC.out;have cT:=rowc RT.out;have fT:=rowf RT.out;have cF:=rowc RF.out;have fF:=rowf RF.out
       rw [← Hcq.out] at Hv4
       by_cases hce:(colErr f c true).isNil = true
       case neg =>
        have hce':(colErr f c true).isNil = false:=by simpa using hce
        have HR:=Lib.hid (pageR_n HRt.out Hb.out (Hv4.out.trans (if_neg fun h=>hce h.1)))
        have hfc:decide ((0:Int) < fc) = true:=by rw [decide_eq_true_iff,Hfc.out];exact colErr_pos2 hce'
        clear hce hce'
        go_quiet (fail)
        go_wp2_with fail
        refine bodyPost_ret (v:=.tuple #[(.agg #[.int .i64 0,.slice none 0 0,.slice none 0 0,.slice none 0 0]),.int .i64 0,.int .i64 1]) ?_ rfl ⟨PoRet.bad HR.out,?_⟩
        focus (refine results_row_tmp2 Tryz.results8 _ _ (w.heap.size + 1) 29 _ (0,0) _ rfl ?_ Tryz.underlying29 rfl (by kernel_rfl);with_reducible exact row_set4 (row_keep (below_drewN (Below.refl wd.heap.size wd) _) RO.out) rfl _ _ _ _)
        focus (with_reducible exact below_set4 (below_drewN Hbw.out _) _ (Nat.le_succ _) _ _ _ _)
       have hfc:decide ((0:Int) < fc) = false:=by rw [decide_eq_false_iff_not,Hfc.out,(GErr.isNil_iff _).1 hce];decide
       have Hce:=Lib.hid hce
       obtain ⟨ks,hks⟩:∃ s:St,s = knownSt c:=⟨_,rfl⟩
       have HK:=fun w1 (hcc:IsCol w1 (.agg #[.int .i64 f.id,.slice b1 n1 c1,.slice b2 n2 c2,.slice b3 n3 c3]) c)=>statsOfR_any c _ w1 hcc Hco.out
       rw [← hks] at HK Hv4
       unfold stA at HK
       have HKn:=Lib.hid HK
       have HCold:=Lib.hid (HCol.out.below ((Below.refl wd.heap.size wd).drew) (Nat.le_refl _))
       clear HK hce hks
       by_cases hst:stEq ks ⟨(te:Nat),(tn:Nat),th,lo,hi⟩ = true
       case neg =>
        have HR:=Lib.hid (pageR_n HRt.out Hb.out (Hv4.out.trans (if_neg fun h=>hst h.2)))
        have he:∀ wx,(binOp .neq 46 (.agg (stA ks)) (.agg (stA ⟨(te:Nat),(tn:Nat),th,lo,hi⟩))).run Tryz.prog wx = .ok (.bool true) wx:=fun wx=>by rw [neq_rst,show stEq ks ⟨(te:Nat),(tn:Nat),th,lo,hi⟩ = false by simpa using hst];rfl
        unfold stA at he
        clear hst
        go_region_held3 (fun w'=>(∀ j,w'.cell? ⟨w.heap.size + 1 + 1,j,none⟩ = (#[.int .i64 f.id,.slice b1 n1 c1,.slice b2 n2 c2,.slice b3 n3 c3]:Array Value)[j]?) ∧ (∀ j,w'.cell? ⟨gT,j,none⟩ = (#[.int .i64 (te:Nat),.int .i64 (tn:Nat),.bool th,.int .i64 lo.k,.int .i64 lo.n,.string lo.s,.int .i64 hi.k,.int .i64 hi.n,.string hi.s]:Array Value)[j]?) ∧ (∀ j,w'.cell? ⟨gF,j,none⟩ = (#[.int .i64 fc,.int .i64 fa]:Array Value)[j]?)) (first | (with_reducible exact ⟨rowc RC.out,rowc RT.out,rowc RF.out⟩) | (with_reducible exact ⟨rowc_drew RC.out,rowc_drew RT.out,rowc_drew RF.out⟩))
         (first
         | (go_at_call 31;(with_reducible refine (HKn.out _ ?_).mono ?_);(focus (first | (with_reducible exact HCol.out) | (with_reducible exact HCold.out)));rintro e9 we ⟨rfl,hb9⟩;(first | (with_reducible have hbs:=drew_first hb9) | (have hbs:=hb9));replace RL:=Lib.hid (row_keep hbs RL.out);replace RO:=Lib.hid (row_keep hbs RO.out);replace RC:=Lib.hid (row_keep hbs RC.out);replace RT:=Lib.hid (row_keep hbs RT.out);replace RF:=Lib.hid (row_keep hbs RF.out);replace HU1:=Lib.hid (ownBelow HU1.out hbs);replace HU2:=Lib.hid (ownBelow HU2.out hbs);replace HU3:=Lib.hid (ownBelow HU3.out hbs);replace HCol:=Lib.hid (HCol.out.below hbs (Nat.le_refl _));replace Hbw:=Lib.hid (Hbw.out.trans (hbs.mono Hbw.out.size));clear hb9 hbs))
        clear cL fL cO fO cC fC cT fT cF fF
        have cL:=rowc RL.out;have fL:=rowf RL.out;have cO:=rowc RO.out;have fO:=rowf RO.out;have cC:=rowc RC.out;have fC:=rowf RC.out;have cT:=rowc RT.out;have fT:=rowf RT.out;have cF:=rowc RF.out;have fF:=rowf RF.out
        go_wp2_with fail
        refine bodyPost_ret (v:=.tuple #[(.agg #[.int .i64 0,.slice none 0 0,.slice none 0 0,.slice none 0 0]),.int .i64 0,.int .i64 1]) ?_ rfl ⟨PoRet.bad HR.out,?_⟩
        focus (refine results_row_tmp2 Tryz.results8 _ _ (w.heap.size + 1) 29 _ (0,0) _ rfl ?_ Tryz.underlying29 rfl (by kernel_rfl);with_reducible exact row_set4 RO.out rfl _ _ _ _)
        focus (with_reducible exact below_set4 Hbw.out _ (Nat.le_succ _) _ _ _ _)
       have HR:=Lib.hid (pageR_ok HRt.out Hb.out (Hv4.out.trans (if_pos ⟨Hce.out,hst⟩)))
       have he:∀ wx,(binOp .neq 46 (.agg (stA ks)) (.agg (stA ⟨(te:Nat),(tn:Nat),th,lo,hi⟩))).run Tryz.prog wx = .ok (.bool false) wx:=fun wx=>by rw [neq_rst,hst];rfl
       unfold stA at he
       clear hst
       go_region_held3 (fun w'=>(∀ j,w'.cell? ⟨w.heap.size + 1 + 1,j,none⟩ = (#[.int .i64 f.id,.slice b1 n1 c1,.slice b2 n2 c2,.slice b3 n3 c3]:Array Value)[j]?) ∧ (∀ j,w'.cell? ⟨gT,j,none⟩ = (#[.int .i64 (te:Nat),.int .i64 (tn:Nat),.bool th,.int .i64 lo.k,.int .i64 lo.n,.string lo.s,.int .i64 hi.k,.int .i64 hi.n,.string hi.s]:Array Value)[j]?) ∧ (∀ j,w'.cell? ⟨gF,j,none⟩ = (#[.int .i64 fc,.int .i64 fa]:Array Value)[j]?)) (first | (with_reducible exact ⟨rowc RC.out,rowc RT.out,rowc RF.out⟩) | (with_reducible exact ⟨rowc_drew RC.out,rowc_drew RT.out,rowc_drew RF.out⟩))
        (first
        | (go_at_call 31;(with_reducible refine (HKn.out _ ?_).mono ?_);(focus (first | (with_reducible exact HCol.out) | (with_reducible exact HCold.out)));rintro e9 we ⟨rfl,hb9⟩;(first | (with_reducible have hbs:=drew_first hb9) | (have hbs:=hb9));replace RL:=Lib.hid (row_keep hbs RL.out);replace RO:=Lib.hid (row_keep hbs RO.out);replace RC:=Lib.hid (row_keep hbs RC.out);replace RT:=Lib.hid (row_keep hbs RT.out);replace RF:=Lib.hid (row_keep hbs RF.out);replace HU1:=Lib.hid (ownBelow HU1.out hbs);replace HU2:=Lib.hid (ownBelow HU2.out hbs);replace HU3:=Lib.hid (ownBelow HU3.out hbs);replace HCol:=Lib.hid (HCol.out.below hbs (Nat.le_refl _));replace Hbw:=Lib.hid (Hbw.out.trans (hbs.mono Hbw.out.size));clear hb9 hbs))
       clear cL fL cO fO cC fC cT fT cF fF
       have cL:=rowc RL.out;have fL:=rowf RL.out;have cO:=rowc RO.out;have fO:=rowf RO.out;have cC:=rowc RC.out;have fC:=rowf RC.out;have cT:=rowc RT.out;have fT:=rowf RT.out;have cF:=rowc RF.out;have fF:=rowf RF.out
       go_wp2_with fail
       refine bodyPost_ret (v:=.tuple #[.agg #[.int .i64 f.id,.slice b1 n1 c1,.slice b2 n2 c2,.slice b3 n3 c3],.int .i64 (used:Nat),.int .i64 0]) ?_ rfl ⟨PoRet.good HR.out ?_,?_⟩
       focus (refine results_row_tmp2 Tryz.results8 _ _ (w.heap.size + 1) 29 _ (0,0) _ rfl ?_ Tryz.underlying29 rfl (by kernel_rfl);with_reducible exact row_set4 RO.out rfl _ _ _ _)
       focus (rw [Hcq.out];exact ⟨_,_,_,rfl,nums_nat (ownK HU1.out fun i hi _=>set4_other (by omega) _ _ _ _),nums_nat (ownK HU2.out fun i hi _=>set4_other (by omega) _ _ _ _),IsVals.of_own (ownK HU3.out fun i hi _=>set4_other (by omega) _ _ _ _)⟩)
       focus (with_reducible exact below_set4 Hbw.out _ (Nat.le_succ _) _ _ _ _)
end Go.Proofs.YtapiabmmfmfaeaaGreatDoor
