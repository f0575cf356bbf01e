/- Merged texts: Tx3, Tx4. -/
import Derived.Test.YtapiabmmfmfaeaaGreatDoorMOw
import Derived.Test.YtapiabmmfmfaeaaGreatDoorMRd
import Derived.Test.YtapiabmmfmfaeaaGreatDoorMWire
import Derived.BigQuiet
import Derived.Deep.RegionHeld3
import Derived.Deep.DeepCutAuto
import Derived.Test.YtapiabmmfmfaeaaGreatDoorMRow
/- The reader of stats: plain Lean; the walks of its methods number, byte. -/
namespace Go.Proofs.YtapiabmmfmfaeaaGreatDoor
set_option maxHeartbeats 8000000
set_option linter.unusedVariables false
open Go Go.RowKit Go.ChangeShapes
structure Rdr where
 pos:Nat
 bad:Bool
def numP (L:List UInt8) (r:Rdr):Nat × Rdr:=match readU (L.drop r.pos) with
 | some (n,k)=>(min n 20000,⟨r.pos + k,r.bad || decide (20000 < n)⟩)
 | none=>(0,⟨r.pos,true⟩)
def byteP (L:List UInt8) (r:Rdr):Nat × Rdr:=if r.bad = true ∨ L.length ≤ r.pos then (0,⟨r.pos,true⟩) else (((L[r.pos]?).getD 0).toNat,⟨r.pos + 1,false⟩)
def rdrA (s:ByteArray) (r:Rdr):Array Value:=#[.string s,.int .i64 (r.pos:Nat),.bool r.bad]
theorem numP_le {L:List UInt8} {r:Rdr} (h:r.pos ≤ L.length):(numP L r).2.pos ≤ L.length ∧ (numP L r).1 ≤ 20000:=by
 unfold numP
 split
 ·rename_i n k hr
  have:=(readU_lt hr).2.2.1
  rw [List.length_drop] at this
  exact ⟨by show r.pos + k ≤ _;omega,Nat.min_le_right _ _⟩
 ·exact ⟨h,Nat.zero_le _⟩
theorem byteP_le {L:List UInt8} {r:Rdr} (h:r.pos ≤ L.length):(byteP L r).2.pos ≤ L.length ∧ (byteP L r).1 < 256:=by
 unfold byteP
 split
 ·exact ⟨h,by show (0:Nat) < 256;omega⟩
 ·rename_i hn
  exact ⟨by show r.pos + 1 ≤ _;omega,(L[r.pos]?.getD 0).toNat_lt⟩
set_option maxRecDepth 100000 in
theorem rnumber_any (s:ByteArray) (hs:s.size ≤ 1000000) (r:Rdr) (h:r.pos ≤ s.size) (g:Nat) (T:TypeId) (w:World) (hg:w.heap[g]? = some (.cells (rdrA s r) T (0,0))) (adr:Nat → Addr) (hE:ErrsAt w adr [1]) :
  Calls Tryz.prog 40 #[.pointer (some ⟨g,0,none⟩)] w fun e w'=>e = .returned (.int .i64 ((numP s.data.toList r).1:Nat)) ∧ w'.heap[g]? = some (.cells (rdrA s (numP s.data.toList r).2) T (0,0)) ∧ Below g w w':=by
 have hls:s.data.toList.length = s.size:=by simp
 have hxs:(s.extract r.pos s.size).size ≤ maxLen:=by rw [ByteArray.size_extract];unfold maxLen;omega
 have hxl:=bext_list s r.pos
 have HE:=Lib.hid hE
 have RG:=Lib.hid hg
 have hgl:=row_lt hg
 obtain ⟨at_,bad⟩:=r
 simp only at h hxs hxl
 have Hlt:=Lib.hid (fun n k (hr:readU (s.data.toList.drop at_) = some (n,k))=>readU_lt hr)
 unfold numP
 simp only
 have hz:(at_:Int) ≤ (s.size:Int):=by omega
 have hz0:¬ (s.size:Int) < (at_:Int):=by omega
 clear hE hg
 cases hr:readU (s.data.toList.drop at_) with
 | none =>
  have HR:=Lib.hid (fun (w1:World) (hE1:ErrsAt w1 adr [1])=>readUvarint_none (s.extract at_ s.size) _ w1 hxs (hE1.cell 1 (by decide)) (by rw [hxl];exact hr))
  clear hr Hlt hxs hxl
  simp only [rdrA] at RG
  have cG:=rowc RG.out;have fG:=rowf RG.out
  go_enter Tryz.func40,Tryz.ntmps40
  go_upto_region 1 with fail
  go_cut [3,4,5] (fun s3 s4 s5 wx=>s3 = .int .u64 0 ∧ s4 = .int .i64 0 ∧ s5 = .iface 211 (.pointer (some (adr 1))) ∧ Below w.heap.size w wx)
  case first =>
   have HB:=Lib.hid (Below.refl w.heap.size w)
   go_region_held3 (fun w'=>∀ j,w'.cell? ⟨g,j,none⟩ = (#[.string s,.int .i64 (at_:Nat),.bool bad]:Array Value)[j]?) (first | (with_reducible exact rowc RG.out) | (with_reducible exact rowc_drew RG.out))
    (first
    | (go_at_call 37;(with_reducible refine (HR.out _ ?_).mono ?_);(focus (first | exact HE.out.below HB.out | exact HE.out.below HB.out.drew));rintro e w9 ⟨rfl,hb9⟩;(first | (with_reducible have hbs:=drew_first hb9) | (have hbs:=hb9));replace RG:=Lib.hid (row_keep hbs RG.out);replace HB:=Lib.hid (HB.out.trans (hbs.mono HB.out.size));clear hb9 hbs))
   all_goals (go_wp2_with fail;go_meet)
   all_goals (exact ⟨rfl,rfl,rfl,HB.out⟩)
  case rest =>
   obtain ⟨rfl,rfl,rfl,hbx⟩:=hcut
   have RGx:=Lib.hid (row_keep hbx RG.out);have Hbx:=Lib.hid hbx
   clear RG cG fG hbx
   have cG:=rowc RGx.out;have fG:=rowf RGx.out
   cases bad
   all_goals
    go_wp2_with fail
    go_ret
    obtain ⟨p1,-,p3,-⟩:=store_cell_row (j:=2) (v:=.bool true) RGx.out
    obtain ⟨q1,-,q3,-⟩:=store_cell_row (j:=1) (v:=.int .i64 (at_:Nat)) p1
    exact ⟨rfl,q1,(Hbx.out.mono (by omega)).trans (p3.trans q3)⟩
 | some nk =>
  obtain ⟨n,k⟩:=nk
  obtain ⟨hn64,-,hkl,hk10⟩:=Hlt.out n k hr
  rw [List.length_drop,hls] at hkl
  have hak:at_ + k ≤ s.size:=by omega
  have HR:=Lib.hid (fun (w1:World) (hE1:ErrsAt w1 adr [1])=>readUvarint_some (s.extract at_ s.size) _ w1 hxs (hE1.cell 1 (by decide)) (by rw [hxl];exact hr))
  clear hls hkl hk10
  show Calls _ _ _ _ fun e w'=>e = .returned (.int .i64 ((min n 20000:Nat):Int)) ∧ w'.heap[g]? = some (.cells (rdrA s ⟨at_ + k,bad || decide (20000 < n)⟩) T (0,0)) ∧ Below g w w'
  by_cases hn2:n ≤ 20000
  ·rw [show min n 20000 = n by omega,show decide (20000 < n) = false by simp;omega,Bool.or_false]
   have hmi:min (n:Int) 20000 = (n:Int):=by omega
   have hn3:(n:Int) ≤ 20000:=by omega
   clear hr Hlt hxs hxl
   simp only [rdrA] at RG
   have cG:=rowc RG.out;have fG:=rowf RG.out
   go_enter Tryz.func40,Tryz.ntmps40
   go_upto_region 1 with fail
   go_cut [3,4,5] (fun s3 s4 s5 wx=>s3 = .int .u64 (n:Nat) ∧ s4 = .int .i64 (k:Nat) ∧ s5 = .nilIface ∧ Below w.heap.size w wx)
   case first =>
    have HB:=Lib.hid (Below.refl w.heap.size w)
    go_region_held3 (fun w'=>∀ j,w'.cell? ⟨g,j,none⟩ = (#[.string s,.int .i64 (at_:Nat),.bool bad]:Array Value)[j]?) (first | (with_reducible exact rowc RG.out) | (with_reducible exact rowc_drew RG.out))
     (first
     | (go_at_call 37;(with_reducible refine (HR.out _ ?_).mono ?_);(focus (first | exact HE.out.below HB.out | exact HE.out.below HB.out.drew));rintro e w9 ⟨rfl,hb9⟩;(first | (with_reducible have hbs:=drew_first hb9) | (have hbs:=hb9));replace RG:=Lib.hid (row_keep hbs RG.out);replace HB:=Lib.hid (HB.out.trans (hbs.mono HB.out.size));clear hb9 hbs))
    all_goals (go_wp2_with fail;go_meet)
    all_goals (exact ⟨rfl,rfl,rfl,HB.out⟩)
   case rest =>
    obtain ⟨rfl,rfl,rfl,hbx⟩:=hcut
    have RGx:=Lib.hid (row_keep hbx RG.out);have Hbx:=Lib.hid hbx
    clear RG cG fG hbx
    have cG:=rowc RGx.out;have fG:=rowf RGx.out
    cases bad
    ·go_wp2_with fail
     go_ret
     obtain ⟨p1,-,p3,-⟩:=store_cell_row (j:=2) (v:=.bool (decide (20000 < (n:Int)))) RGx.out
     obtain ⟨q1,-,q3,-⟩:=store_cell_row (j:=1) (v:=.int .i64 ((at_:Int) + (k:Int))) p1
     refine ⟨?_,q1.trans ?_,(Hbx.out.mono (by omega)).trans (p3.trans q3)⟩
     ·exact rfl
     ·simp [rdrA] <;> omega
    ·go_wp2_with fail
     go_ret
     obtain ⟨p1,-,p3,-⟩:=store_cell_row (j:=2) (v:=.bool true) RGx.out
     obtain ⟨q1,-,q3,-⟩:=store_cell_row (j:=1) (v:=.int .i64 ((at_:Int) + (k:Int))) p1
     refine ⟨?_,q1.trans ?_,(Hbx.out.mono (by omega)).trans (p3.trans q3)⟩
     ·exact rfl
     ·simp [rdrA] <;> omega
  ·rw [show min n 20000 = 20000 by omega,show decide (20000 < n) = true by simp;omega,Bool.or_true]
   have hmi:min (n:Int) 20000 = 20000:=by omega
   have hn3:¬ (n:Int) ≤ 20000:=by omega
   clear hr Hlt hxs hxl
   simp only [rdrA] at RG
   have cG:=rowc RG.out;have fG:=rowf RG.out
   go_enter Tryz.func40,Tryz.ntmps40
   go_upto_region 1 with fail
   go_cut [3,4,5] (fun s3 s4 s5 wx=>s3 = .int .u64 (n:Nat) ∧ s4 = .int .i64 (k:Nat) ∧ s5 = .nilIface ∧ Below w.heap.size w wx)
   case first =>
    have HB:=Lib.hid (Below.refl w.heap.size w)
    go_region_held3 (fun w'=>∀ j,w'.cell? ⟨g,j,none⟩ = (#[.string s,.int .i64 (at_:Nat),.bool bad]:Array Value)[j]?) (first | (with_reducible exact rowc RG.out) | (with_reducible exact rowc_drew RG.out))
     (first
     | (go_at_call 37;(with_reducible refine (HR.out _ ?_).mono ?_);(focus (first | exact HE.out.below HB.out | exact HE.out.below HB.out.drew));rintro e w9 ⟨rfl,hb9⟩;(first | (with_reducible have hbs:=drew_first hb9) | (have hbs:=hb9));replace RG:=Lib.hid (row_keep hbs RG.out);replace HB:=Lib.hid (HB.out.trans (hbs.mono HB.out.size));clear hb9 hbs))
    all_goals (go_wp2_with fail;go_meet)
    all_goals (exact ⟨rfl,rfl,rfl,HB.out⟩)
   case rest =>
    obtain ⟨rfl,rfl,rfl,hbx⟩:=hcut
    have RGx:=Lib.hid (row_keep hbx RG.out);have Hbx:=Lib.hid hbx
    clear RG cG fG hbx
    have cG:=rowc RGx.out;have fG:=rowf RGx.out
    cases bad
    all_goals
     go_wp2_with fail
     go_ret
     obtain ⟨p1,-,p3,-⟩:=store_cell_row (j:=2) (v:=.bool true) RGx.out
     obtain ⟨q1,-,q3,-⟩:=store_cell_row (j:=1) (v:=.int .i64 ((at_:Int) + (k:Int))) p1
     refine ⟨?_,q1.trans ?_,(Hbx.out.mono (by omega)).trans (p3.trans q3)⟩
     ·exact rfl
     ·simp [rdrA] <;> omega
set_option maxRecDepth 100000 in
theorem rbyte_bad (s:ByteArray) (hs:s.size ≤ 1000000) (r:Rdr) (h:r.pos ≤ s.size) (hb:r.bad = true ∨ s.size ≤ r.pos) (g:Nat) (T:TypeId) (w:World) (hg:w.heap[g]? = some (.cells (rdrA s r) T (0,0))) :
  Calls Tryz.prog 41 #[.pointer (some ⟨g,0,none⟩)] w fun e w'=>e = .returned (.int .u8 0) ∧ w'.heap[g]? = some (.cells (rdrA s ⟨r.pos,true⟩) T (0,0)) ∧ Below g w w':=by
 have RG:=Lib.hid hg
 obtain ⟨at_,bad⟩:=r
 simp only at h hb ⊢
 clear hg
 simp only [rdrA] at RG
 have cG:=rowc RG.out;have fG:=rowf RG.out
 have hi:bad = false → s.size ≤ at_:=fun hf=>by
  rcases hb with h1 | h1
  ·rw [hf] at h1;cases h1
  ·exact h1
 cases bad
 ·have hi':=hi rfl
  have hi2:(s.size:Int) ≤ (at_:Int):=by omega
  have hi3:decide (s.size ≤ at_) = true:=by simpa using hi'
  clear hi hb
  go_enter Tryz.func41,Tryz.ntmps41
  go_wp2_with fail
  go_quiet (fail)
  go_wp2_with fail
  go_ret
  obtain ⟨p1,-,p3,-⟩:=store_cell_row (j:=2) (v:=.bool true) (w:=w.drewN nq) RG.out
  exact ⟨rfl,p1,(below_drewN (Below.refl _ _) nq).trans p3⟩
 ·clear hi hb
  go_enter Tryz.func41,Tryz.ntmps41
  go_wp2_with fail
  go_quiet (fail)
  go_wp2_with fail
  go_ret
  obtain ⟨p1,-,p3,-⟩:=store_cell_row (j:=2) (v:=.bool true) (w:=w.drewN nq) RG.out
  exact ⟨rfl,p1,(below_drewN (Below.refl _ _) nq).trans p3⟩
theorem rbyte_ok (s:ByteArray) (hs:s.size ≤ 1000000) (at_:Nat) (h:at_ < s.size) (g:Nat) (T:TypeId) (w:World) (hg:w.heap[g]? = some (.cells (rdrA s ⟨at_,false⟩) T (0,0))) :
  Calls Tryz.prog 41 #[.pointer (some ⟨g,0,none⟩)] w fun e w'=>e = .returned (.int .u8 (((s.data.toList[at_]?).getD 0).toNat:Nat)) ∧ w'.heap[g]? = some (.cells (rdrA s ⟨at_ + 1,false⟩) T (0,0)) ∧ Below g w w':=by
 have RG:=Lib.hid hg
 clear hg
 simp only [rdrA] at RG
 have cG:=rowc RG.out;have fG:=rowf RG.out
 have hi3:decide (s.size ≤ at_) = false:=by simp;omega
 have hi2:¬ (s.size:Int) ≤ (at_:Int):=by omega
 go_enter Tryz.func41,Tryz.ntmps41
 go_wp2_with fail
 go_quiet (fail)
 go_wp2_with fail
 obtain ⟨p1,-,p3,-⟩:=store_cell_row (j:=1) (v:=.int .i64 ((at_:Int) + 1)) (w:=w.drewN nq) RG.out
 have RG1:=Lib.hid p1;have Hb1:=Lib.hid ((below_drewN (Below.refl g w) nq).trans p3)
 clear p1 p3 cG fG
 generalize (w.drewN nq).setCell ⟨g,1,none⟩ (.int .i64 ((at_:Int) + 1)) = w1 at *
 have cG:=rowc RG1.out
 go_quiet (fail)
 go_wp2_with fail
 go_ret
 refine ⟨ret_of (?_:Value.int .u8 _ = _),RG1.out,Hb1.out.trans (below_drewN (Below.refl g w1) _)⟩
 rw [List.getElem?_eq_getElem (by simpa using h)]
 rfl
theorem rbyte_any (s:ByteArray) (hs:s.size ≤ 1000000) (r:Rdr) (h:r.pos ≤ s.size) (g:Nat) (T:TypeId) (w:World) (hg:w.heap[g]? = some (.cells (rdrA s r) T (0,0))) :
  Calls Tryz.prog 41 #[.pointer (some ⟨g,0,none⟩)] w fun e w'=>e = .returned (.int .u8 ((byteP s.data.toList r).1:Nat)) ∧ w'.heap[g]? = some (.cells (rdrA s (byteP s.data.toList r).2) T (0,0)) ∧ Below g w w':=by
 have hls:s.data.toList.length = s.size:=by simp
 unfold byteP
 rw [hls]
 by_cases hb:r.bad = true ∨ s.size ≤ r.pos
 ·rw [if_pos hb]
  exact rbyte_bad s hs r h hb g T w hg
 ·rw [if_neg hb]
  obtain ⟨at_,bad⟩:=r
  simp only at h hb hg ⊢
  have h1:bad = false:=by cases bad <;> simp_all
  subst h1
  exact rbyte_ok s hs at_ (by omega) g T w hg
end Go.Proofs.YtapiabmmfmfaeaaGreatDoor
/- The reader's method value. -/
namespace Go.Proofs.YtapiabmmfmfaeaaGreatDoor
set_option maxHeartbeats 8000000
set_option linter.unusedVariables false
open Go Go.RowKit Go.ChangeShapes
def oneP (kind:Int) (t:List UInt8):Option Val:=if kind < 1 ∨ 5 < kind then none else (readP kind t 1).bind List.head?
def valP (L:List UInt8) (kind:Int) (r:Rdr):Val × Rdr:=match readT (L.drop r.pos) with
 | some (t,k)=>if r.bad then (zv,⟨r.pos,true⟩) else match oneP kind t with
  | some v=>(v,⟨r.pos + k,false⟩)
  | none=>(zv,⟨r.pos,true⟩)
 | none=>(zv,⟨r.pos,true⟩)
theorem readT_le {s t:List UInt8} {k:Nat} (h:readT s = some (t,k)):k ≤ s.length ∧ t.length ≤ s.length:=by
 obtain ⟨n,u,h1,h2,h3,rfl,rfl⟩:=readT_cases h
 exact ⟨h3,by simp;omega⟩
theorem valP_le {L:List UInt8} {kind:Int} {r:Rdr} (h:r.pos ≤ L.length):(valP L kind r).2.pos ≤ L.length:=by
 unfold valP
 split
 ·rename_i t k hr
  have:=(readT_le hr).1
  rw [List.length_drop] at this
  split
  ·exact h
  ·split
   ·show r.pos + k ≤ _;omega
   ·exact h
 ·exact h
set_option maxRecDepth 100000 in
theorem rval_none (s:ByteArray) (hs:s.size ≤ 1000000) (kind:Int) (at_:Nat) (bad:Bool) (h:at_ ≤ s.size) (g:Nat) (T:TypeId) (w:World) (hg:w.heap[g]? = some (.cells (rdrA s ⟨at_,bad⟩) T (0,0))) (adr:Nat → Addr) (hE:ErrsAt w adr [1,2,4]) (hr:readT (s.data.toList.drop at_) = none) :
  Calls Tryz.prog 42 #[.pointer (some ⟨g,0,none⟩),.int .i64 kind] w fun e w'=>e = .returned (.agg (valA zv)) ∧ w'.heap[g]? = some (.cells (rdrA s ⟨at_,true⟩) T (0,0)) ∧ Below g w w':=by
 have hls:s.data.toList.length = s.size:=by simp
 have hxs:(s.extract at_ s.size).size ≤ maxLen:=by rw [ByteArray.size_extract];unfold maxLen;omega
 have hxl:=bext_list s at_
 have HE:=Lib.hid hE
 have RG:=Lib.hid hg
 have hgl:=row_lt hg
 have hz:(at_:Int) ≤ (s.size:Int):=by omega
 have hz0:¬ (s.size:Int) < (at_:Int):=by omega
 clear hE hg
 have HR:=Lib.hid (fun (w1:World) (hE1:ErrsAt w1 adr [1,2,4])=>readText_none (s.extract at_ s.size) 211 (.pointer (some (adr 1))) w1 hxs (hE1.cell 1 (by decide)) (by rw [hxl];exact hr))
 clear hr
 clear hxs hxl hls
 simp only [rdrA] at RG
 go_enter Tryz.func42,Tryz.ntmps42
 go_upto_region 1 with fail
 obtain ⟨rR,hbw,hzz⟩:=rows1 (w:=w) (A:=.cells #[.int .i64 0,.int .i64 0,.string ⟨#[]⟩] 41) (Below.refl _ _)
 have RR:=Lib.hid rR;have Hbw:=Lib.hid hbw
 replace RG:=Lib.hid ((Lib.alloc_old w (.cells #[.int .i64 0,.int .i64 0,.string ⟨#[]⟩] 41) _ hgl).trans RG.out)
 clear rR hbw
 generalize w.alloc (.cells #[.int .i64 0,.int .i64 0,.string ⟨#[]⟩] 41) = w0 at *
 have cG:=rowc RG.out
 go_cut [5,6,7] (fun s5 s6 s7 wx=>s5 = .string ⟨#[]⟩ ∧ s6 = .int .i64 0 ∧ s7 = .iface 211 (.pointer (some (adr 1))) ∧ Below w0.heap.size w0 wx)
 case first =>
  have HB:=Lib.hid (Below.refl w0.heap.size w0)
  go_region_held3 (fun w'=>∀ j,w'.cell? ⟨g,j,none⟩ = (#[.string s,.int .i64 (at_:Nat),.bool bad]:Array Value)[j]?) (first | (with_reducible exact rowc RG.out) | (with_reducible exact rowc_drew RG.out))
   (first
   | (go_at_call 19;(with_reducible refine (HR.out _ ?_).mono ?_);(focus (first | exact (HE.out.below (Hbw.out.trans (HB.out.mono Hbw.out.size))) | exact (HE.out.below (Hbw.out.trans (HB.out.mono Hbw.out.size)).drew)));rintro e w9 ⟨rfl,hb9⟩;(first | (with_reducible have hbs:=drew_first hb9) | (have hbs:=hb9));replace RG:=Lib.hid (row_keep hbs RG.out);replace HB:=Lib.hid (HB.out.trans (hbs.mono HB.out.size));clear hb9 hbs))
  all_goals (go_wp2_with fail;go_meet)
  all_goals (exact ⟨rfl,rfl,rfl,HB.out⟩)
 case rest =>
  obtain ⟨rfl,rfl,rfl,hbx⟩:=hcut
  have RGx:=Lib.hid (row_keep hbx RG.out);replace RR:=Lib.hid (row_keep hbx RR.out);replace Hbw:=Lib.hid (Hbw.out.trans (hbx.mono Hbw.out.size))
  clear RG cG hbx
  have cG:=rowc RGx.out;have fG:=rowf RGx.out
  cases bad
  all_goals
   go_upto_region 4 with fail
   obtain ⟨p1,p2,p3,p4⟩:=store_cell_row (j:=2) (v:=.bool true) RGx.out
   have rR1:=(p2 _ (by omega)).trans RR.out
   have hbz:=Hbw.out.mono (Nat.le_of_lt hgl) |>.trans p3
   have RG1:=Lib.hid p1;have RR1:=Lib.hid rR1;have Hbz:=Lib.hid hbz
   clear p1 p2 p3 p4 rR1 hbz cG fG
   generalize wc.setCell ⟨g,2,none⟩ (.bool true) = w5 at *
   go_wp2_with (refine wpList_store_part rfl 41 _ _ rfl w.heap.size 0 _ 41 #[.int .i64 0,.int .i64 0,.string ⟨#[]⟩] rfl rfl RR1.out (by kernel_rfl) (by simp [Value.oneCell']) (Nat.le_of_ble_eq_true rfl) #[.int .i64 0,.int .i64 0,.string ⟨#[]⟩] rfl ?_;intro w6 rR6 hoth hbl hsz6;have RR6:=Lib.hid rR6;have RG6:=Lib.hid ((hoth _ (by omega)).trans RG1.out);have Hb6:=Lib.hid (Hbz.out.trans (hbl.mono (by omega)));clear rR6 hoth hbl hsz6)
   refine bodyPost_ret (v:=.agg #[.int .i64 0,.int .i64 0,.string ⟨#[]⟩]) (results_cell_row Tryz.results42 _ _ w.heap.size 41 _ (0,0) _ rfl RR6.out Tryz.underlying41 rfl (by kernel_rfl)) rfl ⟨rfl,RG6.out,Hb6.out⟩
set_option maxRecDepth 100000 in
theorem rval_bad (s:ByteArray) (hs:s.size ≤ 1000000) (kind:Int) (at_:Nat) (bad:Bool) (h:at_ ≤ s.size) (g:Nat) (T:TypeId) (w:World) (hg:w.heap[g]? = some (.cells (rdrA s ⟨at_,bad⟩) T (0,0))) (adr:Nat → Addr) (hE:ErrsAt w adr [1,2,4]) (t:List UInt8) (k:Nat) (hr:readT (s.data.toList.drop at_) = some (t,k)) (hb:bad = true) :
  Calls Tryz.prog 42 #[.pointer (some ⟨g,0,none⟩),.int .i64 kind] w fun e w'=>e = .returned (.agg (valA zv)) ∧ w'.heap[g]? = some (.cells (rdrA s ⟨at_,true⟩) T (0,0)) ∧ Below g w w':=by
 have hls:s.data.toList.length = s.size:=by simp
 have hxs:(s.extract at_ s.size).size ≤ maxLen:=by rw [ByteArray.size_extract];unfold maxLen;omega
 have hxl:=bext_list s at_
 have HE:=Lib.hid hE
 have RG:=Lib.hid hg
 have hgl:=row_lt hg
 have hz:(at_:Int) ≤ (s.size:Int):=by omega
 have hz0:¬ (s.size:Int) < (at_:Int):=by omega
 clear hE hg
 have HR:=Lib.hid (fun (w1:World) (hE1:ErrsAt w1 adr [1,2,4])=>readText_some (s.extract at_ s.size) 211 (.pointer (some (adr 1))) w1 hxs (hE1.cell 1 (by decide)) (by rw [hxl];exact hr))
 subst hb
 clear hr
 clear hxs hxl hls
 simp only [rdrA] at RG
 go_enter Tryz.func42,Tryz.ntmps42
 go_upto_region 1 with fail
 obtain ⟨rR,hbw,hzz⟩:=rows1 (w:=w) (A:=.cells #[.int .i64 0,.int .i64 0,.string ⟨#[]⟩] 41) (Below.refl _ _)
 have RR:=Lib.hid rR;have Hbw:=Lib.hid hbw
 replace RG:=Lib.hid ((Lib.alloc_old w (.cells #[.int .i64 0,.int .i64 0,.string ⟨#[]⟩] 41) _ hgl).trans RG.out)
 clear rR hbw
 generalize w.alloc (.cells #[.int .i64 0,.int .i64 0,.string ⟨#[]⟩] 41) = w0 at *
 have cG:=rowc RG.out
 go_cut [5,6,7] (fun s5 s6 s7 wx=>s5 = .string ⟨t.toArray⟩ ∧ s6 = .int .i64 (k:Nat) ∧ s7 = .nilIface ∧ Below w0.heap.size w0 wx)
 case first =>
  have HB:=Lib.hid (Below.refl w0.heap.size w0)
  go_region_held3 (fun w'=>∀ j,w'.cell? ⟨g,j,none⟩ = (#[.string s,.int .i64 (at_:Nat),.bool true]:Array Value)[j]?) (first | (with_reducible exact rowc RG.out) | (with_reducible exact rowc_drew RG.out))
   (first
   | (go_at_call 19;(with_reducible refine (HR.out _ ?_).mono ?_);(focus (first | exact (HE.out.below (Hbw.out.trans (HB.out.mono Hbw.out.size))) | exact (HE.out.below (Hbw.out.trans (HB.out.mono Hbw.out.size)).drew)));rintro e w9 ⟨rfl,hb9⟩;(first | (with_reducible have hbs:=drew_first hb9) | (have hbs:=hb9));replace RG:=Lib.hid (row_keep hbs RG.out);replace HB:=Lib.hid (HB.out.trans (hbs.mono HB.out.size));clear hb9 hbs))
  all_goals (go_wp2_with fail;go_meet)
  all_goals (exact ⟨rfl,rfl,rfl,HB.out⟩)
 case rest =>
  obtain ⟨rfl,rfl,rfl,hbx⟩:=hcut
  have RGx:=Lib.hid (row_keep hbx RG.out);replace RR:=Lib.hid (row_keep hbx RR.out);replace Hbw:=Lib.hid (Hbw.out.trans (hbx.mono Hbw.out.size))
  clear RG cG hbx
  have cG:=rowc RGx.out;have fG:=rowf RGx.out
  go_upto_region 4 with fail
  obtain ⟨p1,p2,p3,p4⟩:=store_cell_row (j:=2) (v:=.bool true) RGx.out
  have rR1:=(p2 _ (by omega)).trans RR.out
  have hbz:=Hbw.out.mono (Nat.le_of_lt hgl) |>.trans p3
  have RG1:=Lib.hid p1;have RR1:=Lib.hid rR1;have Hbz:=Lib.hid hbz
  clear p1 p2 p3 p4 rR1 hbz cG fG
  generalize wc.setCell ⟨g,2,none⟩ (.bool true) = w5 at *
  go_wp2_with (refine wpList_store_part rfl 41 _ _ rfl w.heap.size 0 _ 41 #[.int .i64 0,.int .i64 0,.string ⟨#[]⟩] rfl rfl RR1.out (by kernel_rfl) (by simp [Value.oneCell']) (Nat.le_of_ble_eq_true rfl) #[.int .i64 0,.int .i64 0,.string ⟨#[]⟩] rfl ?_;intro w6 rR6 hoth hbl hsz6;have RR6:=Lib.hid rR6;have RG6:=Lib.hid ((hoth _ (by omega)).trans RG1.out);have Hb6:=Lib.hid (Hbz.out.trans (hbl.mono (by omega)));clear rR6 hoth hbl hsz6)
  refine bodyPost_ret (v:=.agg #[.int .i64 0,.int .i64 0,.string ⟨#[]⟩]) (results_cell_row Tryz.results42 _ _ w.heap.size 41 _ (0,0) _ rfl RR6.out Tryz.underlying41 rfl (by kernel_rfl)) rfl ⟨rfl,RG6.out,Hb6.out⟩
set_option maxRecDepth 100000 in
theorem rval_err (s:ByteArray) (hs:s.size ≤ 1000000) (kind:Int) (at_:Nat) (bad:Bool) (h:at_ ≤ s.size) (g:Nat) (T:TypeId) (w:World) (hg:w.heap[g]? = some (.cells (rdrA s ⟨at_,bad⟩) T (0,0))) (adr:Nat → Addr) (hE:ErrsAt w adr [1,2,4]) (t:List UInt8) (k:Nat) (hr:readT (s.data.toList.drop at_) = some (t,k)) (hb:bad = false)
  (hP:∀ w1,ErrsAt w1 adr [1,2,4] → Calls Tryz.prog 47 #[.int .i64 kind,.string ⟨t.toArray⟩,.int .i64 1] w1 fun e w'=>(∃ a,e = .returned (.tuple #[.slice none 0 0,.iface 211 (.pointer (some a))])) ∧ Below w1.heap.size w1 w') :
  Calls Tryz.prog 42 #[.pointer (some ⟨g,0,none⟩),.int .i64 kind] w fun e w'=>e = .returned (.agg (valA zv)) ∧ w'.heap[g]? = some (.cells (rdrA s ⟨at_,true⟩) T (0,0)) ∧ Below g w w':=by
 have hls:s.data.toList.length = s.size:=by simp
 have hxs:(s.extract at_ s.size).size ≤ maxLen:=by rw [ByteArray.size_extract];unfold maxLen;omega
 have hxl:=bext_list s at_
 have HE:=Lib.hid hE
 have RG:=Lib.hid hg
 have hgl:=row_lt hg
 have hz:(at_:Int) ≤ (s.size:Int):=by omega
 have hz0:¬ (s.size:Int) < (at_:Int):=by omega
 clear hE hg
 have HR:=Lib.hid (fun (w1:World) (hE1:ErrsAt w1 adr [1,2,4])=>readText_some (s.extract at_ s.size) 211 (.pointer (some (adr 1))) w1 hxs (hE1.cell 1 (by decide)) (by rw [hxl];exact hr))
 have HP:=Lib.hid hP
 subst hb
 clear hr hP
 clear hxs hxl hls
 simp only [rdrA] at RG
 go_enter Tryz.func42,Tryz.ntmps42
 go_upto_region 1 with fail
 obtain ⟨rR,hbw,hzz⟩:=rows1 (w:=w) (A:=.cells #[.int .i64 0,.int .i64 0,.string ⟨#[]⟩] 41) (Below.refl _ _)
 have RR:=Lib.hid rR;have Hbw:=Lib.hid hbw
 replace RG:=Lib.hid ((Lib.alloc_old w (.cells #[.int .i64 0,.int .i64 0,.string ⟨#[]⟩] 41) _ hgl).trans RG.out)
 clear rR hbw
 generalize w.alloc (.cells #[.int .i64 0,.int .i64 0,.string ⟨#[]⟩] 41) = w0 at *
 have cG:=rowc RG.out
 go_cut [5,6,7] (fun s5 s6 s7 wx=>s5 = .string ⟨t.toArray⟩ ∧ s6 = .int .i64 (k:Nat) ∧ s7 = .nilIface ∧ Below w0.heap.size w0 wx)
 case first =>
  have HB:=Lib.hid (Below.refl w0.heap.size w0)
  go_region_held3 (fun w'=>∀ j,w'.cell? ⟨g,j,none⟩ = (#[.string s,.int .i64 (at_:Nat),.bool false]:Array Value)[j]?) (first | (with_reducible exact rowc RG.out) | (with_reducible exact rowc_drew RG.out))
   (first
   | (go_at_call 19;(with_reducible refine (HR.out _ ?_).mono ?_);(focus (first | exact (HE.out.below (Hbw.out.trans (HB.out.mono Hbw.out.size))) | exact (HE.out.below (Hbw.out.trans (HB.out.mono Hbw.out.size)).drew)));rintro e w9 ⟨rfl,hb9⟩;(first | (with_reducible have hbs:=drew_first hb9) | (have hbs:=hb9));replace RG:=Lib.hid (row_keep hbs RG.out);replace HB:=Lib.hid (HB.out.trans (hbs.mono HB.out.size));clear hb9 hbs))
  all_goals (go_wp2_with fail;go_meet)
  all_goals (exact ⟨rfl,rfl,rfl,HB.out⟩)
 case rest =>
  obtain ⟨rfl,rfl,rfl,hbx⟩:=hcut
  have RGx:=Lib.hid (row_keep hbx RG.out);replace RR:=Lib.hid (row_keep hbx RR.out);replace Hbw:=Lib.hid (Hbw.out.trans (hbx.mono Hbw.out.size))
  clear RG cG hbx
  have cG:=rowc RGx.out;have fG:=rowf RGx.out
  go_wp2_with fail
  refine (HP.out _ (HE.out.below Hbw.out)).mono ?_;rintro e w4 ⟨⟨a4,rfl⟩,hb4⟩
  replace RGx:=Lib.hid (row_keep hb4 RGx.out);replace RR:=Lib.hid (row_keep hb4 RR.out);replace Hbw:=Lib.hid (Hbw.out.trans (hb4.mono Hbw.out.size))
  clear hb4 cG fG
  have cG:=rowc RGx.out;have fG:=rowf RGx.out
  go_upto_region 8 with fail
  obtain ⟨p1,p2,p3,p4⟩:=store_cell_row (j:=2) (v:=.bool true) RGx.out
  have rR1:=(p2 _ (by omega)).trans RR.out
  have hbz:=Hbw.out.mono (Nat.le_of_lt hgl) |>.trans p3
  have RG1:=Lib.hid p1;have RR1:=Lib.hid rR1;have Hbz:=Lib.hid hbz
  clear p1 p2 p3 p4 rR1 hbz cG fG
  generalize w4.setCell ⟨g,2,none⟩ (.bool true) = w5 at *
  go_wp2_with (refine wpList_store_part rfl 41 _ _ rfl w.heap.size 0 _ 41 #[.int .i64 0,.int .i64 0,.string ⟨#[]⟩] rfl rfl RR1.out (by kernel_rfl) (by simp [Value.oneCell']) (Nat.le_of_ble_eq_true rfl) #[.int .i64 0,.int .i64 0,.string ⟨#[]⟩] rfl ?_;intro w6 rR6 hoth hbl hsz6;have RR6:=Lib.hid rR6;have RG6:=Lib.hid ((hoth _ (by omega)).trans RG1.out);have Hb6:=Lib.hid (Hbz.out.trans (hbl.mono (by omega)));clear rR6 hoth hbl hsz6)
  refine bodyPost_ret (v:=.agg #[.int .i64 0,.int .i64 0,.string ⟨#[]⟩]) (results_cell_row Tryz.results42 _ _ w.heap.size 41 _ (0,0) _ rfl RR6.out Tryz.underlying41 rfl (by kernel_rfl)) rfl ⟨rfl,RG6.out,Hb6.out⟩
set_option maxRecDepth 100000 in
theorem rval_ok (s:ByteArray) (hs:s.size ≤ 1000000) (kind:Int) (at_:Nat) (bad:Bool) (h:at_ ≤ s.size) (g:Nat) (T:TypeId) (w:World) (hg:w.heap[g]? = some (.cells (rdrA s ⟨at_,bad⟩) T (0,0))) (adr:Nat → Addr) (hE:ErrsAt w adr [1,2,4]) (t:List UInt8) (k:Nat) (hr:readT (s.data.toList.drop at_) = some (t,k)) (hb:bad = false) (v:Val) (hv:v.Ok)
  (hP:∀ w1,ErrsAt w1 adr [1,2,4] → Calls Tryz.prog 47 #[.int .i64 kind,.string ⟨t.toArray⟩,.int .i64 1] w1 fun e w'=>(∃ u,e = .returned (.tuple #[u,.nilIface]) ∧ w'.ownsRow w1.heap.size 41 3 u 1 [.int .i64 v.k,.int .i64 v.n,.string v.s]) ∧ Below w1.heap.size w1 w') :
  Calls Tryz.prog 42 #[.pointer (some ⟨g,0,none⟩),.int .i64 kind] w fun e w'=>e = .returned (.agg (valA v)) ∧ w'.heap[g]? = some (.cells (rdrA s ⟨at_ + k,false⟩) T (0,0)) ∧ Below g w w':=by
 have hls:s.data.toList.length = s.size:=by simp
 have hxs:(s.extract at_ s.size).size ≤ maxLen:=by rw [ByteArray.size_extract];unfold maxLen;omega
 have hxl:=bext_list s at_
 have HE:=Lib.hid hE
 have RG:=Lib.hid hg
 have hgl:=row_lt hg
 have hz:(at_:Int) ≤ (s.size:Int):=by omega
 have hz0:¬ (s.size:Int) < (at_:Int):=by omega
 clear hE hg
 have HR:=Lib.hid (fun (w1:World) (hE1:ErrsAt w1 adr [1,2,4])=>readText_some (s.extract at_ s.size) 211 (.pointer (some (adr 1))) w1 hxs (hE1.cell 1 (by decide)) (by rw [hxl];exact hr))
 have hkl:=(readT_le hr).1
 rw [List.length_drop,hls] at hkl
 have hak:at_ + k ≤ s.size:=by omega
 have HP:=Lib.hid hP
 subst hb
 clear hr hP hkl
 clear hxs hxl hls
 simp only [rdrA] at RG
 go_enter Tryz.func42,Tryz.ntmps42
 go_upto_region 1 with fail
 obtain ⟨rR,hbw,hzz⟩:=rows1 (w:=w) (A:=.cells #[.int .i64 0,.int .i64 0,.string ⟨#[]⟩] 41) (Below.refl _ _)
 have RR:=Lib.hid rR;have Hbw:=Lib.hid hbw
 replace RG:=Lib.hid ((Lib.alloc_old w (.cells #[.int .i64 0,.int .i64 0,.string ⟨#[]⟩] 41) _ hgl).trans RG.out)
 clear rR hbw
 generalize w.alloc (.cells #[.int .i64 0,.int .i64 0,.string ⟨#[]⟩] 41) = w0 at *
 have cG:=rowc RG.out
 go_cut [5,6,7] (fun s5 s6 s7 wx=>s5 = .string ⟨t.toArray⟩ ∧ s6 = .int .i64 (k:Nat) ∧ s7 = .nilIface ∧ Below w0.heap.size w0 wx)
 case first =>
  have HB:=Lib.hid (Below.refl w0.heap.size w0)
  go_region_held3 (fun w'=>∀ j,w'.cell? ⟨g,j,none⟩ = (#[.string s,.int .i64 (at_:Nat),.bool false]:Array Value)[j]?) (first | (with_reducible exact rowc RG.out) | (with_reducible exact rowc_drew RG.out))
   (first
   | (go_at_call 19;(with_reducible refine (HR.out _ ?_).mono ?_);(focus (first | exact (HE.out.below (Hbw.out.trans (HB.out.mono Hbw.out.size))) | exact (HE.out.below (Hbw.out.trans (HB.out.mono Hbw.out.size)).drew)));rintro e w9 ⟨rfl,hb9⟩;(first | (with_reducible have hbs:=drew_first hb9) | (have hbs:=hb9));replace RG:=Lib.hid (row_keep hbs RG.out);replace HB:=Lib.hid (HB.out.trans (hbs.mono HB.out.size));clear hb9 hbs))
  all_goals (go_wp2_with fail;go_meet)
  all_goals (exact ⟨rfl,rfl,rfl,HB.out⟩)
 case rest =>
  obtain ⟨rfl,rfl,rfl,hbx⟩:=hcut
  have RGx:=Lib.hid (row_keep hbx RG.out);replace RR:=Lib.hid (row_keep hbx RR.out);replace Hbw:=Lib.hid (Hbw.out.trans (hbx.mono Hbw.out.size))
  clear RG cG hbx
  have cG:=rowc RGx.out;have fG:=rowf RGx.out
  go_wp2_with fail
  refine (HP.out _ (HE.out.below Hbw.out)).mono ?_;rintro e w4 ⟨⟨u4,rfl,ho4⟩,hb4⟩
  replace RGx:=Lib.hid (row_keep hb4 RGx.out);replace RR:=Lib.hid (row_keep hb4 RR.out)
  have hgz:=Hbw.out.size
  replace Hbw:=Lib.hid (Hbw.out.trans (hb4.mono Hbw.out.size))
  clear hb4 cG fG
  have cG:=rowc RGx.out;have fG:=rowf RGx.out
  rcases ho4.2 with ⟨-,h0⟩ | ⟨b,cap,cur,rfl,hbB,hbc,-⟩
  ·cases h0
  have c0:=ho4.cellAt (g:=b) 0 (by decide);have c1:=ho4.cellAt (g:=b) 1 (by decide);have c2:=ho4.cellAt (g:=b) 2 (by decide)
  simp at c0 c1 c2
  have hne:b ≠ g:=by omega
  go_upto_region 10 with fail
  obtain ⟨p1,p2,p3,p4⟩:=store_cell_row (j:=1) (v:=.int .i64 ((at_:Int) + (k:Int))) RGx.out
  have rR1:=(p2 _ (by omega)).trans RR.out
  have hbz:=Hbw.out.mono (Nat.le_of_lt hgl) |>.trans p3
  have RG1:=Lib.hid p1;have RR1:=Lib.hid rR1;have Hbz:=Lib.hid hbz
  have d0:(w4.setCell ⟨g,1,none⟩ (.int .i64 ((at_:Int) + (k:Int)))).cell? ⟨b,0,none⟩ = some (.int .i64 v.k):=by rw [← c0];simp [World.cell?,p2 b hne]
  have d1:(w4.setCell ⟨g,1,none⟩ (.int .i64 ((at_:Int) + (k:Int)))).cell? ⟨b,1,none⟩ = some (.int .i64 v.n):=by rw [← c1];simp [World.cell?,p2 b hne]
  have d2:(w4.setCell ⟨g,1,none⟩ (.int .i64 ((at_:Int) + (k:Int)))).cell? ⟨b,2,none⟩ = some (.string v.s):=by rw [← c2];simp [World.cell?,p2 b hne]
  clear p1 p2 p3 p4 rR1 hbz cG fG c0 c1 c2 ho4 hbc
  generalize w4.setCell ⟨g,1,none⟩ (.int .i64 ((at_:Int) + (k:Int))) = w5 at *
  go_wp2_with (refine wpList_store_part rfl 41 _ _ rfl w.heap.size 0 _ 41 #[.int .i64 v.k,.int .i64 v.n,.string v.s] rfl rfl RR1.out (by kernel_rfl) (by simp [Value.oneCell']) (Nat.le_of_ble_eq_true rfl) #[.int .i64 v.k,.int .i64 v.n,.string v.s] rfl ?_;intro w6 rR6 hoth hbl hsz6;have RR6:=Lib.hid rR6;have RG6:=Lib.hid ((hoth _ (by omega)).trans RG1.out);have Hb6:=Lib.hid (Hbz.out.trans (hbl.mono (by omega)));clear rR6 hoth hbl hsz6)
  refine bodyPost_ret (v:=.agg #[.int .i64 v.k,.int .i64 v.n,.string v.s]) (results_cell_row Tryz.results42 _ _ w.heap.size 41 _ (0,0) _ rfl RR6.out Tryz.underlying41 rfl (by kernel_rfl)) rfl ⟨rfl,RG6.out,Hb6.out⟩
theorem oneP_none {kind:Int} {t:List UInt8} (h1:1 ≤ kind) (h5:kind ≤ 5) (h:readP kind t 1 = none):oneP kind t = none:=by
 unfold oneP
 rw [if_neg (by omega),h];rfl
theorem oneP_some {kind:Int} {t:List UInt8} {l:List Val} (h1:1 ≤ kind) (h5:kind ≤ 5) (h:readP kind t 1 = some l):∃ v,l = [v] ∧ oneP kind t = some v ∧ v.Ok ∧ OkP kind v:=by
 have hi:=readP_inv h1 h5 h
 obtain ⟨v,rfl⟩:∃ v,l = [v]:=by
  have hl:l.length = 1:=hi.2.1
  match l,hl with
  | [v],_=>exact ⟨v,rfl⟩
 refine ⟨v,rfl,?_,hi.2.2.1 v (by simp),hi.2.2.2 v (by simp)⟩
 unfold oneP
 rw [if_neg (by omega),h];rfl
theorem rvalue_any (s:ByteArray) (hs:s.size ≤ 1000000) (kind:Int) (r:Rdr) (h:r.pos ≤ s.size) (g:Nat) (T:TypeId) (w:World) (hg:w.heap[g]? = some (.cells (rdrA s r) T (0,0))) (adr:Nat → Addr) (hE:ErrsAt w adr [1,2,4]) :
  Calls Tryz.prog 42 #[.pointer (some ⟨g,0,none⟩),.int .i64 kind] w fun e w'=>e = .returned (.agg (valA (valP s.data.toList kind r).1)) ∧ w'.heap[g]? = some (.cells (rdrA s (valP s.data.toList kind r).2) T (0,0)) ∧ Below g w w':=by
 obtain ⟨at_,bad⟩:=r
 simp only at h
 have hls:s.data.toList.length = s.size:=by simp
 unfold valP
 simp only
 cases hr:readT (s.data.toList.drop at_) with
 | none=>exact rval_none s hs kind at_ bad h g T w hg adr hE hr
 | some tk =>
  obtain ⟨t,k⟩:=tk
  have htl:=(readT_le hr).2
  rw [List.length_drop,hls] at htl
  have hts:(⟨t.toArray⟩:ByteArray).size ≤ 1000000:=by show t.toArray.size ≤ _;simp;omega
  cases bad with
  | true=>exact rval_bad s hs kind at_ true h g T w hg adr hE t k hr rfl
  | false =>
   simp only [Bool.false_eq_true,if_false]
   by_cases hk:kind < 1 ∨ 5 < kind
   ·have e:oneP kind t = none:=by unfold oneP;rw [if_pos hk]
    rw [e]
    refine rval_err s hs kind at_ false h g T w hg adr hE t k hr rfl (fun w1 hE1=>?_)
    refine (readPlain_err kind 1 ⟨t.toArray⟩ w1 adr (hE1.sub (by decide)) (by omega)).mono ?_
    rintro e w' ⟨⟨u,h6,h7⟩,rfl⟩
    have hm:manyErr kind 1 = .sent 4:=by unfold manyErr;rw [if_pos hk]
    rw [hm] at h7
    obtain ⟨-,-,rfl⟩:=h7
    exact ⟨⟨_,h6⟩,Below.refl _ _⟩
   ·have h1:1 ≤ kind:=by omega
    have h5:kind ≤ 5:=by omega
    cases hp:readP kind t 1 with
    | none =>
     rw [oneP_none h1 h5 hp]
     refine rval_err s hs kind at_ false h g T w hg adr hE t k hr rfl (fun w1 hE1=>?_)
     refine (readPlain_any kind ⟨t.toArray⟩ 1 _ _ w1 h1 h5 (by decide) hts (hE1.cell 1 (by decide))).mono fun e w' ⟨h6,h7⟩=>?_
     rw [show (⟨t.toArray⟩:ByteArray).data.toList = t from by simp,hp] at h6
     exact ⟨⟨_,h6⟩,h7⟩
    | some l =>
     obtain ⟨v,rfl,e1,e2,e3⟩:=oneP_some h1 h5 hp
     rw [e1]
     refine rval_ok s hs kind at_ false h g T w hg adr hE t k hr rfl v e2 (fun w1 hE1=>?_)
     refine (readPlain_any kind ⟨t.toArray⟩ 1 _ _ w1 h1 h5 (by decide) hts (hE1.cell 1 (by decide))).mono fun e w' ⟨h6,h7⟩=>?_
     rw [show (⟨t.toArray⟩:ByteArray).data.toList = t from by simp,hp] at h6
     exact ⟨h6,h7⟩
end Go.Proofs.YtapiabmmfmfaeaaGreatDoor
