/- stats.Read: plain Lean, and the walk. -/
import Derived.Test.YtapiabmmfmfaeaaGreatDoorMTw
import Derived.Test.YtapiabmmfmfaeaaGreatDoorMSt
import Derived.Test.YtapiabmmfmfaeaaGreatDoorMRw
namespace Go.Proofs.YtapiabmmfmfaeaaGreatDoor
set_option maxHeartbeats 16000000
set_option linter.unusedVariables false
open Go Go.RowKit Go.ChangeShapes
structure RdS where
 e:Nat
 n:Nat
 h:Nat
 lo:Val
 hi:Val
 r:Rdr
def rdS (L:List UInt8):RdS :=
 let x1:=numP L ⟨0,false⟩
 let x2:=if x1.2.bad then (0,x1.2) else numP L x1.2
 let x3:=byteP L x2.2
 if x3.1 = 1 then
  let x4:=byteP L x3.2
  let x5:=valP L (x4.1:Nat) x4.2
  let x6:=valP L (x4.1:Nat) x5.2
  ⟨x1.1,x2.1,x3.1,x5.1,x6.1,x6.2⟩
 else ⟨x1.1,x2.1,x3.1,zv,zv,x3.2⟩
def RdS.fail (x:RdS):Bool:=x.r.bad || (decide (1 < x.h) || (decide (x.e < x.n) || ((x.h == 1) != decide (x.n < x.e) || x.hi.less x.lo)))
def readPr (L:List UInt8):Option (St × Nat):=if (rdS L).fail then none else some (⟨((rdS L).e:Nat),((rdS L).n:Nat),(rdS L).h == 1,(rdS L).lo,(rdS L).hi⟩,(rdS L).r.pos)
def stRet (ev:Value):Option (St × Nat) → Value
 | some (t,k)=>.tuple #[.agg (stA t),.int .i64 (k:Nat),.nilIface]
 | none=>.tuple #[.agg (stA St.none),.int .i64 0,ev]
theorem oneP_ok {kind:Int} {t:List UInt8} {v:Val} (h:oneP kind t = some v):v.Ok ∧ OkP kind v ∧ 1 ≤ kind ∧ kind ≤ 5:=by
 unfold oneP at h
 split at h
 ·cases h
 ·rename_i hk
  have h1:1 ≤ kind:=by omega
  have h5:kind ≤ 5:=by omega
  cases hp:readP kind t 1 with
  | none=>rw [hp] at h;cases h
  | some l =>
   obtain ⟨v',rfl,e1,e2,e3⟩:=oneP_some h1 h5 hp
   rw [hp] at h
   simp at h
   subst h
   exact ⟨e2,e3,h1,h5⟩
theorem zv_ok:zv.Ok:=⟨by decide,by decide,by decide,by decide,by decide⟩
theorem valP_ok (L:List UInt8) (kind:Int) (r:Rdr):(valP L kind r).1.Ok:=by
 unfold valP
 split
 ·split
  ·exact zv_ok
  ·split
   ·rename_i h;exact (oneP_ok h).1
   ·exact zv_ok
 ·exact zv_ok
set_option maxRecDepth 100000 in
theorem read_A (s:ByteArray) (e p1 p3:Nat) (w:World) (adr:Nat → Addr) (hE:ErrsAt w adr [1,2,4])
  (h1:∀ w1,Below w.heap.size w w1 → w1.heap[w.heap.size + 1]? = some (.cells #[.string s,.int .i64 (0:Nat),.bool false] 93 (0,0)) → Calls Tryz.prog 40 #[.pointer (some ⟨w.heap.size + 1,0,none⟩)] w1 fun e9 w'=>e9 = .returned (.int .i64 (e:Nat)) ∧ w'.heap[w.heap.size + 1]? = some (.cells #[.string s,.int .i64 (p1:Nat),.bool true] 93 (0,0)) ∧ Below (w.heap.size + 1) w1 w')
  (h3:∀ w1,Below w.heap.size w w1 → w1.heap[w.heap.size + 1]? = some (.cells #[.string s,.int .i64 (p1:Nat),.bool true] 93 (0,0)) → Calls Tryz.prog 41 #[.pointer (some ⟨w.heap.size + 1,0,none⟩)] w1 fun e9 w'=>e9 = .returned (.int .u8 0) ∧ w'.heap[w.heap.size + 1]? = some (.cells #[.string s,.int .i64 (p3:Nat),.bool true] 93 (0,0)) ∧ Below (w.heap.size + 1) w1 w') :
  Calls Tryz.prog 17 #[.string s] w fun e9 w'=>e9 = .returned (.tuple #[.agg (stA St.none),.int .i64 0,.iface 211 (.pointer (some (adr 1)))]) ∧ Below w.heap.size w w':=by
 have HE:=Lib.hid hE
 have hg1:(1:Nat) < w.heap.size:=block_lt_of_cell (hE.cell 1 (by decide))
 have H1:=Lib.hid h1;have H3:=Lib.hid h3
 clear h1 h3
 go_enter Tryz.func17,Tryz.ntmps17
 go_upto_region 2 with fail
 obtain ⟨rS,rG,hbw,hz⟩:=rows2 (w:=w) (A:=.cells #[.int .i64 0,.int .i64 0,.bool false,.int .i64 0,.int .i64 0,.string ⟨#[]⟩,.int .i64 0,.int .i64 0,.string ⟨#[]⟩] 43) (B:=.cells #[.string s,.int .i64 0,.bool false] 93) (Below.refl _ _)
 have RS:=Lib.hid rS;have RG:Hid (((w.alloc (.cells #[.int .i64 0,.int .i64 0,.bool false,.int .i64 0,.int .i64 0,.string ⟨#[]⟩,.int .i64 0,.int .i64 0,.string ⟨#[]⟩] 43)).alloc (.cells #[.string s,.int .i64 0,.bool false] 93)).heap[w.heap.size + 1]? = some (.cells #[.string s,.int .i64 ((0:Nat):Int),.bool false] 93 (0,0))):=Lib.hid rG;have Hbw:=Lib.hid hbw
 clear rS rG hbw hz hE
 generalize ((w.alloc (.cells #[.int .i64 0,.int .i64 0,.bool false,.int .i64 0,.int .i64 0,.string ⟨#[]⟩,.int .i64 0,.int .i64 0,.string ⟨#[]⟩] 43)).alloc (.cells #[.string s,.int .i64 0,.bool false] 93)) = w0 at *
 have cG:=rowc RG.out;have cS:=rowc RS.out;have fS:=rowf RS.out
 go_wp2_with fail
 refine (H1.out _ Hbw.out RG.out).mono ?_;rintro e9 w1 ⟨rfl,hgw1,hbw1⟩
 replace RG:=Lib.hid hgw1;replace RS:=Lib.hid (row_below hbw1 RS.out (by omega));replace Hbw:=Lib.hid (Hbw.out.trans (hbw1.mono (by omega)))
 clear hgw1 hbw1 cS cG fS
 have cG:=rowc RG.out;have cS:=rowc RS.out;have fS:=rowf RS.out
 go_upto_region 3 with fail
 obtain ⟨p1,p2,p3,p4⟩:=store_cell_row (j:=0) (v:=.int .i64 (e:Nat)) RS.out
 replace RG:=Lib.hid ((p2 _ (by omega)).trans RG.out);replace RS:=Lib.hid (p1.trans (show _ = some (.cells #[.int .i64 (e:Nat),.int .i64 0,.bool false,.int .i64 0,.int .i64 0,.string ⟨#[]⟩,.int .i64 0,.int .i64 0,.string ⟨#[]⟩] 43 (0,0)) from rfl));replace Hbw:=Lib.hid (Hbw.out.trans p3)
 clear p1 p2 p3 p4 cS cG fS
 generalize w1.setCell ⟨w.heap.size,0,none⟩ (.int .i64 (e:Nat)) = w2 at *
 have cG:=rowc RG.out;have cS:=rowc RS.out;have fS:=rowf RS.out
 go_wp2_with fail
 refine (H3.out _ Hbw.out RG.out).mono ?_;rintro e9 w3 ⟨rfl,hgw3,hbw3⟩
 replace RG:=Lib.hid hgw3;replace RS:=Lib.hid (row_below hbw3 RS.out (by omega));replace Hbw:=Lib.hid (Hbw.out.trans (hbw3.mono (by omega)))
 clear hgw3 hbw3 cS cG fS
 have cG:=rowc RG.out;have cS:=rowc RS.out;have fS:=rowf RS.out
 go_upto_region 7 with fail
 obtain ⟨p1,p2,p3,p4⟩:=store_cell_row (j:=2) (v:=.bool false) RS.out
 replace RG:=Lib.hid ((p2 _ (by omega)).trans RG.out);replace RS:=Lib.hid (p1.trans (show _ = some (.cells #[.int .i64 (e:Nat),.int .i64 0,.bool false,.int .i64 0,.int .i64 0,.string ⟨#[]⟩,.int .i64 0,.int .i64 0,.string ⟨#[]⟩] 43 (0,0)) from rfl));replace Hbw:=Lib.hid (Hbw.out.trans p3)
 clear p1 p2 p3 p4 cS cG fS
 generalize w3.setCell ⟨w.heap.size,2,none⟩ (.bool false) = w4 at *
 have cG:=rowc RG.out;have cS:=rowc RS.out;have fS:=rowf RS.out
 go_upto_region 12 with fail
 have e1:w4.cell? ⟨1,0,none⟩ = some (.iface 211 (.pointer (some (adr 1)))):=(HE.out.below Hbw.out).cell 1 (by decide)
 have e1d:w4.drew.cell? ⟨1,0,none⟩ = some (.iface 211 (.pointer (some (adr 1)))):=e1
 have hnb:(1:Nat) ≠ w.heap.size:=Nat.ne_of_lt hg1
 have RSd:Hid (w4.drew.heap[w.heap.size]? = some (.cells #[.int .i64 (e:Nat),.int .i64 0,.bool false,.int .i64 0,.int .i64 0,.string ⟨#[]⟩,.int .i64 0,.int .i64 0,.string ⟨#[]⟩] 43 (0,0))):=Lib.hid RS.out
 go_region_held3 (fun w'=>w'.cell? ⟨1,0,none⟩ = some (.iface 211 (.pointer (some (adr 1))))) (first | (with_reducible exact e1) | (with_reducible exact e1d) | (with_reducible exact cell_set9 hnb e1d _ _ _ _ _ _ _ _ _) | (with_reducible exact cell_set9 hnb e1 _ _ _ _ _ _ _ _ _) | (with_reducible exact cell_set9d hnb e1 _ _ _ _ _ _ _ _ _)) (fail)
 all_goals go_wp2_with fail
 all_goals refine bodyPost_ret (v:=.tuple #[.agg #[.int .i64 0,.int .i64 0,.bool false,.int .i64 0,.int .i64 0,.string ⟨#[]⟩,.int .i64 0,.int .i64 0,.string ⟨#[]⟩],.int .i64 0,.iface 211 (.pointer (some (adr 1)))]) ?_ rfl ⟨rfl,?_⟩
 all_goals first
  | (refine results_row_tmp2 Tryz.results17 _ _ w.heap.size 43 _ (0,0) _ rfl ?_ Tryz.underlying43 rfl (by kernel_rfl);first | (with_reducible exact row_set9 RS.out rfl _ _ _ _ _ _ _ _ _) | (with_reducible exact row_set9 RSd.out rfl _ _ _ _ _ _ _ _ _) | (with_reducible exact row_set9d RS.out rfl _ _ _ _ _ _ _ _ _))
  | (with_reducible exact below_set9 Hbw.out _ (Nat.le_refl _) _ _ _ _ _ _ _ _ _)
  | (with_reducible exact (below_set9 Hbw.out _ (Nat.le_refl _) _ _ _ _ _ _ _ _ _).drew)
  | (with_reducible exact (below_set9 Hbw.out.drew _ (Nat.le_refl _) _ _ _ _ _ _ _ _ _))
set_option maxRecDepth 100000 in
theorem read_Bbad (s:ByteArray) (e n p1 p2 p3:Nat) (b2:Bool) (w:World) (adr:Nat → Addr) (hE:ErrsAt w adr [1,2,4])
  (h1:∀ w1,Below w.heap.size w w1 → w1.heap[w.heap.size + 1]? = some (.cells #[.string s,.int .i64 (0:Nat),.bool false] 93 (0,0)) → Calls Tryz.prog 40 #[.pointer (some ⟨w.heap.size + 1,0,none⟩)] w1 fun e9 w'=>e9 = .returned (.int .i64 (e:Nat)) ∧ w'.heap[w.heap.size + 1]? = some (.cells #[.string s,.int .i64 (p1:Nat),.bool false] 93 (0,0)) ∧ Below (w.heap.size + 1) w1 w')
  (h2:∀ w1,Below w.heap.size w w1 → w1.heap[w.heap.size + 1]? = some (.cells #[.string s,.int .i64 (p1:Nat),.bool false] 93 (0,0)) → Calls Tryz.prog 40 #[.pointer (some ⟨w.heap.size + 1,0,none⟩)] w1 fun e9 w'=>e9 = .returned (.int .i64 (n:Nat)) ∧ w'.heap[w.heap.size + 1]? = some (.cells #[.string s,.int .i64 (p2:Nat),.bool b2] 93 (0,0)) ∧ Below (w.heap.size + 1) w1 w')
  (h3:∀ w1,Below w.heap.size w w1 → w1.heap[w.heap.size + 1]? = some (.cells #[.string s,.int .i64 (p2:Nat),.bool b2] 93 (0,0)) → Calls Tryz.prog 41 #[.pointer (some ⟨w.heap.size + 1,0,none⟩)] w1 fun e9 w'=>e9 = .returned (.int .u8 0) ∧ w'.heap[w.heap.size + 1]? = some (.cells #[.string s,.int .i64 (p3:Nat),.bool true] 93 (0,0)) ∧ Below (w.heap.size + 1) w1 w') :
  Calls Tryz.prog 17 #[.string s] w fun e9 w'=>e9 = .returned (.tuple #[.agg (stA St.none),.int .i64 0,.iface 211 (.pointer (some (adr 1)))]) ∧ Below w.heap.size w w':=by
 have HE:=Lib.hid hE
 have hg1:(1:Nat) < w.heap.size:=block_lt_of_cell (hE.cell 1 (by decide))
 have H1:=Lib.hid h1;have H2:=Lib.hid h2;have H3:=Lib.hid h3
 clear h1 h2 h3
 go_enter Tryz.func17,Tryz.ntmps17
 go_upto_region 2 with fail
 obtain ⟨rS,rG,hbw,hz⟩:=rows2 (w:=w) (A:=.cells #[.int .i64 0,.int .i64 0,.bool false,.int .i64 0,.int .i64 0,.string ⟨#[]⟩,.int .i64 0,.int .i64 0,.string ⟨#[]⟩] 43) (B:=.cells #[.string s,.int .i64 0,.bool false] 93) (Below.refl _ _)
 have RS:=Lib.hid rS;have RG:Hid (((w.alloc (.cells #[.int .i64 0,.int .i64 0,.bool false,.int .i64 0,.int .i64 0,.string ⟨#[]⟩,.int .i64 0,.int .i64 0,.string ⟨#[]⟩] 43)).alloc (.cells #[.string s,.int .i64 0,.bool false] 93)).heap[w.heap.size + 1]? = some (.cells #[.string s,.int .i64 ((0:Nat):Int),.bool false] 93 (0,0))):=Lib.hid rG;have Hbw:=Lib.hid hbw
 clear rS rG hbw hz hE
 generalize ((w.alloc (.cells #[.int .i64 0,.int .i64 0,.bool false,.int .i64 0,.int .i64 0,.string ⟨#[]⟩,.int .i64 0,.int .i64 0,.string ⟨#[]⟩] 43)).alloc (.cells #[.string s,.int .i64 0,.bool false] 93)) = w0 at *
 have cG:=rowc RG.out;have cS:=rowc RS.out;have fS:=rowf RS.out
 go_wp2_with fail
 refine (H1.out _ Hbw.out RG.out).mono ?_;rintro e9 w1 ⟨rfl,hgw1,hbw1⟩
 replace RG:=Lib.hid hgw1;replace RS:=Lib.hid (row_below hbw1 RS.out (by omega));replace Hbw:=Lib.hid (Hbw.out.trans (hbw1.mono (by omega)))
 clear hgw1 hbw1 cS cG fS
 have cG:=rowc RG.out;have cS:=rowc RS.out;have fS:=rowf RS.out
 go_upto_region 3 with fail
 obtain ⟨p1,p2,p3,p4⟩:=store_cell_row (j:=0) (v:=.int .i64 (e:Nat)) RS.out
 replace RG:=Lib.hid ((p2 _ (by omega)).trans RG.out);replace RS:=Lib.hid (p1.trans (show _ = some (.cells #[.int .i64 (e:Nat),.int .i64 0,.bool false,.int .i64 0,.int .i64 0,.string ⟨#[]⟩,.int .i64 0,.int .i64 0,.string ⟨#[]⟩] 43 (0,0)) from rfl));replace Hbw:=Lib.hid (Hbw.out.trans p3)
 clear p1 p2 p3 p4 cS cG fS
 generalize w1.setCell ⟨w.heap.size,0,none⟩ (.int .i64 (e:Nat)) = w2 at *
 have cG:=rowc RG.out;have cS:=rowc RS.out;have fS:=rowf RS.out
 go_wp2_with fail
 refine (H2.out _ Hbw.out RG.out).mono ?_;rintro e9 w3 ⟨rfl,hgw3,hbw3⟩
 replace RG:=Lib.hid hgw3;replace RS:=Lib.hid (row_below hbw3 RS.out (by omega));replace Hbw:=Lib.hid (Hbw.out.trans (hbw3.mono (by omega)))
 clear hgw3 hbw3 cS cG fS
 have cG:=rowc RG.out;have cS:=rowc RS.out;have fS:=rowf RS.out
 go_upto_region 5 with fail
 obtain ⟨p1,p2,p3,p4⟩:=store_cell_row (j:=1) (v:=.int .i64 (n:Nat)) RS.out
 replace RG:=Lib.hid ((p2 _ (by omega)).trans RG.out);replace RS:=Lib.hid (p1.trans (show _ = some (.cells #[.int .i64 (e:Nat),.int .i64 (n:Nat),.bool false,.int .i64 0,.int .i64 0,.string ⟨#[]⟩,.int .i64 0,.int .i64 0,.string ⟨#[]⟩] 43 (0,0)) from rfl));replace Hbw:=Lib.hid (Hbw.out.trans p3)
 clear p1 p2 p3 p4 cS cG fS
 generalize w3.setCell ⟨w.heap.size,1,none⟩ (.int .i64 (n:Nat)) = w4 at *
 have cG:=rowc RG.out;have cS:=rowc RS.out;have fS:=rowf RS.out
 go_wp2_with fail
 refine (H3.out _ Hbw.out RG.out).mono ?_;rintro e9 w5 ⟨rfl,hgw5,hbw5⟩
 replace RG:=Lib.hid hgw5;replace RS:=Lib.hid (row_below hbw5 RS.out (by omega));replace Hbw:=Lib.hid (Hbw.out.trans (hbw5.mono (by omega)))
 clear hgw5 hbw5 cS cG fS
 have cG:=rowc RG.out;have cS:=rowc RS.out;have fS:=rowf RS.out
 go_upto_region 7 with fail
 obtain ⟨p1,p2,p3,p4⟩:=store_cell_row (j:=2) (v:=.bool false) RS.out
 replace RG:=Lib.hid ((p2 _ (by omega)).trans RG.out);replace RS:=Lib.hid (p1.trans (show _ = some (.cells #[.int .i64 (e:Nat),.int .i64 (n:Nat),.bool false,.int .i64 0,.int .i64 0,.string ⟨#[]⟩,.int .i64 0,.int .i64 0,.string ⟨#[]⟩] 43 (0,0)) from rfl));replace Hbw:=Lib.hid (Hbw.out.trans p3)
 clear p1 p2 p3 p4 cS cG fS
 generalize w5.setCell ⟨w.heap.size,2,none⟩ (.bool false) = w6 at *
 have cG:=rowc RG.out;have cS:=rowc RS.out;have fS:=rowf RS.out
 go_upto_region 12 with fail
 have e1:w6.cell? ⟨1,0,none⟩ = some (.iface 211 (.pointer (some (adr 1)))):=(HE.out.below Hbw.out).cell 1 (by decide)
 have e1d:w6.drew.cell? ⟨1,0,none⟩ = some (.iface 211 (.pointer (some (adr 1)))):=e1
 have hnb:(1:Nat) ≠ w.heap.size:=Nat.ne_of_lt hg1
 have RSd:Hid (w6.drew.heap[w.heap.size]? = some (.cells #[.int .i64 (e:Nat),.int .i64 (n:Nat),.bool false,.int .i64 0,.int .i64 0,.string ⟨#[]⟩,.int .i64 0,.int .i64 0,.string ⟨#[]⟩] 43 (0,0))):=Lib.hid RS.out
 go_region_held3 (fun w'=>w'.cell? ⟨1,0,none⟩ = some (.iface 211 (.pointer (some (adr 1))))) (first | (with_reducible exact e1) | (with_reducible exact e1d) | (with_reducible exact cell_set9 hnb e1d _ _ _ _ _ _ _ _ _) | (with_reducible exact cell_set9 hnb e1 _ _ _ _ _ _ _ _ _) | (with_reducible exact cell_set9d hnb e1 _ _ _ _ _ _ _ _ _)) (fail)
 all_goals go_wp2_with fail
 all_goals refine bodyPost_ret (v:=.tuple #[.agg #[.int .i64 0,.int .i64 0,.bool false,.int .i64 0,.int .i64 0,.string ⟨#[]⟩,.int .i64 0,.int .i64 0,.string ⟨#[]⟩],.int .i64 0,.iface 211 (.pointer (some (adr 1)))]) ?_ rfl ⟨rfl,?_⟩
 all_goals first
  | (refine results_row_tmp2 Tryz.results17 _ _ w.heap.size 43 _ (0,0) _ rfl ?_ Tryz.underlying43 rfl (by kernel_rfl);first | (with_reducible exact row_set9 RS.out rfl _ _ _ _ _ _ _ _ _) | (with_reducible exact row_set9 RSd.out rfl _ _ _ _ _ _ _ _ _) | (with_reducible exact row_set9d RS.out rfl _ _ _ _ _ _ _ _ _))
  | (with_reducible exact below_set9 Hbw.out _ (Nat.le_refl _) _ _ _ _ _ _ _ _ _)
  | (with_reducible exact (below_set9 Hbw.out _ (Nat.le_refl _) _ _ _ _ _ _ _ _ _).drew)
  | (with_reducible exact (below_set9 Hbw.out.drew _ (Nat.le_refl _) _ _ _ _ _ _ _ _ _))
set_option maxRecDepth 100000 in
theorem read_Bbig (s:ByteArray) (e n p1 p2 p3:Nat) (h:Nat) (b2:Bool) (w:World) (adr:Nat → Addr) (hE:ErrsAt w adr [1,2,4])
  (h1:∀ w1,Below w.heap.size w w1 → w1.heap[w.heap.size + 1]? = some (.cells #[.string s,.int .i64 (0:Nat),.bool false] 93 (0,0)) → Calls Tryz.prog 40 #[.pointer (some ⟨w.heap.size + 1,0,none⟩)] w1 fun e9 w'=>e9 = .returned (.int .i64 (e:Nat)) ∧ w'.heap[w.heap.size + 1]? = some (.cells #[.string s,.int .i64 (p1:Nat),.bool false] 93 (0,0)) ∧ Below (w.heap.size + 1) w1 w')
  (h2:∀ w1,Below w.heap.size w w1 → w1.heap[w.heap.size + 1]? = some (.cells #[.string s,.int .i64 (p1:Nat),.bool false] 93 (0,0)) → Calls Tryz.prog 40 #[.pointer (some ⟨w.heap.size + 1,0,none⟩)] w1 fun e9 w'=>e9 = .returned (.int .i64 (n:Nat)) ∧ w'.heap[w.heap.size + 1]? = some (.cells #[.string s,.int .i64 (p2:Nat),.bool b2] 93 (0,0)) ∧ Below (w.heap.size + 1) w1 w')
  (h3:∀ w1,Below w.heap.size w w1 → w1.heap[w.heap.size + 1]? = some (.cells #[.string s,.int .i64 (p2:Nat),.bool b2] 93 (0,0)) → Calls Tryz.prog 41 #[.pointer (some ⟨w.heap.size + 1,0,none⟩)] w1 fun e9 w'=>e9 = .returned (.int .u8 (h:Nat)) ∧ w'.heap[w.heap.size + 1]? = some (.cells #[.string s,.int .i64 (p3:Nat),.bool false] 93 (0,0)) ∧ Below (w.heap.size + 1) w1 w')
  (q0:((h:Int) == 1) = false) (q1:(1:Int) < (h:Int)) (q2:1 < h) :
  Calls Tryz.prog 17 #[.string s] w fun e9 w'=>e9 = .returned (.tuple #[.agg (stA St.none),.int .i64 0,.iface 211 (.pointer (some (adr 1)))]) ∧ Below w.heap.size w w':=by
 have HE:=Lib.hid hE
 have hg1:(1:Nat) < w.heap.size:=block_lt_of_cell (hE.cell 1 (by decide))
 have H1:=Lib.hid h1;have H2:=Lib.hid h2;have H3:=Lib.hid h3
 clear h1 h2 h3
 go_enter Tryz.func17,Tryz.ntmps17
 go_upto_region 2 with fail
 obtain ⟨rS,rG,hbw,hz⟩:=rows2 (w:=w) (A:=.cells #[.int .i64 0,.int .i64 0,.bool false,.int .i64 0,.int .i64 0,.string ⟨#[]⟩,.int .i64 0,.int .i64 0,.string ⟨#[]⟩] 43) (B:=.cells #[.string s,.int .i64 0,.bool false] 93) (Below.refl _ _)
 have RS:=Lib.hid rS;have RG:Hid (((w.alloc (.cells #[.int .i64 0,.int .i64 0,.bool false,.int .i64 0,.int .i64 0,.string ⟨#[]⟩,.int .i64 0,.int .i64 0,.string ⟨#[]⟩] 43)).alloc (.cells #[.string s,.int .i64 0,.bool false] 93)).heap[w.heap.size + 1]? = some (.cells #[.string s,.int .i64 ((0:Nat):Int),.bool false] 93 (0,0))):=Lib.hid rG;have Hbw:=Lib.hid hbw
 clear rS rG hbw hz hE
 generalize ((w.alloc (.cells #[.int .i64 0,.int .i64 0,.bool false,.int .i64 0,.int .i64 0,.string ⟨#[]⟩,.int .i64 0,.int .i64 0,.string ⟨#[]⟩] 43)).alloc (.cells #[.string s,.int .i64 0,.bool false] 93)) = w0 at *
 have cG:=rowc RG.out;have cS:=rowc RS.out;have fS:=rowf RS.out
 go_wp2_with fail
 refine (H1.out _ Hbw.out RG.out).mono ?_;rintro e9 w1 ⟨rfl,hgw1,hbw1⟩
 replace RG:=Lib.hid hgw1;replace RS:=Lib.hid (row_below hbw1 RS.out (by omega));replace Hbw:=Lib.hid (Hbw.out.trans (hbw1.mono (by omega)))
 clear hgw1 hbw1 cS cG fS
 have cG:=rowc RG.out;have cS:=rowc RS.out;have fS:=rowf RS.out
 go_upto_region 3 with fail
 obtain ⟨p1,p2,p3,p4⟩:=store_cell_row (j:=0) (v:=.int .i64 (e:Nat)) RS.out
 replace RG:=Lib.hid ((p2 _ (by omega)).trans RG.out);replace RS:=Lib.hid (p1.trans (show _ = some (.cells #[.int .i64 (e:Nat),.int .i64 0,.bool false,.int .i64 0,.int .i64 0,.string ⟨#[]⟩,.int .i64 0,.int .i64 0,.string ⟨#[]⟩] 43 (0,0)) from rfl));replace Hbw:=Lib.hid (Hbw.out.trans p3)
 clear p1 p2 p3 p4 cS cG fS
 generalize w1.setCell ⟨w.heap.size,0,none⟩ (.int .i64 (e:Nat)) = w2 at *
 have cG:=rowc RG.out;have cS:=rowc RS.out;have fS:=rowf RS.out
 go_wp2_with fail
 refine (H2.out _ Hbw.out RG.out).mono ?_;rintro e9 w3 ⟨rfl,hgw3,hbw3⟩
 replace RG:=Lib.hid hgw3;replace RS:=Lib.hid (row_below hbw3 RS.out (by omega));replace Hbw:=Lib.hid (Hbw.out.trans (hbw3.mono (by omega)))
 clear hgw3 hbw3 cS cG fS
 have cG:=rowc RG.out;have cS:=rowc RS.out;have fS:=rowf RS.out
 go_upto_region 5 with fail
 obtain ⟨p1,p2,p3,p4⟩:=store_cell_row (j:=1) (v:=.int .i64 (n:Nat)) RS.out
 replace RG:=Lib.hid ((p2 _ (by omega)).trans RG.out);replace RS:=Lib.hid (p1.trans (show _ = some (.cells #[.int .i64 (e:Nat),.int .i64 (n:Nat),.bool false,.int .i64 0,.int .i64 0,.string ⟨#[]⟩,.int .i64 0,.int .i64 0,.string ⟨#[]⟩] 43 (0,0)) from rfl));replace Hbw:=Lib.hid (Hbw.out.trans p3)
 clear p1 p2 p3 p4 cS cG fS
 generalize w3.setCell ⟨w.heap.size,1,none⟩ (.int .i64 (n:Nat)) = w4 at *
 have cG:=rowc RG.out;have cS:=rowc RS.out;have fS:=rowf RS.out
 go_wp2_with fail
 refine (H3.out _ Hbw.out RG.out).mono ?_;rintro e9 w5 ⟨rfl,hgw5,hbw5⟩
 replace RG:=Lib.hid hgw5;replace RS:=Lib.hid (row_below hbw5 RS.out (by omega));replace Hbw:=Lib.hid (Hbw.out.trans (hbw5.mono (by omega)))
 clear hgw5 hbw5 cS cG fS
 have cG:=rowc RG.out;have cS:=rowc RS.out;have fS:=rowf RS.out
 go_upto_region 7 with fail
 obtain ⟨p1,p2,p3,p4⟩:=store_cell_row (j:=2) (v:=.bool false) RS.out
 replace RG:=Lib.hid ((p2 _ (by omega)).trans RG.out);replace RS:=Lib.hid (p1.trans (show _ = some (.cells #[.int .i64 (e:Nat),.int .i64 (n:Nat),.bool false,.int .i64 0,.int .i64 0,.string ⟨#[]⟩,.int .i64 0,.int .i64 0,.string ⟨#[]⟩] 43 (0,0)) from rfl));replace Hbw:=Lib.hid (Hbw.out.trans p3)
 clear p1 p2 p3 p4 cS cG fS
 generalize w5.setCell ⟨w.heap.size,2,none⟩ (.bool false) = w6 at *
 have cG:=rowc RG.out;have cS:=rowc RS.out;have fS:=rowf RS.out
 go_upto_region 12 with fail
 have e1:w6.cell? ⟨1,0,none⟩ = some (.iface 211 (.pointer (some (adr 1)))):=(HE.out.below Hbw.out).cell 1 (by decide)
 have e1d:w6.drew.cell? ⟨1,0,none⟩ = some (.iface 211 (.pointer (some (adr 1)))):=e1
 have hnb:(1:Nat) ≠ w.heap.size:=Nat.ne_of_lt hg1
 have RSd:Hid (w6.drew.heap[w.heap.size]? = some (.cells #[.int .i64 (e:Nat),.int .i64 (n:Nat),.bool false,.int .i64 0,.int .i64 0,.string ⟨#[]⟩,.int .i64 0,.int .i64 0,.string ⟨#[]⟩] 43 (0,0))):=Lib.hid RS.out
 go_region_held3 (fun w'=>w'.cell? ⟨1,0,none⟩ = some (.iface 211 (.pointer (some (adr 1))))) (first | (with_reducible exact e1) | (with_reducible exact e1d) | (with_reducible exact cell_set9 hnb e1d _ _ _ _ _ _ _ _ _) | (with_reducible exact cell_set9 hnb e1 _ _ _ _ _ _ _ _ _) | (with_reducible exact cell_set9d hnb e1 _ _ _ _ _ _ _ _ _)) (fail)
 all_goals go_wp2_with fail
 all_goals refine bodyPost_ret (v:=.tuple #[.agg #[.int .i64 0,.int .i64 0,.bool false,.int .i64 0,.int .i64 0,.string ⟨#[]⟩,.int .i64 0,.int .i64 0,.string ⟨#[]⟩],.int .i64 0,.iface 211 (.pointer (some (adr 1)))]) ?_ rfl ⟨rfl,?_⟩
 all_goals first
  | (refine results_row_tmp2 Tryz.results17 _ _ w.heap.size 43 _ (0,0) _ rfl ?_ Tryz.underlying43 rfl (by kernel_rfl);first | (with_reducible exact row_set9 RS.out rfl _ _ _ _ _ _ _ _ _) | (with_reducible exact row_set9 RSd.out rfl _ _ _ _ _ _ _ _ _) | (with_reducible exact row_set9d RS.out rfl _ _ _ _ _ _ _ _ _))
  | (with_reducible exact below_set9 Hbw.out _ (Nat.le_refl _) _ _ _ _ _ _ _ _ _)
  | (with_reducible exact (below_set9 Hbw.out _ (Nat.le_refl _) _ _ _ _ _ _ _ _ _).drew)
  | (with_reducible exact (below_set9 Hbw.out.drew _ (Nat.le_refl _) _ _ _ _ _ _ _ _ _))
set_option maxRecDepth 100000 in
theorem read_Bmore (s:ByteArray) (e n p1 p2 p3:Nat) (b2:Bool) (w:World) (adr:Nat → Addr) (hE:ErrsAt w adr [1,2,4])
  (h1:∀ w1,Below w.heap.size w w1 → w1.heap[w.heap.size + 1]? = some (.cells #[.string s,.int .i64 (0:Nat),.bool false] 93 (0,0)) → Calls Tryz.prog 40 #[.pointer (some ⟨w.heap.size + 1,0,none⟩)] w1 fun e9 w'=>e9 = .returned (.int .i64 (e:Nat)) ∧ w'.heap[w.heap.size + 1]? = some (.cells #[.string s,.int .i64 (p1:Nat),.bool false] 93 (0,0)) ∧ Below (w.heap.size + 1) w1 w')
  (h2:∀ w1,Below w.heap.size w w1 → w1.heap[w.heap.size + 1]? = some (.cells #[.string s,.int .i64 (p1:Nat),.bool false] 93 (0,0)) → Calls Tryz.prog 40 #[.pointer (some ⟨w.heap.size + 1,0,none⟩)] w1 fun e9 w'=>e9 = .returned (.int .i64 (n:Nat)) ∧ w'.heap[w.heap.size + 1]? = some (.cells #[.string s,.int .i64 (p2:Nat),.bool b2] 93 (0,0)) ∧ Below (w.heap.size + 1) w1 w')
  (h3:∀ w1,Below w.heap.size w w1 → w1.heap[w.heap.size + 1]? = some (.cells #[.string s,.int .i64 (p2:Nat),.bool b2] 93 (0,0)) → Calls Tryz.prog 41 #[.pointer (some ⟨w.heap.size + 1,0,none⟩)] w1 fun e9 w'=>e9 = .returned (.int .u8 0) ∧ w'.heap[w.heap.size + 1]? = some (.cells #[.string s,.int .i64 (p3:Nat),.bool false] 93 (0,0)) ∧ Below (w.heap.size + 1) w1 w')
  (q1:(e:Int) < (n:Int)) (q2:decide (e < n) = true) :
  Calls Tryz.prog 17 #[.string s] w fun e9 w'=>e9 = .returned (.tuple #[.agg (stA St.none),.int .i64 0,.iface 211 (.pointer (some (adr 1)))]) ∧ Below w.heap.size w w':=by
 have HE:=Lib.hid hE
 have hg1:(1:Nat) < w.heap.size:=block_lt_of_cell (hE.cell 1 (by decide))
 have H1:=Lib.hid h1;have H2:=Lib.hid h2;have H3:=Lib.hid h3
 clear h1 h2 h3
 go_enter Tryz.func17,Tryz.ntmps17
 go_upto_region 2 with fail
 obtain ⟨rS,rG,hbw,hz⟩:=rows2 (w:=w) (A:=.cells #[.int .i64 0,.int .i64 0,.bool false,.int .i64 0,.int .i64 0,.string ⟨#[]⟩,.int .i64 0,.int .i64 0,.string ⟨#[]⟩] 43) (B:=.cells #[.string s,.int .i64 0,.bool false] 93) (Below.refl _ _)
 have RS:=Lib.hid rS;have RG:Hid (((w.alloc (.cells #[.int .i64 0,.int .i64 0,.bool false,.int .i64 0,.int .i64 0,.string ⟨#[]⟩,.int .i64 0,.int .i64 0,.string ⟨#[]⟩] 43)).alloc (.cells #[.string s,.int .i64 0,.bool false] 93)).heap[w.heap.size + 1]? = some (.cells #[.string s,.int .i64 ((0:Nat):Int),.bool false] 93 (0,0))):=Lib.hid rG;have Hbw:=Lib.hid hbw
 clear rS rG hbw hz hE
 generalize ((w.alloc (.cells #[.int .i64 0,.int .i64 0,.bool false,.int .i64 0,.int .i64 0,.string ⟨#[]⟩,.int .i64 0,.int .i64 0,.string ⟨#[]⟩] 43)).alloc (.cells #[.string s,.int .i64 0,.bool false] 93)) = w0 at *
 have cG:=rowc RG.out;have cS:=rowc RS.out;have fS:=rowf RS.out
 go_wp2_with fail
 refine (H1.out _ Hbw.out RG.out).mono ?_;rintro e9 w1 ⟨rfl,hgw1,hbw1⟩
 replace RG:=Lib.hid hgw1;replace RS:=Lib.hid (row_below hbw1 RS.out (by omega));replace Hbw:=Lib.hid (Hbw.out.trans (hbw1.mono (by omega)))
 clear hgw1 hbw1 cS cG fS
 have cG:=rowc RG.out;have cS:=rowc RS.out;have fS:=rowf RS.out
 go_upto_region 3 with fail
 obtain ⟨p1,p2,p3,p4⟩:=store_cell_row (j:=0) (v:=.int .i64 (e:Nat)) RS.out
 replace RG:=Lib.hid ((p2 _ (by omega)).trans RG.out);replace RS:=Lib.hid (p1.trans (show _ = some (.cells #[.int .i64 (e:Nat),.int .i64 0,.bool false,.int .i64 0,.int .i64 0,.string ⟨#[]⟩,.int .i64 0,.int .i64 0,.string ⟨#[]⟩] 43 (0,0)) from rfl));replace Hbw:=Lib.hid (Hbw.out.trans p3)
 clear p1 p2 p3 p4 cS cG fS
 generalize w1.setCell ⟨w.heap.size,0,none⟩ (.int .i64 (e:Nat)) = w2 at *
 have cG:=rowc RG.out;have cS:=rowc RS.out;have fS:=rowf RS.out
 go_wp2_with fail
 refine (H2.out _ Hbw.out RG.out).mono ?_;rintro e9 w3 ⟨rfl,hgw3,hbw3⟩
 replace RG:=Lib.hid hgw3;replace RS:=Lib.hid (row_below hbw3 RS.out (by omega));replace Hbw:=Lib.hid (Hbw.out.trans (hbw3.mono (by omega)))
 clear hgw3 hbw3 cS cG fS
 have cG:=rowc RG.out;have cS:=rowc RS.out;have fS:=rowf RS.out
 go_upto_region 5 with fail
 obtain ⟨p1,p2,p3,p4⟩:=store_cell_row (j:=1) (v:=.int .i64 (n:Nat)) RS.out
 replace RG:=Lib.hid ((p2 _ (by omega)).trans RG.out);replace RS:=Lib.hid (p1.trans (show _ = some (.cells #[.int .i64 (e:Nat),.int .i64 (n:Nat),.bool false,.int .i64 0,.int .i64 0,.string ⟨#[]⟩,.int .i64 0,.int .i64 0,.string ⟨#[]⟩] 43 (0,0)) from rfl));replace Hbw:=Lib.hid (Hbw.out.trans p3)
 clear p1 p2 p3 p4 cS cG fS
 generalize w3.setCell ⟨w.heap.size,1,none⟩ (.int .i64 (n:Nat)) = w4 at *
 have cG:=rowc RG.out;have cS:=rowc RS.out;have fS:=rowf RS.out
 go_wp2_with fail
 refine (H3.out _ Hbw.out RG.out).mono ?_;rintro e9 w5 ⟨rfl,hgw5,hbw5⟩
 replace RG:=Lib.hid hgw5;replace RS:=Lib.hid (row_below hbw5 RS.out (by omega));replace Hbw:=Lib.hid (Hbw.out.trans (hbw5.mono (by omega)))
 clear hgw5 hbw5 cS cG fS
 have cG:=rowc RG.out;have cS:=rowc RS.out;have fS:=rowf RS.out
 go_upto_region 7 with fail
 obtain ⟨p1,p2,p3,p4⟩:=store_cell_row (j:=2) (v:=.bool false) RS.out
 replace RG:=Lib.hid ((p2 _ (by omega)).trans RG.out);replace RS:=Lib.hid (p1.trans (show _ = some (.cells #[.int .i64 (e:Nat),.int .i64 (n:Nat),.bool false,.int .i64 0,.int .i64 0,.string ⟨#[]⟩,.int .i64 0,.int .i64 0,.string ⟨#[]⟩] 43 (0,0)) from rfl));replace Hbw:=Lib.hid (Hbw.out.trans p3)
 clear p1 p2 p3 p4 cS cG fS
 generalize w5.setCell ⟨w.heap.size,2,none⟩ (.bool false) = w6 at *
 have cG:=rowc RG.out;have cS:=rowc RS.out;have fS:=rowf RS.out
 go_upto_region 12 with fail
 have e1:w6.cell? ⟨1,0,none⟩ = some (.iface 211 (.pointer (some (adr 1)))):=(HE.out.below Hbw.out).cell 1 (by decide)
 have e1d:w6.drew.cell? ⟨1,0,none⟩ = some (.iface 211 (.pointer (some (adr 1)))):=e1
 have hnb:(1:Nat) ≠ w.heap.size:=Nat.ne_of_lt hg1
 have RSd:Hid (w6.drew.heap[w.heap.size]? = some (.cells #[.int .i64 (e:Nat),.int .i64 (n:Nat),.bool false,.int .i64 0,.int .i64 0,.string ⟨#[]⟩,.int .i64 0,.int .i64 0,.string ⟨#[]⟩] 43 (0,0))):=Lib.hid RS.out
 go_region_held3 (fun w'=>w'.cell? ⟨1,0,none⟩ = some (.iface 211 (.pointer (some (adr 1))))) (first | (with_reducible exact e1) | (with_reducible exact e1d) | (with_reducible exact cell_set9 hnb e1d _ _ _ _ _ _ _ _ _) | (with_reducible exact cell_set9 hnb e1 _ _ _ _ _ _ _ _ _) | (with_reducible exact cell_set9d hnb e1 _ _ _ _ _ _ _ _ _)) (fail)
 all_goals go_wp2_with fail
 all_goals refine bodyPost_ret (v:=.tuple #[.agg #[.int .i64 0,.int .i64 0,.bool false,.int .i64 0,.int .i64 0,.string ⟨#[]⟩,.int .i64 0,.int .i64 0,.string ⟨#[]⟩],.int .i64 0,.iface 211 (.pointer (some (adr 1)))]) ?_ rfl ⟨rfl,?_⟩
 all_goals first
  | (refine results_row_tmp2 Tryz.results17 _ _ w.heap.size 43 _ (0,0) _ rfl ?_ Tryz.underlying43 rfl (by kernel_rfl);first | (with_reducible exact row_set9 RS.out rfl _ _ _ _ _ _ _ _ _) | (with_reducible exact row_set9 RSd.out rfl _ _ _ _ _ _ _ _ _) | (with_reducible exact row_set9d RS.out rfl _ _ _ _ _ _ _ _ _))
  | (with_reducible exact below_set9 Hbw.out _ (Nat.le_refl _) _ _ _ _ _ _ _ _ _)
  | (with_reducible exact (below_set9 Hbw.out _ (Nat.le_refl _) _ _ _ _ _ _ _ _ _).drew)
  | (with_reducible exact (below_set9 Hbw.out.drew _ (Nat.le_refl _) _ _ _ _ _ _ _ _ _))
set_option maxRecDepth 100000 in
theorem read_Bhas (s:ByteArray) (e n p1 p2 p3:Nat) (b2:Bool) (w:World) (adr:Nat → Addr) (hE:ErrsAt w adr [1,2,4])
  (h1:∀ w1,Below w.heap.size w w1 → w1.heap[w.heap.size + 1]? = some (.cells #[.string s,.int .i64 (0:Nat),.bool false] 93 (0,0)) → Calls Tryz.prog 40 #[.pointer (some ⟨w.heap.size + 1,0,none⟩)] w1 fun e9 w'=>e9 = .returned (.int .i64 (e:Nat)) ∧ w'.heap[w.heap.size + 1]? = some (.cells #[.string s,.int .i64 (p1:Nat),.bool false] 93 (0,0)) ∧ Below (w.heap.size + 1) w1 w')
  (h2:∀ w1,Below w.heap.size w w1 → w1.heap[w.heap.size + 1]? = some (.cells #[.string s,.int .i64 (p1:Nat),.bool false] 93 (0,0)) → Calls Tryz.prog 40 #[.pointer (some ⟨w.heap.size + 1,0,none⟩)] w1 fun e9 w'=>e9 = .returned (.int .i64 (n:Nat)) ∧ w'.heap[w.heap.size + 1]? = some (.cells #[.string s,.int .i64 (p2:Nat),.bool b2] 93 (0,0)) ∧ Below (w.heap.size + 1) w1 w')
  (h3:∀ w1,Below w.heap.size w w1 → w1.heap[w.heap.size + 1]? = some (.cells #[.string s,.int .i64 (p2:Nat),.bool b2] 93 (0,0)) → Calls Tryz.prog 41 #[.pointer (some ⟨w.heap.size + 1,0,none⟩)] w1 fun e9 w'=>e9 = .returned (.int .u8 0) ∧ w'.heap[w.heap.size + 1]? = some (.cells #[.string s,.int .i64 (p3:Nat),.bool false] 93 (0,0)) ∧ Below (w.heap.size + 1) w1 w')
  (q1:¬ (e:Int) < (n:Int)) (q2:decide (e < n) = false) (q3:(n:Int) < (e:Int)) (q4:decide (n < e) = true) :
  Calls Tryz.prog 17 #[.string s] w fun e9 w'=>e9 = .returned (.tuple #[.agg (stA St.none),.int .i64 0,.iface 211 (.pointer (some (adr 1)))]) ∧ Below w.heap.size w w':=by
 have HE:=Lib.hid hE
 have hg1:(1:Nat) < w.heap.size:=block_lt_of_cell (hE.cell 1 (by decide))
 have H1:=Lib.hid h1;have H2:=Lib.hid h2;have H3:=Lib.hid h3
 clear h1 h2 h3
 go_enter Tryz.func17,Tryz.ntmps17
 go_upto_region 2 with fail
 obtain ⟨rS,rG,hbw,hz⟩:=rows2 (w:=w) (A:=.cells #[.int .i64 0,.int .i64 0,.bool false,.int .i64 0,.int .i64 0,.string ⟨#[]⟩,.int .i64 0,.int .i64 0,.string ⟨#[]⟩] 43) (B:=.cells #[.string s,.int .i64 0,.bool false] 93) (Below.refl _ _)
 have RS:=Lib.hid rS;have RG:Hid (((w.alloc (.cells #[.int .i64 0,.int .i64 0,.bool false,.int .i64 0,.int .i64 0,.string ⟨#[]⟩,.int .i64 0,.int .i64 0,.string ⟨#[]⟩] 43)).alloc (.cells #[.string s,.int .i64 0,.bool false] 93)).heap[w.heap.size + 1]? = some (.cells #[.string s,.int .i64 ((0:Nat):Int),.bool false] 93 (0,0))):=Lib.hid rG;have Hbw:=Lib.hid hbw
 clear rS rG hbw hz hE
 generalize ((w.alloc (.cells #[.int .i64 0,.int .i64 0,.bool false,.int .i64 0,.int .i64 0,.string ⟨#[]⟩,.int .i64 0,.int .i64 0,.string ⟨#[]⟩] 43)).alloc (.cells #[.string s,.int .i64 0,.bool false] 93)) = w0 at *
 have cG:=rowc RG.out;have cS:=rowc RS.out;have fS:=rowf RS.out
 go_wp2_with fail
 refine (H1.out _ Hbw.out RG.out).mono ?_;rintro e9 w1 ⟨rfl,hgw1,hbw1⟩
 replace RG:=Lib.hid hgw1;replace RS:=Lib.hid (row_below hbw1 RS.out (by omega));replace Hbw:=Lib.hid (Hbw.out.trans (hbw1.mono (by omega)))
 clear hgw1 hbw1 cS cG fS
 have cG:=rowc RG.out;have cS:=rowc RS.out;have fS:=rowf RS.out
 go_upto_region 3 with fail
 obtain ⟨p1,p2,p3,p4⟩:=store_cell_row (j:=0) (v:=.int .i64 (e:Nat)) RS.out
 replace RG:=Lib.hid ((p2 _ (by omega)).trans RG.out);replace RS:=Lib.hid (p1.trans (show _ = some (.cells #[.int .i64 (e:Nat),.int .i64 0,.bool false,.int .i64 0,.int .i64 0,.string ⟨#[]⟩,.int .i64 0,.int .i64 0,.string ⟨#[]⟩] 43 (0,0)) from rfl));replace Hbw:=Lib.hid (Hbw.out.trans p3)
 clear p1 p2 p3 p4 cS cG fS
 generalize w1.setCell ⟨w.heap.size,0,none⟩ (.int .i64 (e:Nat)) = w2 at *
 have cG:=rowc RG.out;have cS:=rowc RS.out;have fS:=rowf RS.out
 go_wp2_with fail
 refine (H2.out _ Hbw.out RG.out).mono ?_;rintro e9 w3 ⟨rfl,hgw3,hbw3⟩
 replace RG:=Lib.hid hgw3;replace RS:=Lib.hid (row_below hbw3 RS.out (by omega));replace Hbw:=Lib.hid (Hbw.out.trans (hbw3.mono (by omega)))
 clear hgw3 hbw3 cS cG fS
 have cG:=rowc RG.out;have cS:=rowc RS.out;have fS:=rowf RS.out
 go_upto_region 5 with fail
 obtain ⟨p1,p2,p3,p4⟩:=store_cell_row (j:=1) (v:=.int .i64 (n:Nat)) RS.out
 replace RG:=Lib.hid ((p2 _ (by omega)).trans RG.out);replace RS:=Lib.hid (p1.trans (show _ = some (.cells #[.int .i64 (e:Nat),.int .i64 (n:Nat),.bool false,.int .i64 0,.int .i64 0,.string ⟨#[]⟩,.int .i64 0,.int .i64 0,.string ⟨#[]⟩] 43 (0,0)) from rfl));replace Hbw:=Lib.hid (Hbw.out.trans p3)
 clear p1 p2 p3 p4 cS cG fS
 generalize w3.setCell ⟨w.heap.size,1,none⟩ (.int .i64 (n:Nat)) = w4 at *
 have cG:=rowc RG.out;have cS:=rowc RS.out;have fS:=rowf RS.out
 go_wp2_with fail
 refine (H3.out _ Hbw.out RG.out).mono ?_;rintro e9 w5 ⟨rfl,hgw5,hbw5⟩
 replace RG:=Lib.hid hgw5;replace RS:=Lib.hid (row_below hbw5 RS.out (by omega));replace Hbw:=Lib.hid (Hbw.out.trans (hbw5.mono (by omega)))
 clear hgw5 hbw5 cS cG fS
 have cG:=rowc RG.out;have cS:=rowc RS.out;have fS:=rowf RS.out
 go_upto_region 7 with fail
 obtain ⟨p1,p2,p3,p4⟩:=store_cell_row (j:=2) (v:=.bool false) RS.out
 replace RG:=Lib.hid ((p2 _ (by omega)).trans RG.out);replace RS:=Lib.hid (p1.trans (show _ = some (.cells #[.int .i64 (e:Nat),.int .i64 (n:Nat),.bool false,.int .i64 0,.int .i64 0,.string ⟨#[]⟩,.int .i64 0,.int .i64 0,.string ⟨#[]⟩] 43 (0,0)) from rfl));replace Hbw:=Lib.hid (Hbw.out.trans p3)
 clear p1 p2 p3 p4 cS cG fS
 generalize w5.setCell ⟨w.heap.size,2,none⟩ (.bool false) = w6 at *
 have cG:=rowc RG.out;have cS:=rowc RS.out;have fS:=rowf RS.out
 go_upto_region 12 with fail
 have e1:w6.cell? ⟨1,0,none⟩ = some (.iface 211 (.pointer (some (adr 1)))):=(HE.out.below Hbw.out).cell 1 (by decide)
 have e1d:w6.drew.cell? ⟨1,0,none⟩ = some (.iface 211 (.pointer (some (adr 1)))):=e1
 have hnb:(1:Nat) ≠ w.heap.size:=Nat.ne_of_lt hg1
 have RSd:Hid (w6.drew.heap[w.heap.size]? = some (.cells #[.int .i64 (e:Nat),.int .i64 (n:Nat),.bool false,.int .i64 0,.int .i64 0,.string ⟨#[]⟩,.int .i64 0,.int .i64 0,.string ⟨#[]⟩] 43 (0,0))):=Lib.hid RS.out
 go_region_held3 (fun w'=>w'.cell? ⟨1,0,none⟩ = some (.iface 211 (.pointer (some (adr 1))))) (first | (with_reducible exact e1) | (with_reducible exact e1d) | (with_reducible exact cell_set9 hnb e1d _ _ _ _ _ _ _ _ _) | (with_reducible exact cell_set9 hnb e1 _ _ _ _ _ _ _ _ _) | (with_reducible exact cell_set9d hnb e1 _ _ _ _ _ _ _ _ _)) (fail)
 all_goals go_wp2_with fail
 all_goals refine bodyPost_ret (v:=.tuple #[.agg #[.int .i64 0,.int .i64 0,.bool false,.int .i64 0,.int .i64 0,.string ⟨#[]⟩,.int .i64 0,.int .i64 0,.string ⟨#[]⟩],.int .i64 0,.iface 211 (.pointer (some (adr 1)))]) ?_ rfl ⟨rfl,?_⟩
 all_goals first
  | (refine results_row_tmp2 Tryz.results17 _ _ w.heap.size 43 _ (0,0) _ rfl ?_ Tryz.underlying43 rfl (by kernel_rfl);first | (with_reducible exact row_set9 RS.out rfl _ _ _ _ _ _ _ _ _) | (with_reducible exact row_set9 RSd.out rfl _ _ _ _ _ _ _ _ _) | (with_reducible exact row_set9d RS.out rfl _ _ _ _ _ _ _ _ _))
  | (with_reducible exact below_set9 Hbw.out _ (Nat.le_refl _) _ _ _ _ _ _ _ _ _)
  | (with_reducible exact (below_set9 Hbw.out _ (Nat.le_refl _) _ _ _ _ _ _ _ _ _).drew)
  | (with_reducible exact (below_set9 Hbw.out.drew _ (Nat.le_refl _) _ _ _ _ _ _ _ _ _))
set_option maxRecDepth 100000 in
theorem read_Bok (s:ByteArray) (e n p1 p2 p3:Nat) (b2:Bool) (w:World) (adr:Nat → Addr) (hE:ErrsAt w adr [1,2,4])
  (h1:∀ w1,Below w.heap.size w w1 → w1.heap[w.heap.size + 1]? = some (.cells #[.string s,.int .i64 (0:Nat),.bool false] 93 (0,0)) → Calls Tryz.prog 40 #[.pointer (some ⟨w.heap.size + 1,0,none⟩)] w1 fun e9 w'=>e9 = .returned (.int .i64 (e:Nat)) ∧ w'.heap[w.heap.size + 1]? = some (.cells #[.string s,.int .i64 (p1:Nat),.bool false] 93 (0,0)) ∧ Below (w.heap.size + 1) w1 w')
  (h2:∀ w1,Below w.heap.size w w1 → w1.heap[w.heap.size + 1]? = some (.cells #[.string s,.int .i64 (p1:Nat),.bool false] 93 (0,0)) → Calls Tryz.prog 40 #[.pointer (some ⟨w.heap.size + 1,0,none⟩)] w1 fun e9 w'=>e9 = .returned (.int .i64 (n:Nat)) ∧ w'.heap[w.heap.size + 1]? = some (.cells #[.string s,.int .i64 (p2:Nat),.bool b2] 93 (0,0)) ∧ Below (w.heap.size + 1) w1 w')
  (h3:∀ w1,Below w.heap.size w w1 → w1.heap[w.heap.size + 1]? = some (.cells #[.string s,.int .i64 (p2:Nat),.bool b2] 93 (0,0)) → Calls Tryz.prog 41 #[.pointer (some ⟨w.heap.size + 1,0,none⟩)] w1 fun e9 w'=>e9 = .returned (.int .u8 0) ∧ w'.heap[w.heap.size + 1]? = some (.cells #[.string s,.int .i64 (p3:Nat),.bool false] 93 (0,0)) ∧ Below (w.heap.size + 1) w1 w')
  (hL:∀ w1,Calls Tryz.prog 43 #[.agg #[.int .i64 0,.int .i64 0,.string ⟨#[]⟩],.agg #[.int .i64 0,.int .i64 0,.string ⟨#[]⟩]] w1 fun e9 w'=>e9 = .returned (.bool false) ∧ Below w1.heap.size w1 w')
  (q1:¬ (e:Int) < (n:Int)) (q2:decide (e < n) = false) (q3:¬ (n:Int) < (e:Int)) (q4:decide (n < e) = false) :
  Calls Tryz.prog 17 #[.string s] w fun e9 w'=>e9 = .returned (.tuple #[.agg (stA ⟨(e:Nat),(n:Nat),false,zv,zv⟩),.int .i64 (p3:Nat),.nilIface]) ∧ Below w.heap.size w w':=by
 have HE:=Lib.hid hE
 have hg1:(1:Nat) < w.heap.size:=block_lt_of_cell (hE.cell 1 (by decide))
 have H1:=Lib.hid h1;have H2:=Lib.hid h2;have H3:=Lib.hid h3
 clear h1 h2 h3
 have HL:=Lib.hid hL
 clear hL
 go_enter Tryz.func17,Tryz.ntmps17
 go_upto_region 2 with fail
 obtain ⟨rS,rG,hbw,hz⟩:=rows2 (w:=w) (A:=.cells #[.int .i64 0,.int .i64 0,.bool false,.int .i64 0,.int .i64 0,.string ⟨#[]⟩,.int .i64 0,.int .i64 0,.string ⟨#[]⟩] 43) (B:=.cells #[.string s,.int .i64 0,.bool false] 93) (Below.refl _ _)
 have RS:=Lib.hid rS;have RG:Hid (((w.alloc (.cells #[.int .i64 0,.int .i64 0,.bool false,.int .i64 0,.int .i64 0,.string ⟨#[]⟩,.int .i64 0,.int .i64 0,.string ⟨#[]⟩] 43)).alloc (.cells #[.string s,.int .i64 0,.bool false] 93)).heap[w.heap.size + 1]? = some (.cells #[.string s,.int .i64 ((0:Nat):Int),.bool false] 93 (0,0))):=Lib.hid rG;have Hbw:=Lib.hid hbw
 clear rS rG hbw hz hE
 generalize ((w.alloc (.cells #[.int .i64 0,.int .i64 0,.bool false,.int .i64 0,.int .i64 0,.string ⟨#[]⟩,.int .i64 0,.int .i64 0,.string ⟨#[]⟩] 43)).alloc (.cells #[.string s,.int .i64 0,.bool false] 93)) = w0 at *
 have cG:=rowc RG.out;have cS:=rowc RS.out;have fS:=rowf RS.out
 go_wp2_with fail
 refine (H1.out _ Hbw.out RG.out).mono ?_;rintro e9 w1 ⟨rfl,hgw1,hbw1⟩
 replace RG:=Lib.hid hgw1;replace RS:=Lib.hid (row_below hbw1 RS.out (by omega));replace Hbw:=Lib.hid (Hbw.out.trans (hbw1.mono (by omega)))
 clear hgw1 hbw1 cS cG fS
 have cG:=rowc RG.out;have cS:=rowc RS.out;have fS:=rowf RS.out
 go_upto_region 3 with fail
 obtain ⟨p1,p2,p3,p4⟩:=store_cell_row (j:=0) (v:=.int .i64 (e:Nat)) RS.out
 replace RG:=Lib.hid ((p2 _ (by omega)).trans RG.out);replace RS:=Lib.hid (p1.trans (show _ = some (.cells #[.int .i64 (e:Nat),.int .i64 0,.bool false,.int .i64 0,.int .i64 0,.string ⟨#[]⟩,.int .i64 0,.int .i64 0,.string ⟨#[]⟩] 43 (0,0)) from rfl));replace Hbw:=Lib.hid (Hbw.out.trans p3)
 clear p1 p2 p3 p4 cS cG fS
 generalize w1.setCell ⟨w.heap.size,0,none⟩ (.int .i64 (e:Nat)) = w2 at *
 have cG:=rowc RG.out;have cS:=rowc RS.out;have fS:=rowf RS.out
 go_wp2_with fail
 refine (H2.out _ Hbw.out RG.out).mono ?_;rintro e9 w3 ⟨rfl,hgw3,hbw3⟩
 replace RG:=Lib.hid hgw3;replace RS:=Lib.hid (row_below hbw3 RS.out (by omega));replace Hbw:=Lib.hid (Hbw.out.trans (hbw3.mono (by omega)))
 clear hgw3 hbw3 cS cG fS
 have cG:=rowc RG.out;have cS:=rowc RS.out;have fS:=rowf RS.out
 go_upto_region 5 with fail
 obtain ⟨p1,p2,p3,p4⟩:=store_cell_row (j:=1) (v:=.int .i64 (n:Nat)) RS.out
 replace RG:=Lib.hid ((p2 _ (by omega)).trans RG.out);replace RS:=Lib.hid (p1.trans (show _ = some (.cells #[.int .i64 (e:Nat),.int .i64 (n:Nat),.bool false,.int .i64 0,.int .i64 0,.string ⟨#[]⟩,.int .i64 0,.int .i64 0,.string ⟨#[]⟩] 43 (0,0)) from rfl));replace Hbw:=Lib.hid (Hbw.out.trans p3)
 clear p1 p2 p3 p4 cS cG fS
 generalize w3.setCell ⟨w.heap.size,1,none⟩ (.int .i64 (n:Nat)) = w4 at *
 have cG:=rowc RG.out;have cS:=rowc RS.out;have fS:=rowf RS.out
 go_wp2_with fail
 refine (H3.out _ Hbw.out RG.out).mono ?_;rintro e9 w5 ⟨rfl,hgw5,hbw5⟩
 replace RG:=Lib.hid hgw5;replace RS:=Lib.hid (row_below hbw5 RS.out (by omega));replace Hbw:=Lib.hid (Hbw.out.trans (hbw5.mono (by omega)))
 clear hgw5 hbw5 cS cG fS
 have cG:=rowc RG.out;have cS:=rowc RS.out;have fS:=rowf RS.out
 go_upto_region 7 with fail
 obtain ⟨p1,p2,p3,p4⟩:=store_cell_row (j:=2) (v:=.bool false) RS.out
 replace RG:=Lib.hid ((p2 _ (by omega)).trans RG.out);replace RS:=Lib.hid (p1.trans (show _ = some (.cells #[.int .i64 (e:Nat),.int .i64 (n:Nat),.bool false,.int .i64 0,.int .i64 0,.string ⟨#[]⟩,.int .i64 0,.int .i64 0,.string ⟨#[]⟩] 43 (0,0)) from rfl));replace Hbw:=Lib.hid (Hbw.out.trans p3)
 clear p1 p2 p3 p4 cS cG fS
 generalize w5.setCell ⟨w.heap.size,2,none⟩ (.bool false) = w6 at *
 have cG:=rowc RG.out;have cS:=rowc RS.out;have fS:=rowf RS.out
 go_wp2_with fail
 refine (HL.out _).mono ?_;rintro e9 w11 ⟨rfl,hb11⟩
 replace RG:=Lib.hid (row_keep hb11 RG.out);replace RS:=Lib.hid (row_keep hb11 RS.out);replace Hbw:=Lib.hid (Hbw.out.trans (hb11.mono Hbw.out.size))
 clear hb11 cS cG fS
 have cG:=rowc RG.out;have cS:=rowc RS.out;have fS:=rowf RS.out
 go_upto_region 13 with fail
 have RSd:Hid (w11.drew.heap[w.heap.size]? = some (.cells #[.int .i64 (e:Nat),.int .i64 (n:Nat),.bool false,.int .i64 0,.int .i64 0,.string ⟨#[]⟩,.int .i64 0,.int .i64 0,.string ⟨#[]⟩] 43 (0,0))):=Lib.hid RS.out
 have RGd:Hid (w11.drew.heap[w.heap.size + 1]? = some (.cells #[.string s,.int .i64 (p3:Nat),.bool false] 93 (0,0))):=Lib.hid RG.out
 have hnb:w.heap.size + 1 ≠ w.heap.size:=by omega
 go_region_held3 (fun w'=>(∀ j,w'.cell? ⟨w.heap.size,j,none⟩ = (#[.int .i64 (e:Nat),.int .i64 (n:Nat),.bool false,.int .i64 0,.int .i64 0,.string ⟨#[]⟩,.int .i64 0,.int .i64 0,.string ⟨#[]⟩]:Array Value)[j]?) ∧ (∀ j,w'.cell? ⟨w.heap.size + 1,j,none⟩ = (#[.string s,.int .i64 (p3:Nat),.bool false]:Array Value)[j]?)) (first | (with_reducible exact ⟨rowc RS.out,rowc RG.out⟩) | (with_reducible exact ⟨rowc RSd.out,rowc RGd.out⟩) | (with_reducible exact ⟨rowc_set9_self RSd.out rfl _ _ _ _ _ _ _ _ _,rowc_set9 RGd.out hnb _ _ _ _ _ _ _ _ _⟩) | (with_reducible exact ⟨rowc_set9_self RS.out rfl _ _ _ _ _ _ _ _ _,rowc_set9 RG.out hnb _ _ _ _ _ _ _ _ _⟩) | (with_reducible exact ⟨rowc_set9_selfd RS.out rfl _ _ _ _ _ _ _ _ _,rowc_set9d RG.out hnb _ _ _ _ _ _ _ _ _⟩)) (fail)
 all_goals go_wp2_with fail
 all_goals refine bodyPost_ret (v:=.tuple #[.agg #[.int .i64 (e:Nat),.int .i64 (n:Nat),.bool false,.int .i64 0,.int .i64 0,.string ⟨#[]⟩,.int .i64 0,.int .i64 0,.string ⟨#[]⟩],.int .i64 (p3:Nat),.nilIface]) ?_ rfl ⟨rfl,?_⟩
 all_goals first
  | (refine results_row_tmp2 Tryz.results17 _ _ w.heap.size 43 _ (0,0) _ rfl ?_ Tryz.underlying43 rfl (by kernel_rfl);first | (with_reducible exact row_set9 RS.out rfl _ _ _ _ _ _ _ _ _) | (with_reducible exact row_set9 RSd.out rfl _ _ _ _ _ _ _ _ _) | (with_reducible exact row_set9d RS.out rfl _ _ _ _ _ _ _ _ _))
  | (with_reducible exact below_set9 Hbw.out _ (Nat.le_refl _) _ _ _ _ _ _ _ _ _)
  | (with_reducible exact (below_set9 Hbw.out _ (Nat.le_refl _) _ _ _ _ _ _ _ _ _).drew)
  | (with_reducible exact (below_set9 Hbw.out.drew _ (Nat.le_refl _) _ _ _ _ _ _ _ _ _))
set_option maxRecDepth 100000 in
theorem read_Cbad (s:ByteArray) (e n k p1 p2 p3 p4 p5 p6:Nat) (b2 b4 b5:Bool) (lo hi:Val) (hk8:IntKind.i64.wrap (k:Int) = (k:Int)) (w:World) (adr:Nat → Addr) (hE:ErrsAt w adr [1,2,4])
  (h1:∀ w1,Below w.heap.size w w1 → w1.heap[w.heap.size + 1]? = some (.cells #[.string s,.int .i64 (0:Nat),.bool false] 93 (0,0)) → Calls Tryz.prog 40 #[.pointer (some ⟨w.heap.size + 1,0,none⟩)] w1 fun e9 w'=>e9 = .returned (.int .i64 (e:Nat)) ∧ w'.heap[w.heap.size + 1]? = some (.cells #[.string s,.int .i64 (p1:Nat),.bool false] 93 (0,0)) ∧ Below (w.heap.size + 1) w1 w')
  (h2:∀ w1,Below w.heap.size w w1 → w1.heap[w.heap.size + 1]? = some (.cells #[.string s,.int .i64 (p1:Nat),.bool false] 93 (0,0)) → Calls Tryz.prog 40 #[.pointer (some ⟨w.heap.size + 1,0,none⟩)] w1 fun e9 w'=>e9 = .returned (.int .i64 (n:Nat)) ∧ w'.heap[w.heap.size + 1]? = some (.cells #[.string s,.int .i64 (p2:Nat),.bool b2] 93 (0,0)) ∧ Below (w.heap.size + 1) w1 w')
  (h3:∀ w1,Below w.heap.size w w1 → w1.heap[w.heap.size + 1]? = some (.cells #[.string s,.int .i64 (p2:Nat),.bool b2] 93 (0,0)) → Calls Tryz.prog 41 #[.pointer (some ⟨w.heap.size + 1,0,none⟩)] w1 fun e9 w'=>e9 = .returned (.int .u8 1) ∧ w'.heap[w.heap.size + 1]? = some (.cells #[.string s,.int .i64 (p3:Nat),.bool false] 93 (0,0)) ∧ Below (w.heap.size + 1) w1 w')
  (h4:∀ w1,Below w.heap.size w w1 → w1.heap[w.heap.size + 1]? = some (.cells #[.string s,.int .i64 (p3:Nat),.bool false] 93 (0,0)) → Calls Tryz.prog 41 #[.pointer (some ⟨w.heap.size + 1,0,none⟩)] w1 fun e9 w'=>e9 = .returned (.int .u8 (k:Nat)) ∧ w'.heap[w.heap.size + 1]? = some (.cells #[.string s,.int .i64 (p4:Nat),.bool b4] 93 (0,0)) ∧ Below (w.heap.size + 1) w1 w')
  (h5:∀ w1,Below w.heap.size w w1 → w1.heap[w.heap.size + 1]? = some (.cells #[.string s,.int .i64 (p4:Nat),.bool b4] 93 (0,0)) → Calls Tryz.prog 42 #[.pointer (some ⟨w.heap.size + 1,0,none⟩),.int .i64 (k:Nat)] w1 fun e9 w'=>e9 = .returned (.agg #[.int .i64 lo.k,.int .i64 lo.n,.string lo.s]) ∧ w'.heap[w.heap.size + 1]? = some (.cells #[.string s,.int .i64 (p5:Nat),.bool b5] 93 (0,0)) ∧ Below (w.heap.size + 1) w1 w')
  (h6:∀ w1,Below w.heap.size w w1 → w1.heap[w.heap.size + 1]? = some (.cells #[.string s,.int .i64 (p5:Nat),.bool b5] 93 (0,0)) → Calls Tryz.prog 42 #[.pointer (some ⟨w.heap.size + 1,0,none⟩),.int .i64 (k:Nat)] w1 fun e9 w'=>e9 = .returned (.agg #[.int .i64 hi.k,.int .i64 hi.n,.string hi.s]) ∧ w'.heap[w.heap.size + 1]? = some (.cells #[.string s,.int .i64 (p6:Nat),.bool true] 93 (0,0)) ∧ Below (w.heap.size + 1) w1 w') :
  Calls Tryz.prog 17 #[.string s] w fun e9 w'=>e9 = .returned (.tuple #[.agg (stA St.none),.int .i64 0,.iface 211 (.pointer (some (adr 1)))]) ∧ Below w.heap.size w w':=by
 have HE:=Lib.hid hE
 have hg1:(1:Nat) < w.heap.size:=block_lt_of_cell (hE.cell 1 (by decide))
 have H1:=Lib.hid h1;have H2:=Lib.hid h2;have H3:=Lib.hid h3
 clear h1 h2 h3
 have H4:=Lib.hid h4;have H5:=Lib.hid h5;have H6:=Lib.hid h6
 clear h4 h5 h6
 go_enter Tryz.func17,Tryz.ntmps17
 go_upto_region 2 with fail
 obtain ⟨rS,rG,hbw,hz⟩:=rows2 (w:=w) (A:=.cells #[.int .i64 0,.int .i64 0,.bool false,.int .i64 0,.int .i64 0,.string ⟨#[]⟩,.int .i64 0,.int .i64 0,.string ⟨#[]⟩] 43) (B:=.cells #[.string s,.int .i64 0,.bool false] 93) (Below.refl _ _)
 have RS:=Lib.hid rS;have RG:Hid (((w.alloc (.cells #[.int .i64 0,.int .i64 0,.bool false,.int .i64 0,.int .i64 0,.string ⟨#[]⟩,.int .i64 0,.int .i64 0,.string ⟨#[]⟩] 43)).alloc (.cells #[.string s,.int .i64 0,.bool false] 93)).heap[w.heap.size + 1]? = some (.cells #[.string s,.int .i64 ((0:Nat):Int),.bool false] 93 (0,0))):=Lib.hid rG;have Hbw:=Lib.hid hbw
 clear rS rG hbw hz hE
 generalize ((w.alloc (.cells #[.int .i64 0,.int .i64 0,.bool false,.int .i64 0,.int .i64 0,.string ⟨#[]⟩,.int .i64 0,.int .i64 0,.string ⟨#[]⟩] 43)).alloc (.cells #[.string s,.int .i64 0,.bool false] 93)) = w0 at *
 have cG:=rowc RG.out;have cS:=rowc RS.out;have fS:=rowf RS.out
 go_wp2_with fail
 refine (H1.out _ Hbw.out RG.out).mono ?_;rintro e9 w1 ⟨rfl,hgw1,hbw1⟩
 replace RG:=Lib.hid hgw1;replace RS:=Lib.hid (row_below hbw1 RS.out (by omega));replace Hbw:=Lib.hid (Hbw.out.trans (hbw1.mono (by omega)))
 clear hgw1 hbw1 cS cG fS
 have cG:=rowc RG.out;have cS:=rowc RS.out;have fS:=rowf RS.out
 go_upto_region 3 with fail
 obtain ⟨p1,p2,p3,p4⟩:=store_cell_row (j:=0) (v:=.int .i64 (e:Nat)) RS.out
 replace RG:=Lib.hid ((p2 _ (by omega)).trans RG.out);replace RS:=Lib.hid (p1.trans (show _ = some (.cells #[.int .i64 (e:Nat),.int .i64 0,.bool false,.int .i64 0,.int .i64 0,.string ⟨#[]⟩,.int .i64 0,.int .i64 0,.string ⟨#[]⟩] 43 (0,0)) from rfl));replace Hbw:=Lib.hid (Hbw.out.trans p3)
 clear p1 p2 p3 p4 cS cG fS
 generalize w1.setCell ⟨w.heap.size,0,none⟩ (.int .i64 (e:Nat)) = w2 at *
 have cG:=rowc RG.out;have cS:=rowc RS.out;have fS:=rowf RS.out
 go_wp2_with fail
 refine (H2.out _ Hbw.out RG.out).mono ?_;rintro e9 w3 ⟨rfl,hgw3,hbw3⟩
 replace RG:=Lib.hid hgw3;replace RS:=Lib.hid (row_below hbw3 RS.out (by omega));replace Hbw:=Lib.hid (Hbw.out.trans (hbw3.mono (by omega)))
 clear hgw3 hbw3 cS cG fS
 have cG:=rowc RG.out;have cS:=rowc RS.out;have fS:=rowf RS.out
 go_upto_region 5 with fail
 obtain ⟨p1,p2,p3,p4⟩:=store_cell_row (j:=1) (v:=.int .i64 (n:Nat)) RS.out
 replace RG:=Lib.hid ((p2 _ (by omega)).trans RG.out);replace RS:=Lib.hid (p1.trans (show _ = some (.cells #[.int .i64 (e:Nat),.int .i64 (n:Nat),.bool false,.int .i64 0,.int .i64 0,.string ⟨#[]⟩,.int .i64 0,.int .i64 0,.string ⟨#[]⟩] 43 (0,0)) from rfl));replace Hbw:=Lib.hid (Hbw.out.trans p3)
 clear p1 p2 p3 p4 cS cG fS
 generalize w3.setCell ⟨w.heap.size,1,none⟩ (.int .i64 (n:Nat)) = w4 at *
 have cG:=rowc RG.out;have cS:=rowc RS.out;have fS:=rowf RS.out
 go_wp2_with fail
 refine (H3.out _ Hbw.out RG.out).mono ?_;rintro e9 w5 ⟨rfl,hgw5,hbw5⟩
 replace RG:=Lib.hid hgw5;replace RS:=Lib.hid (row_below hbw5 RS.out (by omega));replace Hbw:=Lib.hid (Hbw.out.trans (hbw5.mono (by omega)))
 clear hgw5 hbw5 cS cG fS
 have cG:=rowc RG.out;have cS:=rowc RS.out;have fS:=rowf RS.out
 go_upto_region 7 with fail
 obtain ⟨p1,p2,p3,p4⟩:=store_cell_row (j:=2) (v:=.bool true) RS.out
 replace RG:=Lib.hid ((p2 _ (by omega)).trans RG.out);replace RS:=Lib.hid (p1.trans (show _ = some (.cells #[.int .i64 (e:Nat),.int .i64 (n:Nat),.bool true,.int .i64 0,.int .i64 0,.string ⟨#[]⟩,.int .i64 0,.int .i64 0,.string ⟨#[]⟩] 43 (0,0)) from rfl));replace Hbw:=Lib.hid (Hbw.out.trans p3)
 clear p1 p2 p3 p4 cS cG fS
 generalize w5.setCell ⟨w.heap.size,2,none⟩ (.bool true) = w6 at *
 have cG:=rowc RG.out;have cS:=rowc RS.out;have fS:=rowf RS.out
 go_wp2_with fail
 refine (H4.out _ Hbw.out RG.out).mono ?_;rintro e9 w7 ⟨rfl,hgw7,hbw7⟩
 replace RG:=Lib.hid hgw7;replace RS:=Lib.hid (row_below hbw7 RS.out (by omega));replace Hbw:=Lib.hid (Hbw.out.trans (hbw7.mono (by omega)))
 clear hgw7 hbw7 cS cG fS
 have cG:=rowc RG.out;have cS:=rowc RS.out;have fS:=rowf RS.out
 go_wp2_with fail
 refine (H5.out _ Hbw.out RG.out).mono ?_;rintro e9 w8 ⟨rfl,hgw8,hbw8⟩
 replace RG:=Lib.hid hgw8;replace RS:=Lib.hid (row_below hbw8 RS.out (by omega));replace Hbw:=Lib.hid (Hbw.out.trans (hbw8.mono (by omega)))
 clear hgw8 hbw8 cS cG fS
 have cG:=rowc RG.out;have cS:=rowc RS.out;have fS:=rowf RS.out
 go_upto_region 10 with fail
 obtain ⟨p1,p2,p3,p4⟩:=set3_row (x:=.int .i64 lo.k) (y:=.int .i64 lo.n) (z:=.string lo.s) 3 RS.out (by simp)
 replace RG:=Lib.hid ((p2 _ (by omega)).trans RG.out);replace RS:=Lib.hid (p1.trans (show _ = some (.cells #[.int .i64 (e:Nat),.int .i64 (n:Nat),.bool true,.int .i64 lo.k,.int .i64 lo.n,.string lo.s,.int .i64 0,.int .i64 0,.string ⟨#[]⟩] 43 (0,0)) from rfl));replace Hbw:=Lib.hid (Hbw.out.trans p3)
 clear p1 p2 p3 p4 cS cG fS
 generalize (((w8.setCell ⟨w.heap.size,3,none⟩ (.int .i64 lo.k)).setCell ⟨w.heap.size,4,none⟩ (.int .i64 lo.n)).setCell ⟨w.heap.size,5,none⟩ (.string lo.s)) = w9 at *
 have cG:=rowc RG.out;have cS:=rowc RS.out;have fS:=rowf RS.out
 go_wp2_with fail
 refine (H6.out _ Hbw.out RG.out).mono ?_;rintro e9 w10 ⟨rfl,hgw10,hbw10⟩
 replace RG:=Lib.hid hgw10;replace RS:=Lib.hid (row_below hbw10 RS.out (by omega));replace Hbw:=Lib.hid (Hbw.out.trans (hbw10.mono (by omega)))
 clear hgw10 hbw10 cS cG fS
 have cG:=rowc RG.out;have cS:=rowc RS.out;have fS:=rowf RS.out
 go_upto_region 11 with fail
 obtain ⟨p1,p2,p3,p4⟩:=set3_row (x:=.int .i64 hi.k) (y:=.int .i64 hi.n) (z:=.string hi.s) 6 RS.out (by simp)
 replace RG:=Lib.hid ((p2 _ (by omega)).trans RG.out);replace RS:=Lib.hid (p1.trans (show _ = some (.cells #[.int .i64 (e:Nat),.int .i64 (n:Nat),.bool true,.int .i64 lo.k,.int .i64 lo.n,.string lo.s,.int .i64 hi.k,.int .i64 hi.n,.string hi.s] 43 (0,0)) from rfl));replace Hbw:=Lib.hid (Hbw.out.trans p3)
 clear p1 p2 p3 p4 cS cG fS
 generalize (((w10.setCell ⟨w.heap.size,6,none⟩ (.int .i64 hi.k)).setCell ⟨w.heap.size,7,none⟩ (.int .i64 hi.n)).setCell ⟨w.heap.size,8,none⟩ (.string hi.s)) = w12 at *
 have cG:=rowc RG.out;have cS:=rowc RS.out;have fS:=rowf RS.out
 go_upto_region 12 with fail
 have e1:w12.cell? ⟨1,0,none⟩ = some (.iface 211 (.pointer (some (adr 1)))):=(HE.out.below Hbw.out).cell 1 (by decide)
 have e1d:w12.drew.cell? ⟨1,0,none⟩ = some (.iface 211 (.pointer (some (adr 1)))):=e1
 have hnb:(1:Nat) ≠ w.heap.size:=Nat.ne_of_lt hg1
 have RSd:Hid (w12.drew.heap[w.heap.size]? = some (.cells #[.int .i64 (e:Nat),.int .i64 (n:Nat),.bool true,.int .i64 lo.k,.int .i64 lo.n,.string lo.s,.int .i64 hi.k,.int .i64 hi.n,.string hi.s] 43 (0,0))):=Lib.hid RS.out
 go_region_held3 (fun w'=>w'.cell? ⟨1,0,none⟩ = some (.iface 211 (.pointer (some (adr 1))))) (first | (with_reducible exact e1) | (with_reducible exact e1d) | (with_reducible exact cell_set9 hnb e1d _ _ _ _ _ _ _ _ _) | (with_reducible exact cell_set9 hnb e1 _ _ _ _ _ _ _ _ _) | (with_reducible exact cell_set9d hnb e1 _ _ _ _ _ _ _ _ _)) (fail)
 all_goals go_wp2_with fail
 all_goals refine bodyPost_ret (v:=.tuple #[.agg #[.int .i64 0,.int .i64 0,.bool false,.int .i64 0,.int .i64 0,.string ⟨#[]⟩,.int .i64 0,.int .i64 0,.string ⟨#[]⟩],.int .i64 0,.iface 211 (.pointer (some (adr 1)))]) ?_ rfl ⟨rfl,?_⟩
 all_goals first
  | (refine results_row_tmp2 Tryz.results17 _ _ w.heap.size 43 _ (0,0) _ rfl ?_ Tryz.underlying43 rfl (by kernel_rfl);first | (with_reducible exact row_set9 RS.out rfl _ _ _ _ _ _ _ _ _) | (with_reducible exact row_set9 RSd.out rfl _ _ _ _ _ _ _ _ _) | (with_reducible exact row_set9d RS.out rfl _ _ _ _ _ _ _ _ _))
  | (with_reducible exact below_set9 Hbw.out _ (Nat.le_refl _) _ _ _ _ _ _ _ _ _)
  | (with_reducible exact (below_set9 Hbw.out _ (Nat.le_refl _) _ _ _ _ _ _ _ _ _).drew)
  | (with_reducible exact (below_set9 Hbw.out.drew _ (Nat.le_refl _) _ _ _ _ _ _ _ _ _))
set_option maxRecDepth 100000 in
theorem read_Cmore (s:ByteArray) (e n k p1 p2 p3 p4 p5 p6:Nat) (b2 b4 b5:Bool) (lo hi:Val) (hk8:IntKind.i64.wrap (k:Int) = (k:Int)) (w:World) (adr:Nat → Addr) (hE:ErrsAt w adr [1,2,4])
  (h1:∀ w1,Below w.heap.size w w1 → w1.heap[w.heap.size + 1]? = some (.cells #[.string s,.int .i64 (0:Nat),.bool false] 93 (0,0)) → Calls Tryz.prog 40 #[.pointer (some ⟨w.heap.size + 1,0,none⟩)] w1 fun e9 w'=>e9 = .returned (.int .i64 (e:Nat)) ∧ w'.heap[w.heap.size + 1]? = some (.cells #[.string s,.int .i64 (p1:Nat),.bool false] 93 (0,0)) ∧ Below (w.heap.size + 1) w1 w')
  (h2:∀ w1,Below w.heap.size w w1 → w1.heap[w.heap.size + 1]? = some (.cells #[.string s,.int .i64 (p1:Nat),.bool false] 93 (0,0)) → Calls Tryz.prog 40 #[.pointer (some ⟨w.heap.size + 1,0,none⟩)] w1 fun e9 w'=>e9 = .returned (.int .i64 (n:Nat)) ∧ w'.heap[w.heap.size + 1]? = some (.cells #[.string s,.int .i64 (p2:Nat),.bool b2] 93 (0,0)) ∧ Below (w.heap.size + 1) w1 w')
  (h3:∀ w1,Below w.heap.size w w1 → w1.heap[w.heap.size + 1]? = some (.cells #[.string s,.int .i64 (p2:Nat),.bool b2] 93 (0,0)) → Calls Tryz.prog 41 #[.pointer (some ⟨w.heap.size + 1,0,none⟩)] w1 fun e9 w'=>e9 = .returned (.int .u8 1) ∧ w'.heap[w.heap.size + 1]? = some (.cells #[.string s,.int .i64 (p3:Nat),.bool false] 93 (0,0)) ∧ Below (w.heap.size + 1) w1 w')
  (h4:∀ w1,Below w.heap.size w w1 → w1.heap[w.heap.size + 1]? = some (.cells #[.string s,.int .i64 (p3:Nat),.bool false] 93 (0,0)) → Calls Tryz.prog 41 #[.pointer (some ⟨w.heap.size + 1,0,none⟩)] w1 fun e9 w'=>e9 = .returned (.int .u8 (k:Nat)) ∧ w'.heap[w.heap.size + 1]? = some (.cells #[.string s,.int .i64 (p4:Nat),.bool b4] 93 (0,0)) ∧ Below (w.heap.size + 1) w1 w')
  (h5:∀ w1,Below w.heap.size w w1 → w1.heap[w.heap.size + 1]? = some (.cells #[.string s,.int .i64 (p4:Nat),.bool b4] 93 (0,0)) → Calls Tryz.prog 42 #[.pointer (some ⟨w.heap.size + 1,0,none⟩),.int .i64 (k:Nat)] w1 fun e9 w'=>e9 = .returned (.agg #[.int .i64 lo.k,.int .i64 lo.n,.string lo.s]) ∧ w'.heap[w.heap.size + 1]? = some (.cells #[.string s,.int .i64 (p5:Nat),.bool b5] 93 (0,0)) ∧ Below (w.heap.size + 1) w1 w')
  (h6:∀ w1,Below w.heap.size w w1 → w1.heap[w.heap.size + 1]? = some (.cells #[.string s,.int .i64 (p5:Nat),.bool b5] 93 (0,0)) → Calls Tryz.prog 42 #[.pointer (some ⟨w.heap.size + 1,0,none⟩),.int .i64 (k:Nat)] w1 fun e9 w'=>e9 = .returned (.agg #[.int .i64 hi.k,.int .i64 hi.n,.string hi.s]) ∧ w'.heap[w.heap.size + 1]? = some (.cells #[.string s,.int .i64 (p6:Nat),.bool false] 93 (0,0)) ∧ Below (w.heap.size + 1) w1 w')
  (q1:(e:Int) < (n:Int)) (q2:decide (e < n) = true) :
  Calls Tryz.prog 17 #[.string s] w fun e9 w'=>e9 = .returned (.tuple #[.agg (stA St.none),.int .i64 0,.iface 211 (.pointer (some (adr 1)))]) ∧ Below w.heap.size w w':=by
 have HE:=Lib.hid hE
 have hg1:(1:Nat) < w.heap.size:=block_lt_of_cell (hE.cell 1 (by decide))
 have H1:=Lib.hid h1;have H2:=Lib.hid h2;have H3:=Lib.hid h3
 clear h1 h2 h3
 have H4:=Lib.hid h4;have H5:=Lib.hid h5;have H6:=Lib.hid h6
 clear h4 h5 h6
 go_enter Tryz.func17,Tryz.ntmps17
 go_upto_region 2 with fail
 obtain ⟨rS,rG,hbw,hz⟩:=rows2 (w:=w) (A:=.cells #[.int .i64 0,.int .i64 0,.bool false,.int .i64 0,.int .i64 0,.string ⟨#[]⟩,.int .i64 0,.int .i64 0,.string ⟨#[]⟩] 43) (B:=.cells #[.string s,.int .i64 0,.bool false] 93) (Below.refl _ _)
 have RS:=Lib.hid rS;have RG:Hid (((w.alloc (.cells #[.int .i64 0,.int .i64 0,.bool false,.int .i64 0,.int .i64 0,.string ⟨#[]⟩,.int .i64 0,.int .i64 0,.string ⟨#[]⟩] 43)).alloc (.cells #[.string s,.int .i64 0,.bool false] 93)).heap[w.heap.size + 1]? = some (.cells #[.string s,.int .i64 ((0:Nat):Int),.bool false] 93 (0,0))):=Lib.hid rG;have Hbw:=Lib.hid hbw
 clear rS rG hbw hz hE
 generalize ((w.alloc (.cells #[.int .i64 0,.int .i64 0,.bool false,.int .i64 0,.int .i64 0,.string ⟨#[]⟩,.int .i64 0,.int .i64 0,.string ⟨#[]⟩] 43)).alloc (.cells #[.string s,.int .i64 0,.bool false] 93)) = w0 at *
 have cG:=rowc RG.out;have cS:=rowc RS.out;have fS:=rowf RS.out
 go_wp2_with fail
 refine (H1.out _ Hbw.out RG.out).mono ?_;rintro e9 w1 ⟨rfl,hgw1,hbw1⟩
 replace RG:=Lib.hid hgw1;replace RS:=Lib.hid (row_below hbw1 RS.out (by omega));replace Hbw:=Lib.hid (Hbw.out.trans (hbw1.mono (by omega)))
 clear hgw1 hbw1 cS cG fS
 have cG:=rowc RG.out;have cS:=rowc RS.out;have fS:=rowf RS.out
 go_upto_region 3 with fail
 obtain ⟨p1,p2,p3,p4⟩:=store_cell_row (j:=0) (v:=.int .i64 (e:Nat)) RS.out
 replace RG:=Lib.hid ((p2 _ (by omega)).trans RG.out);replace RS:=Lib.hid (p1.trans (show _ = some (.cells #[.int .i64 (e:Nat),.int .i64 0,.bool false,.int .i64 0,.int .i64 0,.string ⟨#[]⟩,.int .i64 0,.int .i64 0,.string ⟨#[]⟩] 43 (0,0)) from rfl));replace Hbw:=Lib.hid (Hbw.out.trans p3)
 clear p1 p2 p3 p4 cS cG fS
 generalize w1.setCell ⟨w.heap.size,0,none⟩ (.int .i64 (e:Nat)) = w2 at *
 have cG:=rowc RG.out;have cS:=rowc RS.out;have fS:=rowf RS.out
 go_wp2_with fail
 refine (H2.out _ Hbw.out RG.out).mono ?_;rintro e9 w3 ⟨rfl,hgw3,hbw3⟩
 replace RG:=Lib.hid hgw3;replace RS:=Lib.hid (row_below hbw3 RS.out (by omega));replace Hbw:=Lib.hid (Hbw.out.trans (hbw3.mono (by omega)))
 clear hgw3 hbw3 cS cG fS
 have cG:=rowc RG.out;have cS:=rowc RS.out;have fS:=rowf RS.out
 go_upto_region 5 with fail
 obtain ⟨p1,p2,p3,p4⟩:=store_cell_row (j:=1) (v:=.int .i64 (n:Nat)) RS.out
 replace RG:=Lib.hid ((p2 _ (by omega)).trans RG.out);replace RS:=Lib.hid (p1.trans (show _ = some (.cells #[.int .i64 (e:Nat),.int .i64 (n:Nat),.bool false,.int .i64 0,.int .i64 0,.string ⟨#[]⟩,.int .i64 0,.int .i64 0,.string ⟨#[]⟩] 43 (0,0)) from rfl));replace Hbw:=Lib.hid (Hbw.out.trans p3)
 clear p1 p2 p3 p4 cS cG fS
 generalize w3.setCell ⟨w.heap.size,1,none⟩ (.int .i64 (n:Nat)) = w4 at *
 have cG:=rowc RG.out;have cS:=rowc RS.out;have fS:=rowf RS.out
 go_wp2_with fail
 refine (H3.out _ Hbw.out RG.out).mono ?_;rintro e9 w5 ⟨rfl,hgw5,hbw5⟩
 replace RG:=Lib.hid hgw5;replace RS:=Lib.hid (row_below hbw5 RS.out (by omega));replace Hbw:=Lib.hid (Hbw.out.trans (hbw5.mono (by omega)))
 clear hgw5 hbw5 cS cG fS
 have cG:=rowc RG.out;have cS:=rowc RS.out;have fS:=rowf RS.out
 go_upto_region 7 with fail
 obtain ⟨p1,p2,p3,p4⟩:=store_cell_row (j:=2) (v:=.bool true) RS.out
 replace RG:=Lib.hid ((p2 _ (by omega)).trans RG.out);replace RS:=Lib.hid (p1.trans (show _ = some (.cells #[.int .i64 (e:Nat),.int .i64 (n:Nat),.bool true,.int .i64 0,.int .i64 0,.string ⟨#[]⟩,.int .i64 0,.int .i64 0,.string ⟨#[]⟩] 43 (0,0)) from rfl));replace Hbw:=Lib.hid (Hbw.out.trans p3)
 clear p1 p2 p3 p4 cS cG fS
 generalize w5.setCell ⟨w.heap.size,2,none⟩ (.bool true) = w6 at *
 have cG:=rowc RG.out;have cS:=rowc RS.out;have fS:=rowf RS.out
 go_wp2_with fail
 refine (H4.out _ Hbw.out RG.out).mono ?_;rintro e9 w7 ⟨rfl,hgw7,hbw7⟩
 replace RG:=Lib.hid hgw7;replace RS:=Lib.hid (row_below hbw7 RS.out (by omega));replace Hbw:=Lib.hid (Hbw.out.trans (hbw7.mono (by omega)))
 clear hgw7 hbw7 cS cG fS
 have cG:=rowc RG.out;have cS:=rowc RS.out;have fS:=rowf RS.out
 go_wp2_with fail
 refine (H5.out _ Hbw.out RG.out).mono ?_;rintro e9 w8 ⟨rfl,hgw8,hbw8⟩
 replace RG:=Lib.hid hgw8;replace RS:=Lib.hid (row_below hbw8 RS.out (by omega));replace Hbw:=Lib.hid (Hbw.out.trans (hbw8.mono (by omega)))
 clear hgw8 hbw8 cS cG fS
 have cG:=rowc RG.out;have cS:=rowc RS.out;have fS:=rowf RS.out
 go_upto_region 10 with fail
 obtain ⟨p1,p2,p3,p4⟩:=set3_row (x:=.int .i64 lo.k) (y:=.int .i64 lo.n) (z:=.string lo.s) 3 RS.out (by simp)
 replace RG:=Lib.hid ((p2 _ (by omega)).trans RG.out);replace RS:=Lib.hid (p1.trans (show _ = some (.cells #[.int .i64 (e:Nat),.int .i64 (n:Nat),.bool true,.int .i64 lo.k,.int .i64 lo.n,.string lo.s,.int .i64 0,.int .i64 0,.string ⟨#[]⟩] 43 (0,0)) from rfl));replace Hbw:=Lib.hid (Hbw.out.trans p3)
 clear p1 p2 p3 p4 cS cG fS
 generalize (((w8.setCell ⟨w.heap.size,3,none⟩ (.int .i64 lo.k)).setCell ⟨w.heap.size,4,none⟩ (.int .i64 lo.n)).setCell ⟨w.heap.size,5,none⟩ (.string lo.s)) = w9 at *
 have cG:=rowc RG.out;have cS:=rowc RS.out;have fS:=rowf RS.out
 go_wp2_with fail
 refine (H6.out _ Hbw.out RG.out).mono ?_;rintro e9 w10 ⟨rfl,hgw10,hbw10⟩
 replace RG:=Lib.hid hgw10;replace RS:=Lib.hid (row_below hbw10 RS.out (by omega));replace Hbw:=Lib.hid (Hbw.out.trans (hbw10.mono (by omega)))
 clear hgw10 hbw10 cS cG fS
 have cG:=rowc RG.out;have cS:=rowc RS.out;have fS:=rowf RS.out
 go_upto_region 11 with fail
 obtain ⟨p1,p2,p3,p4⟩:=set3_row (x:=.int .i64 hi.k) (y:=.int .i64 hi.n) (z:=.string hi.s) 6 RS.out (by simp)
 replace RG:=Lib.hid ((p2 _ (by omega)).trans RG.out);replace RS:=Lib.hid (p1.trans (show _ = some (.cells #[.int .i64 (e:Nat),.int .i64 (n:Nat),.bool true,.int .i64 lo.k,.int .i64 lo.n,.string lo.s,.int .i64 hi.k,.int .i64 hi.n,.string hi.s] 43 (0,0)) from rfl));replace Hbw:=Lib.hid (Hbw.out.trans p3)
 clear p1 p2 p3 p4 cS cG fS
 generalize (((w10.setCell ⟨w.heap.size,6,none⟩ (.int .i64 hi.k)).setCell ⟨w.heap.size,7,none⟩ (.int .i64 hi.n)).setCell ⟨w.heap.size,8,none⟩ (.string hi.s)) = w12 at *
 have cG:=rowc RG.out;have cS:=rowc RS.out;have fS:=rowf RS.out
 go_upto_region 12 with fail
 have e1:w12.cell? ⟨1,0,none⟩ = some (.iface 211 (.pointer (some (adr 1)))):=(HE.out.below Hbw.out).cell 1 (by decide)
 have e1d:w12.drew.cell? ⟨1,0,none⟩ = some (.iface 211 (.pointer (some (adr 1)))):=e1
 have hnb:(1:Nat) ≠ w.heap.size:=Nat.ne_of_lt hg1
 have RSd:Hid (w12.drew.heap[w.heap.size]? = some (.cells #[.int .i64 (e:Nat),.int .i64 (n:Nat),.bool true,.int .i64 lo.k,.int .i64 lo.n,.string lo.s,.int .i64 hi.k,.int .i64 hi.n,.string hi.s] 43 (0,0))):=Lib.hid RS.out
 go_region_held3 (fun w'=>w'.cell? ⟨1,0,none⟩ = some (.iface 211 (.pointer (some (adr 1))))) (first | (with_reducible exact e1) | (with_reducible exact e1d) | (with_reducible exact cell_set9 hnb e1d _ _ _ _ _ _ _ _ _) | (with_reducible exact cell_set9 hnb e1 _ _ _ _ _ _ _ _ _) | (with_reducible exact cell_set9d hnb e1 _ _ _ _ _ _ _ _ _)) (fail)
 all_goals go_wp2_with fail
 all_goals refine bodyPost_ret (v:=.tuple #[.agg #[.int .i64 0,.int .i64 0,.bool false,.int .i64 0,.int .i64 0,.string ⟨#[]⟩,.int .i64 0,.int .i64 0,.string ⟨#[]⟩],.int .i64 0,.iface 211 (.pointer (some (adr 1)))]) ?_ rfl ⟨rfl,?_⟩
 all_goals first
  | (refine results_row_tmp2 Tryz.results17 _ _ w.heap.size 43 _ (0,0) _ rfl ?_ Tryz.underlying43 rfl (by kernel_rfl);first | (with_reducible exact row_set9 RS.out rfl _ _ _ _ _ _ _ _ _) | (with_reducible exact row_set9 RSd.out rfl _ _ _ _ _ _ _ _ _) | (with_reducible exact row_set9d RS.out rfl _ _ _ _ _ _ _ _ _))
  | (with_reducible exact below_set9 Hbw.out _ (Nat.le_refl _) _ _ _ _ _ _ _ _ _)
  | (with_reducible exact (below_set9 Hbw.out _ (Nat.le_refl _) _ _ _ _ _ _ _ _ _).drew)
  | (with_reducible exact (below_set9 Hbw.out.drew _ (Nat.le_refl _) _ _ _ _ _ _ _ _ _))
set_option maxRecDepth 100000 in
theorem read_Chas (s:ByteArray) (e n k p1 p2 p3 p4 p5 p6:Nat) (b2 b4 b5:Bool) (lo hi:Val) (hk8:IntKind.i64.wrap (k:Int) = (k:Int)) (w:World) (adr:Nat → Addr) (hE:ErrsAt w adr [1,2,4])
  (h1:∀ w1,Below w.heap.size w w1 → w1.heap[w.heap.size + 1]? = some (.cells #[.string s,.int .i64 (0:Nat),.bool false] 93 (0,0)) → Calls Tryz.prog 40 #[.pointer (some ⟨w.heap.size + 1,0,none⟩)] w1 fun e9 w'=>e9 = .returned (.int .i64 (e:Nat)) ∧ w'.heap[w.heap.size + 1]? = some (.cells #[.string s,.int .i64 (p1:Nat),.bool false] 93 (0,0)) ∧ Below (w.heap.size + 1) w1 w')
  (h2:∀ w1,Below w.heap.size w w1 → w1.heap[w.heap.size + 1]? = some (.cells #[.string s,.int .i64 (p1:Nat),.bool false] 93 (0,0)) → Calls Tryz.prog 40 #[.pointer (some ⟨w.heap.size + 1,0,none⟩)] w1 fun e9 w'=>e9 = .returned (.int .i64 (n:Nat)) ∧ w'.heap[w.heap.size + 1]? = some (.cells #[.string s,.int .i64 (p2:Nat),.bool b2] 93 (0,0)) ∧ Below (w.heap.size + 1) w1 w')
  (h3:∀ w1,Below w.heap.size w w1 → w1.heap[w.heap.size + 1]? = some (.cells #[.string s,.int .i64 (p2:Nat),.bool b2] 93 (0,0)) → Calls Tryz.prog 41 #[.pointer (some ⟨w.heap.size + 1,0,none⟩)] w1 fun e9 w'=>e9 = .returned (.int .u8 1) ∧ w'.heap[w.heap.size + 1]? = some (.cells #[.string s,.int .i64 (p3:Nat),.bool false] 93 (0,0)) ∧ Below (w.heap.size + 1) w1 w')
  (h4:∀ w1,Below w.heap.size w w1 → w1.heap[w.heap.size + 1]? = some (.cells #[.string s,.int .i64 (p3:Nat),.bool false] 93 (0,0)) → Calls Tryz.prog 41 #[.pointer (some ⟨w.heap.size + 1,0,none⟩)] w1 fun e9 w'=>e9 = .returned (.int .u8 (k:Nat)) ∧ w'.heap[w.heap.size + 1]? = some (.cells #[.string s,.int .i64 (p4:Nat),.bool b4] 93 (0,0)) ∧ Below (w.heap.size + 1) w1 w')
  (h5:∀ w1,Below w.heap.size w w1 → w1.heap[w.heap.size + 1]? = some (.cells #[.string s,.int .i64 (p4:Nat),.bool b4] 93 (0,0)) → Calls Tryz.prog 42 #[.pointer (some ⟨w.heap.size + 1,0,none⟩),.int .i64 (k:Nat)] w1 fun e9 w'=>e9 = .returned (.agg #[.int .i64 lo.k,.int .i64 lo.n,.string lo.s]) ∧ w'.heap[w.heap.size + 1]? = some (.cells #[.string s,.int .i64 (p5:Nat),.bool b5] 93 (0,0)) ∧ Below (w.heap.size + 1) w1 w')
  (h6:∀ w1,Below w.heap.size w w1 → w1.heap[w.heap.size + 1]? = some (.cells #[.string s,.int .i64 (p5:Nat),.bool b5] 93 (0,0)) → Calls Tryz.prog 42 #[.pointer (some ⟨w.heap.size + 1,0,none⟩),.int .i64 (k:Nat)] w1 fun e9 w'=>e9 = .returned (.agg #[.int .i64 hi.k,.int .i64 hi.n,.string hi.s]) ∧ w'.heap[w.heap.size + 1]? = some (.cells #[.string s,.int .i64 (p6:Nat),.bool false] 93 (0,0)) ∧ Below (w.heap.size + 1) w1 w')
  (q1:¬ (e:Int) < (n:Int)) (q2:decide (e < n) = false) (q3:¬ (n:Int) < (e:Int)) (q4:decide (n < e) = false) :
  Calls Tryz.prog 17 #[.string s] w fun e9 w'=>e9 = .returned (.tuple #[.agg (stA St.none),.int .i64 0,.iface 211 (.pointer (some (adr 1)))]) ∧ Below w.heap.size w w':=by
 have HE:=Lib.hid hE
 have hg1:(1:Nat) < w.heap.size:=block_lt_of_cell (hE.cell 1 (by decide))
 have H1:=Lib.hid h1;have H2:=Lib.hid h2;have H3:=Lib.hid h3
 clear h1 h2 h3
 have H4:=Lib.hid h4;have H5:=Lib.hid h5;have H6:=Lib.hid h6
 clear h4 h5 h6
 go_enter Tryz.func17,Tryz.ntmps17
 go_upto_region 2 with fail
 obtain ⟨rS,rG,hbw,hz⟩:=rows2 (w:=w) (A:=.cells #[.int .i64 0,.int .i64 0,.bool false,.int .i64 0,.int .i64 0,.string ⟨#[]⟩,.int .i64 0,.int .i64 0,.string ⟨#[]⟩] 43) (B:=.cells #[.string s,.int .i64 0,.bool false] 93) (Below.refl _ _)
 have RS:=Lib.hid rS;have RG:Hid (((w.alloc (.cells #[.int .i64 0,.int .i64 0,.bool false,.int .i64 0,.int .i64 0,.string ⟨#[]⟩,.int .i64 0,.int .i64 0,.string ⟨#[]⟩] 43)).alloc (.cells #[.string s,.int .i64 0,.bool false] 93)).heap[w.heap.size + 1]? = some (.cells #[.string s,.int .i64 ((0:Nat):Int),.bool false] 93 (0,0))):=Lib.hid rG;have Hbw:=Lib.hid hbw
 clear rS rG hbw hz hE
 generalize ((w.alloc (.cells #[.int .i64 0,.int .i64 0,.bool false,.int .i64 0,.int .i64 0,.string ⟨#[]⟩,.int .i64 0,.int .i64 0,.string ⟨#[]⟩] 43)).alloc (.cells #[.string s,.int .i64 0,.bool false] 93)) = w0 at *
 have cG:=rowc RG.out;have cS:=rowc RS.out;have fS:=rowf RS.out
 go_wp2_with fail
 refine (H1.out _ Hbw.out RG.out).mono ?_;rintro e9 w1 ⟨rfl,hgw1,hbw1⟩
 replace RG:=Lib.hid hgw1;replace RS:=Lib.hid (row_below hbw1 RS.out (by omega));replace Hbw:=Lib.hid (Hbw.out.trans (hbw1.mono (by omega)))
 clear hgw1 hbw1 cS cG fS
 have cG:=rowc RG.out;have cS:=rowc RS.out;have fS:=rowf RS.out
 go_upto_region 3 with fail
 obtain ⟨p1,p2,p3,p4⟩:=store_cell_row (j:=0) (v:=.int .i64 (e:Nat)) RS.out
 replace RG:=Lib.hid ((p2 _ (by omega)).trans RG.out);replace RS:=Lib.hid (p1.trans (show _ = some (.cells #[.int .i64 (e:Nat),.int .i64 0,.bool false,.int .i64 0,.int .i64 0,.string ⟨#[]⟩,.int .i64 0,.int .i64 0,.string ⟨#[]⟩] 43 (0,0)) from rfl));replace Hbw:=Lib.hid (Hbw.out.trans p3)
 clear p1 p2 p3 p4 cS cG fS
 generalize w1.setCell ⟨w.heap.size,0,none⟩ (.int .i64 (e:Nat)) = w2 at *
 have cG:=rowc RG.out;have cS:=rowc RS.out;have fS:=rowf RS.out
 go_wp2_with fail
 refine (H2.out _ Hbw.out RG.out).mono ?_;rintro e9 w3 ⟨rfl,hgw3,hbw3⟩
 replace RG:=Lib.hid hgw3;replace RS:=Lib.hid (row_below hbw3 RS.out (by omega));replace Hbw:=Lib.hid (Hbw.out.trans (hbw3.mono (by omega)))
 clear hgw3 hbw3 cS cG fS
 have cG:=rowc RG.out;have cS:=rowc RS.out;have fS:=rowf RS.out
 go_upto_region 5 with fail
 obtain ⟨p1,p2,p3,p4⟩:=store_cell_row (j:=1) (v:=.int .i64 (n:Nat)) RS.out
 replace RG:=Lib.hid ((p2 _ (by omega)).trans RG.out);replace RS:=Lib.hid (p1.trans (show _ = some (.cells #[.int .i64 (e:Nat),.int .i64 (n:Nat),.bool false,.int .i64 0,.int .i64 0,.string ⟨#[]⟩,.int .i64 0,.int .i64 0,.string ⟨#[]⟩] 43 (0,0)) from rfl));replace Hbw:=Lib.hid (Hbw.out.trans p3)
 clear p1 p2 p3 p4 cS cG fS
 generalize w3.setCell ⟨w.heap.size,1,none⟩ (.int .i64 (n:Nat)) = w4 at *
 have cG:=rowc RG.out;have cS:=rowc RS.out;have fS:=rowf RS.out
 go_wp2_with fail
 refine (H3.out _ Hbw.out RG.out).mono ?_;rintro e9 w5 ⟨rfl,hgw5,hbw5⟩
 replace RG:=Lib.hid hgw5;replace RS:=Lib.hid (row_below hbw5 RS.out (by omega));replace Hbw:=Lib.hid (Hbw.out.trans (hbw5.mono (by omega)))
 clear hgw5 hbw5 cS cG fS
 have cG:=rowc RG.out;have cS:=rowc RS.out;have fS:=rowf RS.out
 go_upto_region 7 with fail
 obtain ⟨p1,p2,p3,p4⟩:=store_cell_row (j:=2) (v:=.bool true) RS.out
 replace RG:=Lib.hid ((p2 _ (by omega)).trans RG.out);replace RS:=Lib.hid (p1.trans (show _ = some (.cells #[.int .i64 (e:Nat),.int .i64 (n:Nat),.bool true,.int .i64 0,.int .i64 0,.string ⟨#[]⟩,.int .i64 0,.int .i64 0,.string ⟨#[]⟩] 43 (0,0)) from rfl));replace Hbw:=Lib.hid (Hbw.out.trans p3)
 clear p1 p2 p3 p4 cS cG fS
 generalize w5.setCell ⟨w.heap.size,2,none⟩ (.bool true) = w6 at *
 have cG:=rowc RG.out;have cS:=rowc RS.out;have fS:=rowf RS.out
 go_wp2_with fail
 refine (H4.out _ Hbw.out RG.out).mono ?_;rintro e9 w7 ⟨rfl,hgw7,hbw7⟩
 replace RG:=Lib.hid hgw7;replace RS:=Lib.hid (row_below hbw7 RS.out (by omega));replace Hbw:=Lib.hid (Hbw.out.trans (hbw7.mono (by omega)))
 clear hgw7 hbw7 cS cG fS
 have cG:=rowc RG.out;have cS:=rowc RS.out;have fS:=rowf RS.out
 go_wp2_with fail
 refine (H5.out _ Hbw.out RG.out).mono ?_;rintro e9 w8 ⟨rfl,hgw8,hbw8⟩
 replace RG:=Lib.hid hgw8;replace RS:=Lib.hid (row_below hbw8 RS.out (by omega));replace Hbw:=Lib.hid (Hbw.out.trans (hbw8.mono (by omega)))
 clear hgw8 hbw8 cS cG fS
 have cG:=rowc RG.out;have cS:=rowc RS.out;have fS:=rowf RS.out
 go_upto_region 10 with fail
 obtain ⟨p1,p2,p3,p4⟩:=set3_row (x:=.int .i64 lo.k) (y:=.int .i64 lo.n) (z:=.string lo.s) 3 RS.out (by simp)
 replace RG:=Lib.hid ((p2 _ (by omega)).trans RG.out);replace RS:=Lib.hid (p1.trans (show _ = some (.cells #[.int .i64 (e:Nat),.int .i64 (n:Nat),.bool true,.int .i64 lo.k,.int .i64 lo.n,.string lo.s,.int .i64 0,.int .i64 0,.string ⟨#[]⟩] 43 (0,0)) from rfl));replace Hbw:=Lib.hid (Hbw.out.trans p3)
 clear p1 p2 p3 p4 cS cG fS
 generalize (((w8.setCell ⟨w.heap.size,3,none⟩ (.int .i64 lo.k)).setCell ⟨w.heap.size,4,none⟩ (.int .i64 lo.n)).setCell ⟨w.heap.size,5,none⟩ (.string lo.s)) = w9 at *
 have cG:=rowc RG.out;have cS:=rowc RS.out;have fS:=rowf RS.out
 go_wp2_with fail
 refine (H6.out _ Hbw.out RG.out).mono ?_;rintro e9 w10 ⟨rfl,hgw10,hbw10⟩
 replace RG:=Lib.hid hgw10;replace RS:=Lib.hid (row_below hbw10 RS.out (by omega));replace Hbw:=Lib.hid (Hbw.out.trans (hbw10.mono (by omega)))
 clear hgw10 hbw10 cS cG fS
 have cG:=rowc RG.out;have cS:=rowc RS.out;have fS:=rowf RS.out
 go_upto_region 11 with fail
 obtain ⟨p1,p2,p3,p4⟩:=set3_row (x:=.int .i64 hi.k) (y:=.int .i64 hi.n) (z:=.string hi.s) 6 RS.out (by simp)
 replace RG:=Lib.hid ((p2 _ (by omega)).trans RG.out);replace RS:=Lib.hid (p1.trans (show _ = some (.cells #[.int .i64 (e:Nat),.int .i64 (n:Nat),.bool true,.int .i64 lo.k,.int .i64 lo.n,.string lo.s,.int .i64 hi.k,.int .i64 hi.n,.string hi.s] 43 (0,0)) from rfl));replace Hbw:=Lib.hid (Hbw.out.trans p3)
 clear p1 p2 p3 p4 cS cG fS
 generalize (((w10.setCell ⟨w.heap.size,6,none⟩ (.int .i64 hi.k)).setCell ⟨w.heap.size,7,none⟩ (.int .i64 hi.n)).setCell ⟨w.heap.size,8,none⟩ (.string hi.s)) = w12 at *
 have cG:=rowc RG.out;have cS:=rowc RS.out;have fS:=rowf RS.out
 go_upto_region 12 with fail
 have e1:w12.cell? ⟨1,0,none⟩ = some (.iface 211 (.pointer (some (adr 1)))):=(HE.out.below Hbw.out).cell 1 (by decide)
 have e1d:w12.drew.cell? ⟨1,0,none⟩ = some (.iface 211 (.pointer (some (adr 1)))):=e1
 have hnb:(1:Nat) ≠ w.heap.size:=Nat.ne_of_lt hg1
 have RSd:Hid (w12.drew.heap[w.heap.size]? = some (.cells #[.int .i64 (e:Nat),.int .i64 (n:Nat),.bool true,.int .i64 lo.k,.int .i64 lo.n,.string lo.s,.int .i64 hi.k,.int .i64 hi.n,.string hi.s] 43 (0,0))):=Lib.hid RS.out
 go_region_held3 (fun w'=>w'.cell? ⟨1,0,none⟩ = some (.iface 211 (.pointer (some (adr 1))))) (first | (with_reducible exact e1) | (with_reducible exact e1d) | (with_reducible exact cell_set9 hnb e1d _ _ _ _ _ _ _ _ _) | (with_reducible exact cell_set9 hnb e1 _ _ _ _ _ _ _ _ _) | (with_reducible exact cell_set9d hnb e1 _ _ _ _ _ _ _ _ _)) (fail)
 all_goals go_wp2_with fail
 all_goals refine bodyPost_ret (v:=.tuple #[.agg #[.int .i64 0,.int .i64 0,.bool false,.int .i64 0,.int .i64 0,.string ⟨#[]⟩,.int .i64 0,.int .i64 0,.string ⟨#[]⟩],.int .i64 0,.iface 211 (.pointer (some (adr 1)))]) ?_ rfl ⟨rfl,?_⟩
 all_goals first
  | (refine results_row_tmp2 Tryz.results17 _ _ w.heap.size 43 _ (0,0) _ rfl ?_ Tryz.underlying43 rfl (by kernel_rfl);first | (with_reducible exact row_set9 RS.out rfl _ _ _ _ _ _ _ _ _) | (with_reducible exact row_set9 RSd.out rfl _ _ _ _ _ _ _ _ _) | (with_reducible exact row_set9d RS.out rfl _ _ _ _ _ _ _ _ _))
  | (with_reducible exact below_set9 Hbw.out _ (Nat.le_refl _) _ _ _ _ _ _ _ _ _)
  | (with_reducible exact (below_set9 Hbw.out _ (Nat.le_refl _) _ _ _ _ _ _ _ _ _).drew)
  | (with_reducible exact (below_set9 Hbw.out.drew _ (Nat.le_refl _) _ _ _ _ _ _ _ _ _))
set_option maxRecDepth 100000 in
theorem read_Cless (s:ByteArray) (e n k p1 p2 p3 p4 p5 p6:Nat) (b2 b4 b5:Bool) (lo hi:Val) (hk8:IntKind.i64.wrap (k:Int) = (k:Int)) (w:World) (adr:Nat → Addr) (hE:ErrsAt w adr [1,2,4])
  (h1:∀ w1,Below w.heap.size w w1 → w1.heap[w.heap.size + 1]? = some (.cells #[.string s,.int .i64 (0:Nat),.bool false] 93 (0,0)) → Calls Tryz.prog 40 #[.pointer (some ⟨w.heap.size + 1,0,none⟩)] w1 fun e9 w'=>e9 = .returned (.int .i64 (e:Nat)) ∧ w'.heap[w.heap.size + 1]? = some (.cells #[.string s,.int .i64 (p1:Nat),.bool false] 93 (0,0)) ∧ Below (w.heap.size + 1) w1 w')
  (h2:∀ w1,Below w.heap.size w w1 → w1.heap[w.heap.size + 1]? = some (.cells #[.string s,.int .i64 (p1:Nat),.bool false] 93 (0,0)) → Calls Tryz.prog 40 #[.pointer (some ⟨w.heap.size + 1,0,none⟩)] w1 fun e9 w'=>e9 = .returned (.int .i64 (n:Nat)) ∧ w'.heap[w.heap.size + 1]? = some (.cells #[.string s,.int .i64 (p2:Nat),.bool b2] 93 (0,0)) ∧ Below (w.heap.size + 1) w1 w')
  (h3:∀ w1,Below w.heap.size w w1 → w1.heap[w.heap.size + 1]? = some (.cells #[.string s,.int .i64 (p2:Nat),.bool b2] 93 (0,0)) → Calls Tryz.prog 41 #[.pointer (some ⟨w.heap.size + 1,0,none⟩)] w1 fun e9 w'=>e9 = .returned (.int .u8 1) ∧ w'.heap[w.heap.size + 1]? = some (.cells #[.string s,.int .i64 (p3:Nat),.bool false] 93 (0,0)) ∧ Below (w.heap.size + 1) w1 w')
  (h4:∀ w1,Below w.heap.size w w1 → w1.heap[w.heap.size + 1]? = some (.cells #[.string s,.int .i64 (p3:Nat),.bool false] 93 (0,0)) → Calls Tryz.prog 41 #[.pointer (some ⟨w.heap.size + 1,0,none⟩)] w1 fun e9 w'=>e9 = .returned (.int .u8 (k:Nat)) ∧ w'.heap[w.heap.size + 1]? = some (.cells #[.string s,.int .i64 (p4:Nat),.bool b4] 93 (0,0)) ∧ Below (w.heap.size + 1) w1 w')
  (h5:∀ w1,Below w.heap.size w w1 → w1.heap[w.heap.size + 1]? = some (.cells #[.string s,.int .i64 (p4:Nat),.bool b4] 93 (0,0)) → Calls Tryz.prog 42 #[.pointer (some ⟨w.heap.size + 1,0,none⟩),.int .i64 (k:Nat)] w1 fun e9 w'=>e9 = .returned (.agg #[.int .i64 lo.k,.int .i64 lo.n,.string lo.s]) ∧ w'.heap[w.heap.size + 1]? = some (.cells #[.string s,.int .i64 (p5:Nat),.bool b5] 93 (0,0)) ∧ Below (w.heap.size + 1) w1 w')
  (h6:∀ w1,Below w.heap.size w w1 → w1.heap[w.heap.size + 1]? = some (.cells #[.string s,.int .i64 (p5:Nat),.bool b5] 93 (0,0)) → Calls Tryz.prog 42 #[.pointer (some ⟨w.heap.size + 1,0,none⟩),.int .i64 (k:Nat)] w1 fun e9 w'=>e9 = .returned (.agg #[.int .i64 hi.k,.int .i64 hi.n,.string hi.s]) ∧ w'.heap[w.heap.size + 1]? = some (.cells #[.string s,.int .i64 (p6:Nat),.bool false] 93 (0,0)) ∧ Below (w.heap.size + 1) w1 w')
  (hL:∀ w1,Calls Tryz.prog 43 #[.agg #[.int .i64 hi.k,.int .i64 hi.n,.string hi.s],.agg #[.int .i64 lo.k,.int .i64 lo.n,.string lo.s]] w1 fun e9 w'=>e9 = .returned (.bool true) ∧ Below w1.heap.size w1 w')
  (q1:¬ (e:Int) < (n:Int)) (q2:decide (e < n) = false) (q3:(n:Int) < (e:Int)) (q4:decide (n < e) = true) :
  Calls Tryz.prog 17 #[.string s] w fun e9 w'=>e9 = .returned (.tuple #[.agg (stA St.none),.int .i64 0,.iface 211 (.pointer (some (adr 1)))]) ∧ Below w.heap.size w w':=by
 have HE:=Lib.hid hE
 have hg1:(1:Nat) < w.heap.size:=block_lt_of_cell (hE.cell 1 (by decide))
 have H1:=Lib.hid h1;have H2:=Lib.hid h2;have H3:=Lib.hid h3
 clear h1 h2 h3
 have H4:=Lib.hid h4;have H5:=Lib.hid h5;have H6:=Lib.hid h6
 clear h4 h5 h6
 have HL:=Lib.hid hL
 clear hL
 go_enter Tryz.func17,Tryz.ntmps17
 go_upto_region 2 with fail
 obtain ⟨rS,rG,hbw,hz⟩:=rows2 (w:=w) (A:=.cells #[.int .i64 0,.int .i64 0,.bool false,.int .i64 0,.int .i64 0,.string ⟨#[]⟩,.int .i64 0,.int .i64 0,.string ⟨#[]⟩] 43) (B:=.cells #[.string s,.int .i64 0,.bool false] 93) (Below.refl _ _)
 have RS:=Lib.hid rS;have RG:Hid (((w.alloc (.cells #[.int .i64 0,.int .i64 0,.bool false,.int .i64 0,.int .i64 0,.string ⟨#[]⟩,.int .i64 0,.int .i64 0,.string ⟨#[]⟩] 43)).alloc (.cells #[.string s,.int .i64 0,.bool false] 93)).heap[w.heap.size + 1]? = some (.cells #[.string s,.int .i64 ((0:Nat):Int),.bool false] 93 (0,0))):=Lib.hid rG;have Hbw:=Lib.hid hbw
 clear rS rG hbw hz hE
 generalize ((w.alloc (.cells #[.int .i64 0,.int .i64 0,.bool false,.int .i64 0,.int .i64 0,.string ⟨#[]⟩,.int .i64 0,.int .i64 0,.string ⟨#[]⟩] 43)).alloc (.cells #[.string s,.int .i64 0,.bool false] 93)) = w0 at *
 have cG:=rowc RG.out;have cS:=rowc RS.out;have fS:=rowf RS.out
 go_wp2_with fail
 refine (H1.out _ Hbw.out RG.out).mono ?_;rintro e9 w1 ⟨rfl,hgw1,hbw1⟩
 replace RG:=Lib.hid hgw1;replace RS:=Lib.hid (row_below hbw1 RS.out (by omega));replace Hbw:=Lib.hid (Hbw.out.trans (hbw1.mono (by omega)))
 clear hgw1 hbw1 cS cG fS
 have cG:=rowc RG.out;have cS:=rowc RS.out;have fS:=rowf RS.out
 go_upto_region 3 with fail
 obtain ⟨p1,p2,p3,p4⟩:=store_cell_row (j:=0) (v:=.int .i64 (e:Nat)) RS.out
 replace RG:=Lib.hid ((p2 _ (by omega)).trans RG.out);replace RS:=Lib.hid (p1.trans (show _ = some (.cells #[.int .i64 (e:Nat),.int .i64 0,.bool false,.int .i64 0,.int .i64 0,.string ⟨#[]⟩,.int .i64 0,.int .i64 0,.string ⟨#[]⟩] 43 (0,0)) from rfl));replace Hbw:=Lib.hid (Hbw.out.trans p3)
 clear p1 p2 p3 p4 cS cG fS
 generalize w1.setCell ⟨w.heap.size,0,none⟩ (.int .i64 (e:Nat)) = w2 at *
 have cG:=rowc RG.out;have cS:=rowc RS.out;have fS:=rowf RS.out
 go_wp2_with fail
 refine (H2.out _ Hbw.out RG.out).mono ?_;rintro e9 w3 ⟨rfl,hgw3,hbw3⟩
 replace RG:=Lib.hid hgw3;replace RS:=Lib.hid (row_below hbw3 RS.out (by omega));replace Hbw:=Lib.hid (Hbw.out.trans (hbw3.mono (by omega)))
 clear hgw3 hbw3 cS cG fS
 have cG:=rowc RG.out;have cS:=rowc RS.out;have fS:=rowf RS.out
 go_upto_region 5 with fail
 obtain ⟨p1,p2,p3,p4⟩:=store_cell_row (j:=1) (v:=.int .i64 (n:Nat)) RS.out
 replace RG:=Lib.hid ((p2 _ (by omega)).trans RG.out);replace RS:=Lib.hid (p1.trans (show _ = some (.cells #[.int .i64 (e:Nat),.int .i64 (n:Nat),.bool false,.int .i64 0,.int .i64 0,.string ⟨#[]⟩,.int .i64 0,.int .i64 0,.string ⟨#[]⟩] 43 (0,0)) from rfl));replace Hbw:=Lib.hid (Hbw.out.trans p3)
 clear p1 p2 p3 p4 cS cG fS
 generalize w3.setCell ⟨w.heap.size,1,none⟩ (.int .i64 (n:Nat)) = w4 at *
 have cG:=rowc RG.out;have cS:=rowc RS.out;have fS:=rowf RS.out
 go_wp2_with fail
 refine (H3.out _ Hbw.out RG.out).mono ?_;rintro e9 w5 ⟨rfl,hgw5,hbw5⟩
 replace RG:=Lib.hid hgw5;replace RS:=Lib.hid (row_below hbw5 RS.out (by omega));replace Hbw:=Lib.hid (Hbw.out.trans (hbw5.mono (by omega)))
 clear hgw5 hbw5 cS cG fS
 have cG:=rowc RG.out;have cS:=rowc RS.out;have fS:=rowf RS.out
 go_upto_region 7 with fail
 obtain ⟨p1,p2,p3,p4⟩:=store_cell_row (j:=2) (v:=.bool true) RS.out
 replace RG:=Lib.hid ((p2 _ (by omega)).trans RG.out);replace RS:=Lib.hid (p1.trans (show _ = some (.cells #[.int .i64 (e:Nat),.int .i64 (n:Nat),.bool true,.int .i64 0,.int .i64 0,.string ⟨#[]⟩,.int .i64 0,.int .i64 0,.string ⟨#[]⟩] 43 (0,0)) from rfl));replace Hbw:=Lib.hid (Hbw.out.trans p3)
 clear p1 p2 p3 p4 cS cG fS
 generalize w5.setCell ⟨w.heap.size,2,none⟩ (.bool true) = w6 at *
 have cG:=rowc RG.out;have cS:=rowc RS.out;have fS:=rowf RS.out
 go_wp2_with fail
 refine (H4.out _ Hbw.out RG.out).mono ?_;rintro e9 w7 ⟨rfl,hgw7,hbw7⟩
 replace RG:=Lib.hid hgw7;replace RS:=Lib.hid (row_below hbw7 RS.out (by omega));replace Hbw:=Lib.hid (Hbw.out.trans (hbw7.mono (by omega)))
 clear hgw7 hbw7 cS cG fS
 have cG:=rowc RG.out;have cS:=rowc RS.out;have fS:=rowf RS.out
 go_wp2_with fail
 refine (H5.out _ Hbw.out RG.out).mono ?_;rintro e9 w8 ⟨rfl,hgw8,hbw8⟩
 replace RG:=Lib.hid hgw8;replace RS:=Lib.hid (row_below hbw8 RS.out (by omega));replace Hbw:=Lib.hid (Hbw.out.trans (hbw8.mono (by omega)))
 clear hgw8 hbw8 cS cG fS
 have cG:=rowc RG.out;have cS:=rowc RS.out;have fS:=rowf RS.out
 go_upto_region 10 with fail
 obtain ⟨p1,p2,p3,p4⟩:=set3_row (x:=.int .i64 lo.k) (y:=.int .i64 lo.n) (z:=.string lo.s) 3 RS.out (by simp)
 replace RG:=Lib.hid ((p2 _ (by omega)).trans RG.out);replace RS:=Lib.hid (p1.trans (show _ = some (.cells #[.int .i64 (e:Nat),.int .i64 (n:Nat),.bool true,.int .i64 lo.k,.int .i64 lo.n,.string lo.s,.int .i64 0,.int .i64 0,.string ⟨#[]⟩] 43 (0,0)) from rfl));replace Hbw:=Lib.hid (Hbw.out.trans p3)
 clear p1 p2 p3 p4 cS cG fS
 generalize (((w8.setCell ⟨w.heap.size,3,none⟩ (.int .i64 lo.k)).setCell ⟨w.heap.size,4,none⟩ (.int .i64 lo.n)).setCell ⟨w.heap.size,5,none⟩ (.string lo.s)) = w9 at *
 have cG:=rowc RG.out;have cS:=rowc RS.out;have fS:=rowf RS.out
 go_wp2_with fail
 refine (H6.out _ Hbw.out RG.out).mono ?_;rintro e9 w10 ⟨rfl,hgw10,hbw10⟩
 replace RG:=Lib.hid hgw10;replace RS:=Lib.hid (row_below hbw10 RS.out (by omega));replace Hbw:=Lib.hid (Hbw.out.trans (hbw10.mono (by omega)))
 clear hgw10 hbw10 cS cG fS
 have cG:=rowc RG.out;have cS:=rowc RS.out;have fS:=rowf RS.out
 go_upto_region 11 with fail
 obtain ⟨p1,p2,p3,p4⟩:=set3_row (x:=.int .i64 hi.k) (y:=.int .i64 hi.n) (z:=.string hi.s) 6 RS.out (by simp)
 replace RG:=Lib.hid ((p2 _ (by omega)).trans RG.out);replace RS:=Lib.hid (p1.trans (show _ = some (.cells #[.int .i64 (e:Nat),.int .i64 (n:Nat),.bool true,.int .i64 lo.k,.int .i64 lo.n,.string lo.s,.int .i64 hi.k,.int .i64 hi.n,.string hi.s] 43 (0,0)) from rfl));replace Hbw:=Lib.hid (Hbw.out.trans p3)
 clear p1 p2 p3 p4 cS cG fS
 generalize (((w10.setCell ⟨w.heap.size,6,none⟩ (.int .i64 hi.k)).setCell ⟨w.heap.size,7,none⟩ (.int .i64 hi.n)).setCell ⟨w.heap.size,8,none⟩ (.string hi.s)) = w12 at *
 have cG:=rowc RG.out;have cS:=rowc RS.out;have fS:=rowf RS.out
 go_wp2_with fail
 refine (HL.out _).mono ?_;rintro e9 w11 ⟨rfl,hb11⟩
 replace RG:=Lib.hid (row_keep hb11 RG.out);replace RS:=Lib.hid (row_keep hb11 RS.out);replace Hbw:=Lib.hid (Hbw.out.trans (hb11.mono Hbw.out.size))
 clear hb11 cS cG fS
 have cG:=rowc RG.out;have cS:=rowc RS.out;have fS:=rowf RS.out
 go_upto_region 12 with fail
 have e1:w11.cell? ⟨1,0,none⟩ = some (.iface 211 (.pointer (some (adr 1)))):=(HE.out.below Hbw.out).cell 1 (by decide)
 have e1d:w11.drew.cell? ⟨1,0,none⟩ = some (.iface 211 (.pointer (some (adr 1)))):=e1
 have hnb:(1:Nat) ≠ w.heap.size:=Nat.ne_of_lt hg1
 have RSd:Hid (w11.drew.heap[w.heap.size]? = some (.cells #[.int .i64 (e:Nat),.int .i64 (n:Nat),.bool true,.int .i64 lo.k,.int .i64 lo.n,.string lo.s,.int .i64 hi.k,.int .i64 hi.n,.string hi.s] 43 (0,0))):=Lib.hid RS.out
 go_region_held3 (fun w'=>w'.cell? ⟨1,0,none⟩ = some (.iface 211 (.pointer (some (adr 1))))) (first | (with_reducible exact e1) | (with_reducible exact e1d) | (with_reducible exact cell_set9 hnb e1d _ _ _ _ _ _ _ _ _) | (with_reducible exact cell_set9 hnb e1 _ _ _ _ _ _ _ _ _) | (with_reducible exact cell_set9d hnb e1 _ _ _ _ _ _ _ _ _)) (fail)
 all_goals go_wp2_with fail
 all_goals refine bodyPost_ret (v:=.tuple #[.agg #[.int .i64 0,.int .i64 0,.bool false,.int .i64 0,.int .i64 0,.string ⟨#[]⟩,.int .i64 0,.int .i64 0,.string ⟨#[]⟩],.int .i64 0,.iface 211 (.pointer (some (adr 1)))]) ?_ rfl ⟨rfl,?_⟩
 all_goals first
  | (refine results_row_tmp2 Tryz.results17 _ _ w.heap.size 43 _ (0,0) _ rfl ?_ Tryz.underlying43 rfl (by kernel_rfl);first | (with_reducible exact row_set9 RS.out rfl _ _ _ _ _ _ _ _ _) | (with_reducible exact row_set9 RSd.out rfl _ _ _ _ _ _ _ _ _) | (with_reducible exact row_set9d RS.out rfl _ _ _ _ _ _ _ _ _))
  | (with_reducible exact below_set9 Hbw.out _ (Nat.le_refl _) _ _ _ _ _ _ _ _ _)
  | (with_reducible exact (below_set9 Hbw.out _ (Nat.le_refl _) _ _ _ _ _ _ _ _ _).drew)
  | (with_reducible exact (below_set9 Hbw.out.drew _ (Nat.le_refl _) _ _ _ _ _ _ _ _ _))
set_option maxRecDepth 100000 in
theorem read_Cok (s:ByteArray) (e n k p1 p2 p3 p4 p5 p6:Nat) (b2 b4 b5:Bool) (lo hi:Val) (hk8:IntKind.i64.wrap (k:Int) = (k:Int)) (w:World) (adr:Nat → Addr) (hE:ErrsAt w adr [1,2,4])
  (h1:∀ w1,Below w.heap.size w w1 → w1.heap[w.heap.size + 1]? = some (.cells #[.string s,.int .i64 (0:Nat),.bool false] 93 (0,0)) → Calls Tryz.prog 40 #[.pointer (some ⟨w.heap.size + 1,0,none⟩)] w1 fun e9 w'=>e9 = .returned (.int .i64 (e:Nat)) ∧ w'.heap[w.heap.size + 1]? = some (.cells #[.string s,.int .i64 (p1:Nat),.bool false] 93 (0,0)) ∧ Below (w.heap.size + 1) w1 w')
  (h2:∀ w1,Below w.heap.size w w1 → w1.heap[w.heap.size + 1]? = some (.cells #[.string s,.int .i64 (p1:Nat),.bool false] 93 (0,0)) → Calls Tryz.prog 40 #[.pointer (some ⟨w.heap.size + 1,0,none⟩)] w1 fun e9 w'=>e9 = .returned (.int .i64 (n:Nat)) ∧ w'.heap[w.heap.size + 1]? = some (.cells #[.string s,.int .i64 (p2:Nat),.bool b2] 93 (0,0)) ∧ Below (w.heap.size + 1) w1 w')
  (h3:∀ w1,Below w.heap.size w w1 → w1.heap[w.heap.size + 1]? = some (.cells #[.string s,.int .i64 (p2:Nat),.bool b2] 93 (0,0)) → Calls Tryz.prog 41 #[.pointer (some ⟨w.heap.size + 1,0,none⟩)] w1 fun e9 w'=>e9 = .returned (.int .u8 1) ∧ w'.heap[w.heap.size + 1]? = some (.cells #[.string s,.int .i64 (p3:Nat),.bool false] 93 (0,0)) ∧ Below (w.heap.size + 1) w1 w')
  (h4:∀ w1,Below w.heap.size w w1 → w1.heap[w.heap.size + 1]? = some (.cells #[.string s,.int .i64 (p3:Nat),.bool false] 93 (0,0)) → Calls Tryz.prog 41 #[.pointer (some ⟨w.heap.size + 1,0,none⟩)] w1 fun e9 w'=>e9 = .returned (.int .u8 (k:Nat)) ∧ w'.heap[w.heap.size + 1]? = some (.cells #[.string s,.int .i64 (p4:Nat),.bool b4] 93 (0,0)) ∧ Below (w.heap.size + 1) w1 w')
  (h5:∀ w1,Below w.heap.size w w1 → w1.heap[w.heap.size + 1]? = some (.cells #[.string s,.int .i64 (p4:Nat),.bool b4] 93 (0,0)) → Calls Tryz.prog 42 #[.pointer (some ⟨w.heap.size + 1,0,none⟩),.int .i64 (k:Nat)] w1 fun e9 w'=>e9 = .returned (.agg #[.int .i64 lo.k,.int .i64 lo.n,.string lo.s]) ∧ w'.heap[w.heap.size + 1]? = some (.cells #[.string s,.int .i64 (p5:Nat),.bool b5] 93 (0,0)) ∧ Below (w.heap.size + 1) w1 w')
  (h6:∀ w1,Below w.heap.size w w1 → w1.heap[w.heap.size + 1]? = some (.cells #[.string s,.int .i64 (p5:Nat),.bool b5] 93 (0,0)) → Calls Tryz.prog 42 #[.pointer (some ⟨w.heap.size + 1,0,none⟩),.int .i64 (k:Nat)] w1 fun e9 w'=>e9 = .returned (.agg #[.int .i64 hi.k,.int .i64 hi.n,.string hi.s]) ∧ w'.heap[w.heap.size + 1]? = some (.cells #[.string s,.int .i64 (p6:Nat),.bool false] 93 (0,0)) ∧ Below (w.heap.size + 1) w1 w')
  (hL:∀ w1,Calls Tryz.prog 43 #[.agg #[.int .i64 hi.k,.int .i64 hi.n,.string hi.s],.agg #[.int .i64 lo.k,.int .i64 lo.n,.string lo.s]] w1 fun e9 w'=>e9 = .returned (.bool false) ∧ Below w1.heap.size w1 w')
  (q1:¬ (e:Int) < (n:Int)) (q2:decide (e < n) = false) (q3:(n:Int) < (e:Int)) (q4:decide (n < e) = true) :
  Calls Tryz.prog 17 #[.string s] w fun e9 w'=>e9 = .returned (.tuple #[.agg (stA ⟨(e:Nat),(n:Nat),true,lo,hi⟩),.int .i64 (p6:Nat),.nilIface]) ∧ Below w.heap.size w w':=by
 have HE:=Lib.hid hE
 have hg1:(1:Nat) < w.heap.size:=block_lt_of_cell (hE.cell 1 (by decide))
 have H1:=Lib.hid h1;have H2:=Lib.hid h2;have H3:=Lib.hid h3
 clear h1 h2 h3
 have H4:=Lib.hid h4;have H5:=Lib.hid h5;have H6:=Lib.hid h6
 clear h4 h5 h6
 have HL:=Lib.hid hL
 clear hL
 go_enter Tryz.func17,Tryz.ntmps17
 go_upto_region 2 with fail
 obtain ⟨rS,rG,hbw,hz⟩:=rows2 (w:=w) (A:=.cells #[.int .i64 0,.int .i64 0,.bool false,.int .i64 0,.int .i64 0,.string ⟨#[]⟩,.int .i64 0,.int .i64 0,.string ⟨#[]⟩] 43) (B:=.cells #[.string s,.int .i64 0,.bool false] 93) (Below.refl _ _)
 have RS:=Lib.hid rS;have RG:Hid (((w.alloc (.cells #[.int .i64 0,.int .i64 0,.bool false,.int .i64 0,.int .i64 0,.string ⟨#[]⟩,.int .i64 0,.int .i64 0,.string ⟨#[]⟩] 43)).alloc (.cells #[.string s,.int .i64 0,.bool false] 93)).heap[w.heap.size + 1]? = some (.cells #[.string s,.int .i64 ((0:Nat):Int),.bool false] 93 (0,0))):=Lib.hid rG;have Hbw:=Lib.hid hbw
 clear rS rG hbw hz hE
 generalize ((w.alloc (.cells #[.int .i64 0,.int .i64 0,.bool false,.int .i64 0,.int .i64 0,.string ⟨#[]⟩,.int .i64 0,.int .i64 0,.string ⟨#[]⟩] 43)).alloc (.cells #[.string s,.int .i64 0,.bool false] 93)) = w0 at *
 have cG:=rowc RG.out;have cS:=rowc RS.out;have fS:=rowf RS.out
 go_wp2_with fail
 refine (H1.out _ Hbw.out RG.out).mono ?_;rintro e9 w1 ⟨rfl,hgw1,hbw1⟩
 replace RG:=Lib.hid hgw1;replace RS:=Lib.hid (row_below hbw1 RS.out (by omega));replace Hbw:=Lib.hid (Hbw.out.trans (hbw1.mono (by omega)))
 clear hgw1 hbw1 cS cG fS
 have cG:=rowc RG.out;have cS:=rowc RS.out;have fS:=rowf RS.out
 go_upto_region 3 with fail
 obtain ⟨p1,p2,p3,p4⟩:=store_cell_row (j:=0) (v:=.int .i64 (e:Nat)) RS.out
 replace RG:=Lib.hid ((p2 _ (by omega)).trans RG.out);replace RS:=Lib.hid (p1.trans (show _ = some (.cells #[.int .i64 (e:Nat),.int .i64 0,.bool false,.int .i64 0,.int .i64 0,.string ⟨#[]⟩,.int .i64 0,.int .i64 0,.string ⟨#[]⟩] 43 (0,0)) from rfl));replace Hbw:=Lib.hid (Hbw.out.trans p3)
 clear p1 p2 p3 p4 cS cG fS
 generalize w1.setCell ⟨w.heap.size,0,none⟩ (.int .i64 (e:Nat)) = w2 at *
 have cG:=rowc RG.out;have cS:=rowc RS.out;have fS:=rowf RS.out
 go_wp2_with fail
 refine (H2.out _ Hbw.out RG.out).mono ?_;rintro e9 w3 ⟨rfl,hgw3,hbw3⟩
 replace RG:=Lib.hid hgw3;replace RS:=Lib.hid (row_below hbw3 RS.out (by omega));replace Hbw:=Lib.hid (Hbw.out.trans (hbw3.mono (by omega)))
 clear hgw3 hbw3 cS cG fS
 have cG:=rowc RG.out;have cS:=rowc RS.out;have fS:=rowf RS.out
 go_upto_region 5 with fail
 obtain ⟨p1,p2,p3,p4⟩:=store_cell_row (j:=1) (v:=.int .i64 (n:Nat)) RS.out
 replace RG:=Lib.hid ((p2 _ (by omega)).trans RG.out);replace RS:=Lib.hid (p1.trans (show _ = some (.cells #[.int .i64 (e:Nat),.int .i64 (n:Nat),.bool false,.int .i64 0,.int .i64 0,.string ⟨#[]⟩,.int .i64 0,.int .i64 0,.string ⟨#[]⟩] 43 (0,0)) from rfl));replace Hbw:=Lib.hid (Hbw.out.trans p3)
 clear p1 p2 p3 p4 cS cG fS
 generalize w3.setCell ⟨w.heap.size,1,none⟩ (.int .i64 (n:Nat)) = w4 at *
 have cG:=rowc RG.out;have cS:=rowc RS.out;have fS:=rowf RS.out
 go_wp2_with fail
 refine (H3.out _ Hbw.out RG.out).mono ?_;rintro e9 w5 ⟨rfl,hgw5,hbw5⟩
 replace RG:=Lib.hid hgw5;replace RS:=Lib.hid (row_below hbw5 RS.out (by omega));replace Hbw:=Lib.hid (Hbw.out.trans (hbw5.mono (by omega)))
 clear hgw5 hbw5 cS cG fS
 have cG:=rowc RG.out;have cS:=rowc RS.out;have fS:=rowf RS.out
 go_upto_region 7 with fail
 obtain ⟨p1,p2,p3,p4⟩:=store_cell_row (j:=2) (v:=.bool true) RS.out
 replace RG:=Lib.hid ((p2 _ (by omega)).trans RG.out);replace RS:=Lib.hid (p1.trans (show _ = some (.cells #[.int .i64 (e:Nat),.int .i64 (n:Nat),.bool true,.int .i64 0,.int .i64 0,.string ⟨#[]⟩,.int .i64 0,.int .i64 0,.string ⟨#[]⟩] 43 (0,0)) from rfl));replace Hbw:=Lib.hid (Hbw.out.trans p3)
 clear p1 p2 p3 p4 cS cG fS
 generalize w5.setCell ⟨w.heap.size,2,none⟩ (.bool true) = w6 at *
 have cG:=rowc RG.out;have cS:=rowc RS.out;have fS:=rowf RS.out
 go_wp2_with fail
 refine (H4.out _ Hbw.out RG.out).mono ?_;rintro e9 w7 ⟨rfl,hgw7,hbw7⟩
 replace RG:=Lib.hid hgw7;replace RS:=Lib.hid (row_below hbw7 RS.out (by omega));replace Hbw:=Lib.hid (Hbw.out.trans (hbw7.mono (by omega)))
 clear hgw7 hbw7 cS cG fS
 have cG:=rowc RG.out;have cS:=rowc RS.out;have fS:=rowf RS.out
 go_wp2_with fail
 refine (H5.out _ Hbw.out RG.out).mono ?_;rintro e9 w8 ⟨rfl,hgw8,hbw8⟩
 replace RG:=Lib.hid hgw8;replace RS:=Lib.hid (row_below hbw8 RS.out (by omega));replace Hbw:=Lib.hid (Hbw.out.trans (hbw8.mono (by omega)))
 clear hgw8 hbw8 cS cG fS
 have cG:=rowc RG.out;have cS:=rowc RS.out;have fS:=rowf RS.out
 go_upto_region 10 with fail
 obtain ⟨p1,p2,p3,p4⟩:=set3_row (x:=.int .i64 lo.k) (y:=.int .i64 lo.n) (z:=.string lo.s) 3 RS.out (by simp)
 replace RG:=Lib.hid ((p2 _ (by omega)).trans RG.out);replace RS:=Lib.hid (p1.trans (show _ = some (.cells #[.int .i64 (e:Nat),.int .i64 (n:Nat),.bool true,.int .i64 lo.k,.int .i64 lo.n,.string lo.s,.int .i64 0,.int .i64 0,.string ⟨#[]⟩] 43 (0,0)) from rfl));replace Hbw:=Lib.hid (Hbw.out.trans p3)
 clear p1 p2 p3 p4 cS cG fS
 generalize (((w8.setCell ⟨w.heap.size,3,none⟩ (.int .i64 lo.k)).setCell ⟨w.heap.size,4,none⟩ (.int .i64 lo.n)).setCell ⟨w.heap.size,5,none⟩ (.string lo.s)) = w9 at *
 have cG:=rowc RG.out;have cS:=rowc RS.out;have fS:=rowf RS.out
 go_wp2_with fail
 refine (H6.out _ Hbw.out RG.out).mono ?_;rintro e9 w10 ⟨rfl,hgw10,hbw10⟩
 replace RG:=Lib.hid hgw10;replace RS:=Lib.hid (row_below hbw10 RS.out (by omega));replace Hbw:=Lib.hid (Hbw.out.trans (hbw10.mono (by omega)))
 clear hgw10 hbw10 cS cG fS
 have cG:=rowc RG.out;have cS:=rowc RS.out;have fS:=rowf RS.out
 go_upto_region 11 with fail
 obtain ⟨p1,p2,p3,p4⟩:=set3_row (x:=.int .i64 hi.k) (y:=.int .i64 hi.n) (z:=.string hi.s) 6 RS.out (by simp)
 replace RG:=Lib.hid ((p2 _ (by omega)).trans RG.out);replace RS:=Lib.hid (p1.trans (show _ = some (.cells #[.int .i64 (e:Nat),.int .i64 (n:Nat),.bool true,.int .i64 lo.k,.int .i64 lo.n,.string lo.s,.int .i64 hi.k,.int .i64 hi.n,.string hi.s] 43 (0,0)) from rfl));replace Hbw:=Lib.hid (Hbw.out.trans p3)
 clear p1 p2 p3 p4 cS cG fS
 generalize (((w10.setCell ⟨w.heap.size,6,none⟩ (.int .i64 hi.k)).setCell ⟨w.heap.size,7,none⟩ (.int .i64 hi.n)).setCell ⟨w.heap.size,8,none⟩ (.string hi.s)) = w12 at *
 have cG:=rowc RG.out;have cS:=rowc RS.out;have fS:=rowf RS.out
 go_wp2_with fail
 refine (HL.out _).mono ?_;rintro e9 w11 ⟨rfl,hb11⟩
 replace RG:=Lib.hid (row_keep hb11 RG.out);replace RS:=Lib.hid (row_keep hb11 RS.out);replace Hbw:=Lib.hid (Hbw.out.trans (hb11.mono Hbw.out.size))
 clear hb11 cS cG fS
 have cG:=rowc RG.out;have cS:=rowc RS.out;have fS:=rowf RS.out
 go_upto_region 13 with fail
 have RSd:Hid (w11.drew.heap[w.heap.size]? = some (.cells #[.int .i64 (e:Nat),.int .i64 (n:Nat),.bool true,.int .i64 lo.k,.int .i64 lo.n,.string lo.s,.int .i64 hi.k,.int .i64 hi.n,.string hi.s] 43 (0,0))):=Lib.hid RS.out
 have RGd:Hid (w11.drew.heap[w.heap.size + 1]? = some (.cells #[.string s,.int .i64 (p6:Nat),.bool false] 93 (0,0))):=Lib.hid RG.out
 have hnb:w.heap.size + 1 ≠ w.heap.size:=by omega
 go_region_held3 (fun w'=>(∀ j,w'.cell? ⟨w.heap.size,j,none⟩ = (#[.int .i64 (e:Nat),.int .i64 (n:Nat),.bool true,.int .i64 lo.k,.int .i64 lo.n,.string lo.s,.int .i64 hi.k,.int .i64 hi.n,.string hi.s]:Array Value)[j]?) ∧ (∀ j,w'.cell? ⟨w.heap.size + 1,j,none⟩ = (#[.string s,.int .i64 (p6:Nat),.bool false]:Array Value)[j]?)) (first | (with_reducible exact ⟨rowc RS.out,rowc RG.out⟩) | (with_reducible exact ⟨rowc RSd.out,rowc RGd.out⟩) | (with_reducible exact ⟨rowc_set9_self RSd.out rfl _ _ _ _ _ _ _ _ _,rowc_set9 RGd.out hnb _ _ _ _ _ _ _ _ _⟩) | (with_reducible exact ⟨rowc_set9_self RS.out rfl _ _ _ _ _ _ _ _ _,rowc_set9 RG.out hnb _ _ _ _ _ _ _ _ _⟩) | (with_reducible exact ⟨rowc_set9_selfd RS.out rfl _ _ _ _ _ _ _ _ _,rowc_set9d RG.out hnb _ _ _ _ _ _ _ _ _⟩)) (fail)
 all_goals go_wp2_with fail
 all_goals refine bodyPost_ret (v:=.tuple #[.agg #[.int .i64 (e:Nat),.int .i64 (n:Nat),.bool true,.int .i64 lo.k,.int .i64 lo.n,.string lo.s,.int .i64 hi.k,.int .i64 hi.n,.string hi.s],.int .i64 (p6:Nat),.nilIface]) ?_ rfl ⟨rfl,?_⟩
 all_goals first
  | (refine results_row_tmp2 Tryz.results17 _ _ w.heap.size 43 _ (0,0) _ rfl ?_ Tryz.underlying43 rfl (by kernel_rfl);first | (with_reducible exact row_set9 RS.out rfl _ _ _ _ _ _ _ _ _) | (with_reducible exact row_set9 RSd.out rfl _ _ _ _ _ _ _ _ _) | (with_reducible exact row_set9d RS.out rfl _ _ _ _ _ _ _ _ _))
  | (with_reducible exact below_set9 Hbw.out _ (Nat.le_refl _) _ _ _ _ _ _ _ _ _)
  | (with_reducible exact (below_set9 Hbw.out _ (Nat.le_refl _) _ _ _ _ _ _ _ _ _).drew)
  | (with_reducible exact (below_set9 Hbw.out.drew _ (Nat.le_refl _) _ _ _ _ _ _ _ _ _))
end Go.Proofs.YtapiabmmfmfaeaaGreatDoor
