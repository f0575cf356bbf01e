/- The walk of the document's SameInts at two slices of the same numbers, for a seat without the packages of bits. -/
import Derived.Test.YtkmhmnffbgedgaaDoorMErr
import Derived.Test.YtkmhmnffbgedgaaDoorMPlain
import Derived.BigQuiet
import Derived.Test.YtkmhmnffbgedgaaDoorSh8
namespace Go.Proofs.YtkmhmnffbgedgaaDoor
set_option maxHeartbeats 1000000
set_option linter.unusedVariables false
open Go Go.RowKit Go.ChangeShapes
set_option maxRecDepth 100000 in
theorem sameInts_same (v u:Value) (L:List Int) (w:World) (hv:IsInts w v L) (hu:IsInts w u L) (h2:L.length ≤ 1000000) :
  Calls Tryd.prog 25 #[v,u] w fun e w'=>e = .returned (.bool true) ∧ Below w.heap.size w w':=by
 obtain ⟨a2,c2,rfl⟩:=hv.form
 obtain ⟨a3,c3,rfl⟩:=hu.form
 go_enter Tryd.func25,Tryd.ntmps25
 go_wp2_with fail
 go_loopw [5] (fun i wr=>∃ k:Nat,k ≤ L.length ∧ i = .int .i64 k ∧ Below w.heap.size w wr) (fun i _=>L.length - (intOf i).toNat)
 case atStart=>exact ⟨0,Nat.zero_le _,rfl,Below.refl _ _⟩
 case round =>
  obtain ⟨k,hk,rfl,hb⟩:=hrel
  have hJ2:=hv.below hb (Nat.le_refl _)
  have hJ3:=hu.below hb (Nat.le_refl _)
  by_cases hlt:k < L.length
  ·obtain ⟨g2,o2,rfl,_,_,e2⟩:=hJ2.at (by omega)
   obtain ⟨g3,o3,rfl,_,_,e3⟩:=hJ3.at (by omega)
   have v2:=e2 k L[k] (List.getElem?_eq_getElem hlt)
   have v3:=e3 k L[k] (List.getElem?_eq_getElem hlt)
   generalize L[k] = x at *
   have hin:((k:Nat):Int) < (L.length:Int):=by omega
   clear e2 e3 hJ2 hJ3 hv hu
   go_wp2_with fail
   go_quiet (fail)
   go_wp2_with fail
   go_roundw
   case rel=>exact ⟨k + 1,by omega,by go_num,below_drewN hb _⟩
   case measure=>simp [intOf];omega
  ·go_wp2_with fail
   go_ret
   exact ⟨rfl,hb⟩
end Go.Proofs.YtkmhmnffbgedgaaDoor
/- The closed fact of the chapter on shredding: two elements of a list have the levels 0 and 1. -/
namespace Go.Proofs.YtkmhmnffbgedgaaDoor
set_option maxHeartbeats 16000000
set_option linter.unusedVariables false
set_option linter.unusedSimpArgs false
open Go Go.RowKit Go.ChangeShapes
def twS:Nd:=.mk 1 ⟨#[97]⟩ 3 1 []
def twN:Nd:=.mk 0 rootName 1 0 [twS]
def twV:Val:=⟨1,0,⟨#[]⟩⟩
def twX:Dt:=.mk false twV [] []
def twL:Dt:=.mk false ⟨0,0,⟨#[]⟩⟩ [twX,twX] []
def twR:Dt:=.mk false ⟨0,0,⟨#[]⟩⟩ [] [twL]
theorem tw_valid:validE twN = 0:=by decide +kernel
theorem tw_dat:datE twN false twR = 0:=by decide +kernel
theorem tw_err:shredErr twN [twR] = .nil:=by
 unfold shredErr
 rw [tw_valid,if_neg (by simp),if_neg (by simp)]
 simp only [badDt]
 rw [tw_dat,if_pos rfl]
theorem tw_cols:shCols twN [twR] = [⟨1,[0,1],[1,1],[twV,twV]⟩]:=by kernel_rfl
theorem tw_wgt:wgtL [twR] ≤ 100:=by decide +kernel
theorem tw_nodes {x:Nd} (hx:x ∈ nodes twN):x = twN ∨ x = twS:=by
 rw [nodes_eq] at hx
 simp [twN,twS,Nd.sub,nodesL,nodes] at hx
 exact hx
theorem tw_ok:∀ x ∈ nodes twN,x.Ok1:=by
 intro x hx
 rcases tw_nodes hx with rfl | rfl
 ·exact ⟨by decide,by decide,by decide,by decide,by decide,by decide,by decide,by decide⟩
 ·exact ⟨by decide,by decide,by decide,by decide,by decide,by decide,by decide,by decide⟩
theorem tw_dts:∀ x ∈ dtsL [twR],x.Ok1:=by
 intro x hx
 have h:x = twR ∨ x = twL ∨ x = twX:=by
  simp [dtsL,twR,twL,twX,dts] at hx
  exact hx
 rcases h with rfl | rfl | rfl
 ·exact ⟨⟨by decide,by decide,by decide,by decide,by decide⟩,by decide,by decide⟩
 ·exact ⟨⟨by decide,by decide,by decide,by decide,by decide⟩,by decide,by decide⟩
 ·exact ⟨⟨by decide,by decide,by decide,by decide,by decide⟩,by decide,by decide⟩
theorem dt_one {P:Nat → Prop} {w:World} {b cap:Nat} {d:Dt} {ul uf:Value} (hP:P b) {cs:Array Value} {t:TypeId} (hr:w.heap[b]? = some (.cells cs t (0,0))) (hc:∀ (j:Nat) (v:Value),(dtA d ul uf)[j]? = some v → cs[j]? = some v) (hl:IsDts P w ul d.l) (hf:IsDts P w uf d.f):IsDts P w (.slice (some ⟨b,0,none⟩) 1 cap) [d]:=by
 refine .row b 0 cap [d] (fun _=>ul) (fun _=>uf) hP (row_lt hr) (fun j x hj=>?_) (fun j x hj=>?_) (fun j x hj=>?_)
 ·match j,hj with
  | 0,hj =>
   obtain rfl:d = x:=by simpa using hj
   intro k u hk
   simp only [Nat.zero_mul,Nat.zero_add]
   rw [rowc hr k];exact hc k u hk
  | j + 1,hj=>simp at hj
 ·match j,hj with
  | 0,hj =>
   obtain rfl:d = x:=by simpa using hj
   exact hl
  | j + 1,hj=>simp at hj
 ·match j,hj with
  | 0,hj =>
   obtain rfl:d = x:=by simpa using hj
   exact hf
  | j + 1,hj=>simp at hj
theorem nd_one {P:Nat → Prop} {w:World} {b cap:Nat} {d:Nd} {u:Value} (hP:P b) {cs:Array Value} {t:TypeId} (hr:w.heap[b]? = some (.cells cs t (0,0))) (hc:∀ (j:Nat) (v:Value),(ndA d u)[j]? = some v → cs[j]? = some v) (hl:IsNds P w u d.sub):IsNds P w (.slice (some ⟨b,0,none⟩) 1 cap) [d]:=by
 refine .row b 0 cap [d] (fun _=>u) hP (row_lt hr) (fun j x hj=>?_) (fun j x hj=>?_)
 ·match j,hj with
  | 0,hj =>
   obtain rfl:d = x:=by simpa using hj
   intro k q hk
   simp only [Nat.zero_mul,Nat.zero_add]
   rw [rowc hr k];exact hc k q hk
  | j + 1,hj=>simp at hj
 ·match j,hj with
  | 0,hj =>
   obtain rfl:d = x:=by simpa using hj
   exact hl
  | j + 1,hj=>simp at hj
theorem ints_litS {w:World} {g:Nat} {cs:Array Value} {t:TypeId} (hr:w.heap[g]? = some (.cells cs t (0,0))) (l:List Int) (hc:cs.toList = l.map fun x=>.int .i64 x):IsInts w (.slice (some ⟨g,0,none⟩) l.length l.length) l:=by
 refine .inr ⟨g,0,_,rfl,row_lt hr,fun j x hj=>?_⟩
 rw [Nat.zero_add,rowc hr,← Array.getElem?_toList,hc,List.getElem?_map,hj];rfl
set_option maxRecDepth 100000 in
theorem twins_any (w : World) (adr : Nat → Addr) (hE : ErrsAt w adr [2, 3, 4, 5]) : Calls Tryd.prog 5 #[] w fun e w' => e = .returned (.bool true) ∧ Below w.heap.size w w' := by
  have HE := Lib.hid hE
  clear hE
  go_enter Tryd.func5, Tryd.ntmps5
  go_upto_region 3 with fail
  obtain ⟨rA, rB, rC, hbw, hz⟩ := rows3 (w := w) (A := (.cells #[.int .i64 1, .string ⟨#[97]⟩, .int .i64 3, .int .i64 1, .slice none 0 0] 47)) (B := (.cells #[.int .i64 0, .string ⟨#[114, 111, 111, 116]⟩, .int .i64 1, .int .i64 0, .slice (some ⟨w.heap.size, 0, none⟩) 1 1] 47)) (C := (.cells #[.bool false, .int .i64 1, .int .i64 0, .string ⟨#[]⟩, .slice none 0 0, .slice none 0 0] 63)) (Below.refl _ _)
  generalize (((w.alloc (.cells #[.int .i64 1, .string ⟨#[97]⟩, .int .i64 3, .int .i64 1, .slice none 0 0] 47)).alloc (.cells #[.int .i64 0, .string ⟨#[114, 111, 111, 116]⟩, .int .i64 1, .int .i64 0, .slice (some ⟨w.heap.size, 0, none⟩) 1 1] 47)).alloc (.cells #[.bool false, .int .i64 1, .int .i64 0, .string ⟨#[]⟩, .slice none 0 0, .slice none 0 0] 63)) = w2 at *
  obtain ⟨rD, rE, rF, hb2, hz2⟩ := rows3 (w := w2) (A := (.cells #[.bool false, .int .i64 1, .int .i64 0, .string ⟨#[]⟩, .slice none 0 0, .slice none 0 0, .bool false, .int .i64 1, .int .i64 0, .string ⟨#[]⟩, .slice none 0 0, .slice none 0 0] 63)) (B := (.cells #[.bool false, .int .i64 0, .int .i64 0, .string ⟨#[]⟩, .slice (some ⟨w2.heap.size, 0, none⟩) 2 2, .slice none 0 0] 63)) (C := (.cells #[.bool false, .int .i64 0, .int .i64 0, .string ⟨#[]⟩, .slice none 0 0, .slice (some ⟨w2.heap.size + 1, 0, none⟩) 1 1] 63)) (Below.refl _ _)
  have hsz : w2.heap.size + 3 = (((w2.alloc (.cells #[.bool false, .int .i64 1, .int .i64 0, .string ⟨#[]⟩, .slice none 0 0, .slice none 0 0, .bool false, .int .i64 1, .int .i64 0, .string ⟨#[]⟩, .slice none 0 0, .slice none 0 0] 63)).alloc (.cells #[.bool false, .int .i64 0, .int .i64 0, .string ⟨#[]⟩, .slice (some ⟨w2.heap.size, 0, none⟩) 2 2, .slice none 0 0] 63)).alloc (.cells #[.bool false, .int .i64 0, .int .i64 0, .string ⟨#[]⟩, .slice none 0 0, .slice (some ⟨w2.heap.size + 1, 0, none⟩) 1 1] 63)).heap.size := by simp
  have hall := hbw.trans (hb2.mono hbw.size)
  have rA2 := row_keep hb2 rA
  have hT := shred_any adr twN [twR] (.slice (some ⟨w.heap.size, 0, none⟩) 1 1) (.slice (some ⟨w2.heap.size + 1 + 1, 0, none⟩) 1 1) (((w2.alloc (.cells #[.bool false, .int .i64 1, .int .i64 0, .string ⟨#[]⟩, .slice none 0 0, .slice none 0 0, .bool false, .int .i64 1, .int .i64 0, .string ⟨#[]⟩, .slice none 0 0, .slice none 0 0] 63)).alloc (.cells #[.bool false, .int .i64 0, .int .i64 0, .string ⟨#[]⟩, .slice (some ⟨w2.heap.size, 0, none⟩) 2 2, .slice none 0 0] 63)).alloc (.cells #[.bool false, .int .i64 0, .int .i64 0, .string ⟨#[]⟩, .slice none 0 0, .slice (some ⟨w2.heap.size + 1, 0, none⟩) 1 1] 63)) (HE.out.below hall)
    (nd_one (row_lt rA2) rA2 (fun j v h => h) (.nil _ _)) tw_ok
    (dt_one (row_lt rF) rF (fun j v h => h) (.nil _ _) (dt_one (row_lt rE) rE (fun j v h => h) (by
      refine .row w2.heap.size 0 2 [twX, twX] (fun _ => .slice none 0 0) (fun _ => .slice none 0 0) (row_lt rD) (row_lt rD) (fun j x hj => ?_) (fun j x hj => ?_) (fun j x hj => ?_)
      · match j, hj with
        | 0, hj =>
          obtain rfl : twX = x := by simpa using hj
          intro k u hk
          rw [rowc rD]
          have hk6 : k < 6 := by have := (Array.getElem?_eq_some_iff.1 hk).1; simpa [dtA] using this
          match k, hk6 with
          | 0, _ => exact hk
          | 1, _ => exact hk
          | 2, _ => exact hk
          | 3, _ => exact hk
          | 4, _ => exact hk
          | 5, _ => exact hk
        | 1, hj =>
          obtain rfl : twX = x := by simpa using hj
          intro k u hk
          rw [rowc rD]
          have hk6 : k < 6 := by have := (Array.getElem?_eq_some_iff.1 hk).1; simpa [dtA] using this
          match k, hk6 with
          | 0, _ => exact hk
          | 1, _ => exact hk
          | 2, _ => exact hk
          | 3, _ => exact hk
          | 4, _ => exact hk
          | 5, _ => exact hk
        | j + 2, hj => simp at hj
      · match j, hj with
        | 0, hj => obtain rfl : twX = x := by simpa using hj
                   exact .nil _ _
        | 1, hj => obtain rfl : twX = x := by simpa using hj
                   exact .nil _ _
        | j + 2, hj => simp at hj
      · match j, hj with
        | 0, hj => obtain rfl : twX = x := by simpa using hj
                   exact .nil _ _
        | 1, hj => obtain rfl : twX = x := by simpa using hj
                   exact .nil _ _
        | j + 2, hj => simp at hj) (.nil _ _))) tw_dts (fun _ j => by have := shAll_len twN [twR] j; have := tw_wgt; omega) (fun _ d hd => by have := wgtL_mem hd; have := tw_wgt; omega)
  rw [tw_err, tw_cols] at hT
  unfold ndA twN Nd.id Nd.name Nd.rep Nd.kind rootName at hT
  simp only at hT
  have HT := Lib.hid hT; have HW := Lib.hid hall
  have cB := rowc rB; have cC := rowc rC
  clear hT rA rA2 rB rC rD rE rF hbw hb2 hz hz2 hsz hall
  go_wp2_with fail
  refine HT.out.mono ?_; rintro e w3 ⟨hb3, hres⟩
  rcases hres with ⟨-, v, rfl, hc, -⟩ | ⟨hne, -⟩
  case inr => exact absurd rfl hne
  have HB3 := Lib.hid (HW.out.trans (hb3.mono HW.out.size))
  obtain ⟨ad, cp, rfl⟩ := hc.form
  obtain ⟨b, off, rfl, -, hb, hat⟩ := hc.at (by simp)
  obtain ⟨p, q, d, h1, h2, h3, h4⟩ := hat 0 _ rfl
  obtain ⟨a1, q1, rfl⟩ := h1.form
  obtain ⟨a2, q2, rfl⟩ := h2.form
  obtain ⟨a3, q3, rfl⟩ := h3.form
  have H1 := Lib.hid h1; have H2 := Lib.hid h2
  have k1 : w3.cell? ⟨b, off + 1, none⟩ = some (.slice a1 2 q1) := h4 1 _ rfl
  have k2 : w3.cell? ⟨b, off + 2, none⟩ = some (.slice a2 2 q2) := h4 2 _ rfl
  have k3 : w3.cell? ⟨b, off + 3, none⟩ = some (.slice a3 2 q3) := h4 3 _ rfl
  have K2 := Lib.hid k2; have K3 := Lib.hid k3
  clear hb3 cB cC HT hc hat h1 h2 h3 h4
  go_wp2_with fail
  have hl1 := (Below.refl w3.heap.size w3).alloc (Nat.le_refl _) (.cells #[.int .i64 0, .int .i64 1] 3)
  have hr1 := heap_alloc_new w3 (.cells #[.int .i64 0, .int .i64 1] 3)
  refine (sameInts_same _ _ [0, 1] _ (H1.out.below hl1 (Nat.le_refl _)) (ints_litS hr1 [0, 1] rfl) (by simp)).mono ?_; rintro e w4 ⟨rfl, hb4⟩
  have hb5 := hl1.trans (hb4.mono hl1.size)
  have K2' := Lib.hid ((bcell hb5).1 _ _ hb |>.trans K2.out); have K3' := Lib.hid ((bcell hb5).1 _ _ hb |>.trans K3.out)
  have HB5 := Lib.hid (HB3.out.trans (hb5.mono HB3.out.size))
  replace H2 := Lib.hid (H2.out.below hb5 (Nat.le_refl _))
  have hbz := Nat.lt_of_lt_of_le hb hb5.size
  clear hl1 hr1 hb4 hb5 k1 k2 k3 K2 K3 H1
  have k2 := K2'.out
  go_wp2_with fail
  have hl1 := (Below.refl w4.heap.size w4).alloc (Nat.le_refl _) (.cells #[.int .i64 1, .int .i64 1] 3)
  have hr1 := heap_alloc_new w4 (.cells #[.int .i64 1, .int .i64 1] 3)
  refine (sameInts_same _ _ [1, 1] _ (H2.out.below hl1 (Nat.le_refl _)) (ints_litS hr1 [1, 1] rfl) (by simp)).mono ?_; rintro e w5 ⟨rfl, hb6⟩
  have hb7 := hl1.trans (hb6.mono hl1.size)
  have K3'' := Lib.hid ((bcell hb7).1 _ _ hbz |>.trans K3'.out)
  have HB7 := Lib.hid (HB5.out.trans (hb7.mono HB5.out.size))
  clear hl1 hr1 hb6 hb7 k2
  have k3 := K3''.out
  go_wp2_with fail
  go_ret
  exact ⟨rfl, HB7.out⟩
end Go.Proofs.YtkmhmnffbgedgaaDoor
/- Plain: what the document writes of a datum, element by element; a column of its own that grows. -/
namespace Go.Proofs.YtkmhmnffbgedgaaDoor
set_option linter.unusedVariables false
set_option linter.unusedSimpArgs false
open Go Go.RowKit Go.ChangeShapes
def addD (c:Col) (l:List EntD):Col:=⟨c.id,c.rep ++ l.map EntD.r,c.df ++ l.map EntD.d,c.vals ++ l.filterMap EntD.v⟩
def even (c:Col):Prop:=c.df.length = c.rep.length ∧ c.vals.length ≤ c.rep.length
def OwnC (B:Nat) (w:World) (u:Value) (c:Col):Prop:=∃ P Q D,u = .agg #[.int .i64 c.id,P,Q,D] ∧ w.ownsRow B 3 1 P c.rep.length (c.rep.flatMap intC) ∧ w.ownsRow B 3 1 Q c.df.length (c.df.flatMap intC) ∧ w.ownsRow B 61 3 D c.vals.length (c.vals.flatMap valCells) ∧ apartV P Q
theorem OwnC.isCol {B:Nat} {w:World} {u:Value} {c:Col} (h:OwnC B w u c):IsCol w u c:=by
 obtain ⟨P,Q,D,rfl,h1,h2,h3,_⟩:=h
 exact ⟨P,Q,D,rfl,IsNums.of_own (B:=B) (e:=3) (by rw [← show c.rep.flatMap intC = _ from intC_map _];exact h1),IsNums.of_own (B:=B) (e:=3) (by rw [← show c.df.flatMap intC = _ from intC_map _];exact h2),IsVals.of_own h3⟩
theorem OwnC.below {B:Nat} {w w':World} {u:Value} {c:Col} (h:OwnC B w u c) (hb:Below w.heap.size w w'):OwnC B w' u c:=by
 obtain ⟨P,Q,D,e,h1,h2,h3,h4⟩:=h
 exact ⟨P,Q,D,e,own_blw h1 hb,own_blw h2 hb,own_blw h3 hb,h4⟩
structure OcS (B:Nat) (w:World) (gc:Nat) (c:Col) (P Q D:Value):Prop where
 row:w.heap[gc]? = some (.cells #[.int .i64 c.id,P,Q,D] 32 (0,0))
 p:w.ownsRow B 3 1 P c.rep.length (c.rep.flatMap intC)
 q:w.ownsRow B 3 1 Q c.df.length (c.df.flatMap intC)
 d:w.ownsRow B 61 3 D c.vals.length (c.vals.flatMap valCells)
 ap:apartV P Q
 hB:B ≤ w.heap.size
 hg:B ≤ gc
theorem OcS.keep {B gc:Nat} {w w':World} {c:Col} {P Q D:Value} (h:OcS B w gc c P Q D) (hb:Below w.heap.size w w'):OcS B w' gc c P Q D :=
 ⟨row_keep hb h.row,own_blw h.p hb,own_blw h.q hb,own_blw h.d hb,h.ap,Nat.le_trans h.hB hb.size,h.hg⟩
end Go.Proofs.YtkmhmnffbgedgaaDoor
