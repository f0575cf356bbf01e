/- Trees of nodes in memory; the walk of schema.walk, whatever it shows each node to. -/
import Derived.Test.YthfljcpfcnddhaaGreatDoorTr1
import Derived.Test.YthfljcpfcnddhaaGreatDoorMRow
import Derived.Test.YthfljcpfcnddhaaGreatDoorRows
namespace Go.Proofs.YthfljcpfcnddhaaGreatDoor
set_option linter.unusedVariables false
set_option linter.unusedSimpArgs false
open Go Go.RowKit Go.ChangeShapes

/-- a node's cells; u: what stands in it -/
def ndA (n : Nd) (u : Value) : Array Value := #[.int .i64 n.id, .string n.name, .int .i64 n.rep, .int .i64 n.kind, u]
theorem ndA_one (n : Nd) (u : Value) (h : u.oneCell' = true) : (ndA n u).all (·.oneCell') = true := by simp [ndA, Value.oneCell'] at h ⊢; exact h
def NdAt (w : World) (b o : Nat) (n : Nd) (u : Value) : Prop := ∀ j v, (ndA n u)[j]? = some v → w.cell? ⟨b, o + j, none⟩ = some v
/-- v is a slice of these nodes, in blocks that are so -/
inductive IsNds (P : Nat → Prop) (w : World) : Value → List Nd → Prop
  | nil (ad : Option Addr) (cap : Nat) : IsNds P w (.slice ad 0 cap) []
  | row (b off cap : Nat) (l : List Nd) (S : Nat → Value) (hP : P b) (hb : b < w.heap.size) (hc : ∀ j n, l[j]? = some n → NdAt w b (off + j * 5) n (S j)) (hs : ∀ j n, l[j]? = some n → IsNds P w (S j) n.sub) :
      IsNds P w (.slice (some ⟨b, off, none⟩) l.length cap) l
theorem IsNds.form {P : Nat → Prop} {w : World} {v : Value} {l : List Nd} (h : IsNds P w v l) : ∃ ad cap, v = .slice ad l.length cap := by
  cases h with
  | nil ad cap => exact ⟨ad, cap, rfl⟩
  | row b off cap l S => exact ⟨_, cap, rfl⟩
theorem IsNds.at {P : Nat → Prop} {w : World} {ad : Option Addr} {n cap : Nat} {l : List Nd} (h : IsNds P w (.slice ad n cap) l) (hl : 0 < l.length) :
    ∃ b off, ad = some ⟨b, off, none⟩ ∧ P b ∧ b < w.heap.size ∧ ∀ j x, l[j]? = some x → ∃ u, NdAt w b (off + j * 5) x u ∧ IsNds P w u x.sub := by
  generalize hv : Value.slice ad n cap = v at h
  cases h with
  | nil ad' cap' => simp at hl
  | row b off cap' l S hP hb hc hs =>
    injection hv with e1 e2 e3
    exact ⟨b, off, e1, hP, hb, fun j x hj => ⟨S j, hc j x hj, hs j x hj⟩⟩
theorem IsNds.one {P : Nat → Prop} {w : World} {v : Value} {l : List Nd} (h : IsNds P w v l) : v.oneCell' = true := by
  obtain ⟨ad, cap, rfl⟩ := h.form; rfl
theorem IsNds.keep {P : Nat → Prop} {w w' : World} {v : Value} {l : List Nd} (h : IsNds P w v l) (hz : w.heap.size ≤ w'.heap.size) (hk : ∀ b, P b → b < w.heap.size → w'.heap[b]? = w.heap[b]?) : IsNds P w' v l := by
  induction h with
  | nil ad cap => exact .nil ad cap
  | row b off cap l S hP hb hc hs ih =>
    refine .row b off cap l S hP (by omega) (fun j n hj k x hx => ?_) ih
    rw [World.cell?_of_block (w := w) (hk b hP hb)]
    exact hc j n hj k x hx
theorem IsNds.mono {P Q : Nat → Prop} {w : World} {v : Value} {l : List Nd} (h : IsNds P w v l) (hPQ : ∀ b, P b → b < w.heap.size → Q b) : IsNds Q w v l := by
  induction h with
  | nil ad cap => exact .nil ad cap
  | row b off cap l S hP hb hc hs ih => exact .row b off cap l S (hPQ b hP hb) hb hc ih
theorem IsNds.under {B : Nat} {w w' : World} {v : Value} {l : List Nd} (h : IsNds (· < B) w v l) (hb : Below B w w') : IsNds (· < B) w' v l := h.keep hb.size fun b hP _ => hb.block b hP
theorem IsNds.belowP {B : Nat} {P : Nat → Prop} {w w' : World} {v : Value} {l : List Nd} (h : IsNds P w v l) (hP : ∀ b, P b → b < B) (hb : Below B w w') : IsNds P w' v l := h.keep hb.size fun b hp _ => hb.block b (hP b hp)
/-- a node that Go can hold -/
structure Nd.Ok1 (n : Nd) : Prop where
  id0 : -9223372036854775808 ≤ n.id
  id1 : n.id < 9223372036854775808
  r0 : -9223372036854775808 ≤ n.rep
  r1 : n.rep < 9223372036854775808
  k0 : -9223372036854775808 ≤ n.kind
  k1 : n.kind < 9223372036854775808
  name : n.name.size ≤ 9223372036854775807
  sub : n.sub.length * 64 ≤ 140737488355328
theorem nd_info : (Tryz.prog.info? 24).map (·.size) = some 5 := by kernel_rfl

/-- a row of the call's own stays where what is there stays -/
theorem own_blw {w w' : World} {B n s : Nat} {e : TypeId} {v : Value} {xs : List Value} (h : w.ownsRow B e s v n xs) (hb : Below w.heap.size w w') : w'.ownsRow B e s v n xs := by
  refine ⟨h.1, ?_⟩
  rcases h.2 with h0 | ⟨g, cap, cur, hv, h1, h2, h3⟩
  · exact .inl h0
  · exact .inr ⟨g, cap, cur, hv, h1, (hb.block g (Array.getElem?_eq_some_iff.1 h2).1).trans h2, h3⟩
/-- what a walk leaves: blocks below B, and copies of nodes but for some -/
structure Kp (B : Nat) (M : Nat → Prop) (w w' : World) : Prop where
  below : Below B w w'
  keep : ∀ (g : Nat) (cs : Array Value) (T : TypeId) (fz : Nat × Nat), T = 24 ∨ T = 31 → ¬ M g → w.heap[g]? = some (.cells cs T fz) → w'.heap[g]? = some (.cells cs T fz)
theorem Kp.refl (B : Nat) (M : Nat → Prop) (w : World) : Kp B M w w := ⟨Below.refl _ _, fun _ _ _ _ _ _ h => h⟩
theorem Kp.trans {B : Nat} {M : Nat → Prop} {a b c : World} (h : Kp B M a b) (k : Kp B M b c) : Kp B M a c := ⟨h.below.trans k.below, fun g cs T fz hT hM hg => k.keep g cs T fz hT hM (h.keep g cs T fz hT hM hg)⟩
theorem Kp.of_below {B : Nat} {M : Nat → Prop} {w w' : World} (h : Below w.heap.size w w') (hB : B ≤ w.heap.size) : Kp B M w w' := ⟨h.mono hB, fun g cs T fz _ _ hg => row_keep h hg⟩
theorem Kp.alloc {B : Nat} {M : Nat → Prop} {a w : World} (h : Kp B M a w) (hB : B ≤ w.heap.size) (o : Obj) : Kp B M a (w.alloc o) := h.trans (.of_below ((Below.refl _ _).alloc (Nat.le_refl _) o) hB)

theorem nodesL_mem {x y : Nd} {l : List Nd} (hx : x ∈ l) (hy : y ∈ nodes x) : y ∈ nodesL l := by
  induction l with
  | nil => simp at hx
  | cons z r ih =>
    simp only [nodesL, List.mem_append]
    rcases List.mem_cons.1 hx with rfl | hx
    · exact .inl hy
    · exact .inr (ih hx)
theorem run_step {σ : Type} {f : Nd → Int → σ → Bool × σ} {l : List Nd} {j : Nat} {k : Int} {s1 s' : σ} {x : Nd} (h : runF f (preL (l.take j) k) s1 = (true, s')) (hs : l.take (j + 1) = l.take j ++ [x]) :
    runF f (preL (l.take (j + 1)) k) s1 = runF f (pre x k) s' := by
  rw [hs, preL_app, runF_app, h]; simp [preL]
theorem run_stop {σ : Type} {f : Nd → Int → σ → Bool × σ} {l : List Nd} {i : Nat} {k : Int} {s1 : σ} (h : (runF f (preL (l.take i) k) s1).1 = false) : runF f (preL l k) s1 = runF f (preL (l.take i) k) s1 := by
  have e : preL l k = preL (l.take i) k ++ preL (l.drop i) k := by rw [← preL_app, List.take_append_drop]
  rw [e, runF_app, if_neg (by simp [h])]
  exact Prod.ext h.symm rfl
/-- a function value by its contract -/
def SeeAt (B : Nat) (P M : Nat → Prop) {σ : Type} (Inv : Nat → σ → World → Prop) (f : Nd → Int → σ → Bool × σ) (g : Nat) (lb : Array Value) : Prop :=
  ∀ (m : Nat) (n : Nd) (u : Value) (k : Int) (s : σ) (w : World), B ≤ w.heap.size → Inv (m + 1) s w → IsNds P w u n.sub → (∀ x ∈ nodes n, x.Ok1) →
    Calls Tryz.prog g (#[.agg (ndA n u), .int .i64 k] ++ lb) w fun e w' => e = .returned (.bool (f n k s).1) ∧ Inv m (f n k s).2 w' ∧ Kp B M w w'

set_option maxRecDepth 100000 in
set_option maxHeartbeats 8000000 in
theorem walk_any {σ : Type} (B : Nat) (P M : Nat → Prop) (Inv : Nat → σ → World → Prop) (f : Nd → Int → σ → Bool × σ) (g : Nat) (lb : Array Value)
    (eg : ∀ args w, (callFunc g args).run Tryz.prog w = .ok (.enter g args) w) (hP : ∀ b, P b → b < B) (hMB : ∀ (b : Nat) (w : World), B ≤ w.heap.size → w.heap.size ≤ b → ¬ M b)
    (HA : ∀ m s w w', Inv m s w → B ≤ w.heap.size → Below w.heap.size w w' → Inv m s w') (HD : ∀ m m' s w, Inv m s w → m' ≤ m → Inv m' s w)
    (HS : SeeAt B P M Inv f g lb) :
    ∀ (n : Nd), ∀ (m : Nat) (u : Value) (k : Int) (s : σ) (w : World), B ≤ w.heap.size → Inv (m + size n) s w → IsNds P w u n.sub → (∀ x ∈ nodes n, x.Ok1) →
      Calls Tryz.prog 64 #[.agg (ndA n u), .int .i64 k, .func (.func g) #[] lb] w fun e w' => e = .returned (.bool (runF f (pre n k) s).1) ∧ Inv m (runF f (pre n k) s).2 w' ∧ Kp B M w w' := by
  apply Nd.ind
  intro n IH m u k s w hB hI hN hO
  have hI' : Inv (m + sizeL n.sub + 1) s w := by rw [size_eq] at hI; exact HD _ _ _ _ hI (by omega)
  clear hI
  have hO1 := hO n (by rw [nodes_eq]; exact List.mem_cons_self ..)
  have hOs : ∀ x ∈ nodesL n.sub, x.Ok1 := fun x hx => hO x (by rw [nodes_eq]; exact List.mem_cons_of_mem _ hx)
  have HIH := Lib.hid IH; have HOs := Lib.hid hOs
  have HC := Lib.hid (fun (w1 : World) (hw : Below w.heap.size w w1) => HS (m + sizeL n.sub) n u k s w1 (Nat.le_trans hB hw.size) (HA _ s w w1 hI' hB hw) (hN.belowP hP (hw.mono hB)) hO)
  have HN := Lib.hid hN
  clear IH hO hOs hI' hN
  have hlen := hO1.sub
  have hpe : ∃ R, runF f (pre n k) s = R := ⟨_, rfl⟩
  obtain ⟨R, hR⟩ := hpe
  rw [hR]
  rw [pre_eq] at hR
  obtain ⟨ad, cp, hv⟩ := HN.out.form
  clear hO1
  obtain ⟨l, hl⟩ : ∃ l, n.sub = l := ⟨_, rfl⟩
  rw [hl] at HN HIH HOs hlen hR hv HC
  obtain ⟨len, hnl⟩ : ∃ len, l.length = len := ⟨_, rfl⟩
  rw [hnl] at hlen hv
  subst hv
  have HL := Lib.hid hnl; have HRr := Lib.hid hR
  clear hnl hl hR
  unfold ndA at HC
  unfold ndA
  have hw1 : Below w.heap.size w (w.alloc (.cells #[.int .i64 n.id, .string n.name, .int .i64 n.rep, .int .i64 n.kind, .slice ad len cp] 24)) := (Below.refl _ _).alloc (Nat.le_refl _) _
  have hrow := heap_alloc_new w (.cells #[.int .i64 n.id, .string n.name, .int .i64 n.rep, .int .i64 n.kind, .slice ad len cp] 24)
  have HW := Lib.hid hw1; have HR := Lib.hid hrow
  clear hw1 hrow
  go_enter Tryz.func64, Tryz.ntmps64
  go_wp2_with fail
  refine (HC.out _ HW.out).mono ?_; rintro e w1 ⟨rfl, hi1, hk1⟩
  have rN := hk1.keep _ _ _ _ (.inl rfl) (hMB _ w hB (Nat.le_refl _)) HR.out
  have HK := Lib.hid ((Kp.of_below HW.out hB).trans hk1); have HI := Lib.hid hi1; have RN := Lib.hid rN
  clear hi1 hk1 rN HC HR HW
  cases hb : (f n k s).1 with
  | false =>
    have E := HRr.out
    simp only [runF, hb] at E
    obtain rfl : (false, (f n k s).2) = R := by simpa using E
    clear E hb HRr
    go_wp2_with fail
    go_ret
    exact ⟨rfl, HD _ _ _ _ HI.out (Nat.le_add_right _ _), HK.out⟩
  | true =>
    have E := HRr.out
    simp only [runF, hb, if_true] at E
    generalize (f n k s).2 = s1 at *
    have HRr' := Lib.hid E
    clear E hb HRr
    have cN := rowc RN.out
    go_wp2_with fail
    clear cN
    go_loopw [17] (fun i wr => ∃ (j : Nat) (s' : σ), j ≤ len ∧ i = .int .i64 (j : Nat) ∧ Hid (runF f (preL (l.take j) (wrap64 (k + 1))) s1 = (true, s')) ∧ Inv (m + sizeL (l.drop j)) s' wr ∧ Kp B M w wr ∧ wr.heap[w.heap.size]? = some (.cells #[.int .i64 n.id, .string n.name, .int .i64 n.rep, .int .i64 n.kind, .slice ad len cp] 24 (0, 0))) (fun i _ => len - (intOf i).toNat)
    case atStart => exact ⟨0, s1, Nat.zero_le _, rfl, rfl, HI.out, HK.out, RN.out⟩
    case round =>
      obtain ⟨j, s', hj, rfl, HE, hi, hk, rN⟩ := hrel
      clear HI HK RN
      have HI := Lib.hid hi; have HK := Lib.hid hk; have RN := Lib.hid rN
      clear hi hk rN
      by_cases hlt : j < len
      · have hjl : j < l.length := by rw [HL.out]; exact hlt
        obtain ⟨b0, off, rfl, hPb, hb0, hat⟩ := (HN.out.belowP hP HK.out.below).at (by omega)
        obtain ⟨ux, hcx, hnx⟩ := hat j l[j] (List.getElem?_eq_getElem hjl)
        have hdr : sizeL (l.drop j) = size l[j] + sizeL (l.drop (j + 1)) := by rw [List.drop_eq_getElem_cons hjl]; rfl
        have HDR := Lib.hid hdr
        clear hdr
        have hsn : l.take (j + 1) = l.take j ++ [l[j]] := List.take_succ_eq_append_getElem hjl
        have hOx : ∀ y ∈ nodes l[j], y.Ok1 := fun y hy => HOs.out y (nodesL_mem (List.getElem_mem hjl) hy)
        have hIx := HIH.out l[j] (List.getElem_mem hjl)
        have hin : (j : Int) < (len : Int) := by omega
        have Hlt := Lib.hid hlt
        have HS1 := Lib.hid hsn
        generalize l[j] = x at *
        obtain ⟨ax, cx, rfl⟩ := hnx.form
        unfold NdAt ndA at hcx
        have hBz := Nat.le_trans hB HK.out.below.size
        have HNX := Lib.hid hnx; have HOX := Lib.hid hOx; have HIX := Lib.hid hIx; have HCX := Lib.hid hcx
        clear hat hjl hsn hnx hOx hIx hcx hPb
        have cN := rowc RN.out
        go_wp2_with (refine wpList_load_cells rfl 24 _ rfl b0 (off + j * 5) rfl #[.int .i64 x.id, .string x.name, .int .i64 x.rep, .int .i64 x.kind, .slice ax x.sub.length cx] _ HCX.out Tryz.underlying24 rfl nd_info ?_)
        have hw2 : Below wr.heap.size wr (wr.alloc (.cells #[.int .i64 x.id, .string x.name, .int .i64 x.rep, .int .i64 x.kind, .slice ax x.sub.length cx] 24)) := (Below.refl _ _).alloc (Nat.le_refl _) _
        refine (HIX.out (m + sizeL (l.drop (j + 1))) _ (wrap64 (k + 1)) s' _ (Nat.le_trans hBz hw2.size) (HA _ s' wr _ (HD _ _ _ _ HI.out (by have := HDR.out; omega)) hBz hw2) (HNX.out.belowP hP (hw2.mono hBz)) HOX.out).mono ?_
        rintro e w3 ⟨rfl, hi3, hk3⟩
        have hk2 : Kp B M wr w3 := (Kp.of_below hw2 hBz).trans hk3
        have rN := hk2.keep _ _ _ _ (.inl rfl) (hMB _ w hB (Nat.le_refl _)) RN.out
        have HK3 := Lib.hid (HK.out.trans hk2); have RN3 := Lib.hid rN; have HI3 := Lib.hid hi3
        have hst := run_step HE.out HS1.out
        clear hk3 hk2 rN hi3 HIX HNX HOX HCX cN HK HI RN
        cases hb : (runF f (pre x (wrap64 (k + 1))) s').1 with
        | false =>
          have E := HRr'.out
          rw [run_stop (i := j + 1) (by rw [hst]; exact hb), hst] at E
          subst E
          have HB := Lib.hid hb
          clear hst hb HRr'
          go_wp2_with fail
          go_ret
          exact ⟨by rw [HB.out]; rfl, HD _ _ _ _ HI3.out (Nat.le_add_right _ _), HK3.out⟩
        | true =>
          have HST := Lib.hid hst; have HB := Lib.hid hb
          clear hst hb
          go_wp2_with fail
          go_roundw
          case rel => exact ⟨j + 1, _, Hlt.out, by go_num, (HST.out.trans (Prod.ext HB.out rfl)), HI3.out, HK3.out, RN3.out⟩
          case measure => have := Hlt.out; simp [intOf]; omega
      · obtain rfl : j = len := by omega
        have E := HRr'.out
        have h0 := HE.out
        rw [List.take_of_length_le (Nat.le_of_eq HL.out)] at h0
        rw [h0] at E
        subst E
        clear h0 HRr'
        go_wp2_with fail
        go_ret
        exact ⟨rfl, HD _ _ _ _ HI.out (Nat.le_add_right _ _), HK.out⟩
end Go.Proofs.YthfljcpfcnddhaaGreatDoor
