/- The walks of schema.all and of the first closures of schema.Valid. -/
import Derived.Test.YthfljcpfcnddhaaGreatDoorTw0
import Derived.Deep.RegionHeld3
import Derived.BigQuiet
import Derived.Deep.DeepCutAuto
import Derived.Shelf.Abstract
namespace Go.Proofs.YthfljcpfcnddhaaGreatDoor
set_option linter.unusedVariables false
set_option linter.unusedSimpArgs false
open Go Go.RowKit Go.ChangeShapes

/-- a variable of Valid's: how many nodes -/
def ManyAt (b : Nat) (s : Int) (w : World) : Prop := w.heap[b]? = some (.cells #[.int .i64 s] 3 (0, 0))

theorem Kp.setCell {B : Nat} {M : Nat → Prop} {a w : World} {b : Nat} {cs : Array Value} {T : TypeId} {o : Nat} {y : Value} (h : Kp B M a w) (hb : B ≤ b) (hT : T ≠ 24 ∧ T ≠ 31) (hI : w.heap[b]? = some (.cells cs T (0, 0))) : Kp B M a (w.setCell ⟨b, o, none⟩ y) := by
  refine h.trans ⟨(Below.refl _ _).setCell hb _, fun g cs' T' fz hT' _ hg => ?_⟩
  have hne : g ≠ b := by
    rintro rfl
    rw [hI] at hg
    injection hg with hg
    injection hg with e1 e2
    subst e2
    rcases hT' with h | h
    · exact hT.1 h
    · exact hT.2 h
  exact (heap_setCell_other w ⟨b, o, none⟩ g y hne).trans hg

set_option maxRecDepth 100000 in
set_option maxHeartbeats 4000000 in
theorem valid1_any (B : Nat) (P : Nat → Prop) (b : Nat) (hb : B ≤ b) : SeeAt B P (fun _ => False) (fun _ => ManyAt b) cntF 65 #[.pointer (some ⟨b, 0, none⟩)] := by
  intro m n u k s w hB hI hN hO
  obtain ⟨ad, cp, rfl⟩ := hN.form
  unfold ManyAt at hI
  have HI0 := Lib.hid hI
  clear hI hO hN
  unfold ndA at *
  go_enter Tryz.func65, Tryz.ntmps65
  go_upto_region 1 with fail
  have hw : Below w.heap.size w (w.alloc (.cells #[.int .i64 n.id, .string n.name, .int .i64 n.rep, .int .i64 n.kind, .slice ad n.sub.length cp] 24)) := (Below.refl _ _).alloc (Nat.le_refl _) _
  have HK := Lib.hid (Kp.of_below (B := B) (M := fun _ => False) hw hB)
  have hI2 := row_keep hw HI0.out
  clear HI0 hw
  generalize (w.alloc (.cells #[.int .i64 n.id, .string n.name, .int .i64 n.rep, .int .i64 n.kind, .slice ad n.sub.length cp] 24)) = w1 at *
  have HI := Lib.hid hI2
  have c1 := rowc hI2; have f1 := rowf hI2
  clear hI2
  by_cases h1 : wrap64 (s + 1) ≤ 40
  · have d1 : decide (wrap64 (s + 1) ≤ 40) = true := decide_eq_true h1
    go_wp2_with fail
    go_ret
    refine ⟨?_, by rw [ManyAt, heap_setCell_same _ _ _ _ _ _ HI.out]; rfl, HK.out.setCell hb ⟨by decide, by decide⟩ HI.out⟩
    simp [cntF, h1]
  · have d1 : decide (wrap64 (s + 1) ≤ 40) = false := decide_eq_false h1
    go_wp2_with fail
    go_ret
    refine ⟨?_, by rw [ManyAt, heap_setCell_same _ _ _ _ _ _ HI.out]; rfl, HK.out.setCell hb ⟨by decide, by decide⟩ HI.out⟩
    show _ = Ending.returned (.bool (decide (wrap64 (s + 1) ≤ 40) && decide (k ≤ 6)))
    rw [decide_eq_false (by omega)]; rfl

/-- what 'all' shows each node below the root to -/
def allF {σ : Type} (p : Nd → σ → Bool × σ) (n : Nd) (k : Int) (s : σ) : Bool × σ := if k = 0 then (true, s) else p n s
/-- a function value of a node by its contract -/
def OkAt (B : Nat) (P M : Nat → Prop) {σ : Type} (Inv : Nat → σ → World → Prop) (p : Nd → σ → Bool × σ) (g : Nat) (lb : Array Value) : Prop :=
  ∀ (m : Nat) (n : Nd) (u : Value) (s : σ) (w : World), B ≤ w.heap.size → Inv (m + 1) s w → IsNds P w u n.sub → (∀ x ∈ nodes n, x.Ok1) →
    Calls Tryz.prog g (#[.agg (ndA n u)] ++ lb) w fun e w' => e = .returned (.bool (p n s).1) ∧ Inv m (p n s).2 w' ∧ Kp B M w w'
/-- .. with the variable that holds it -/
def WithOk {σ : Type} (Inv : Nat → σ → World → Prop) (o g : Nat) (lb : Array Value) (m : Nat) (s : σ) (w : World) : Prop := Inv m s w ∧ w.heap[o]? = some (.cells #[.func (.func g) #[] lb] 31 (0, 0))

set_option maxRecDepth 100000 in
set_option maxHeartbeats 4000000 in
theorem all1_any {σ : Type} (B : Nat) (P M : Nat → Prop) (Inv : Nat → σ → World → Prop) (p : Nd → σ → Bool × σ) (g : Nat) (lb : Array Value) (o : Nat) (ho : B ≤ o) (hMo : ¬ M o) (hP : ∀ b, P b → b < B)
    (eg : ∀ args w, (callFunc g args).run Tryz.prog w = .ok (.enter g args) w)
    (HA : ∀ m s w w', Inv m s w → B ≤ w.heap.size → Below w.heap.size w w' → Inv m s w') (HD : ∀ m m' s w, Inv m s w → m' ≤ m → Inv m' s w) (HS : OkAt B P M Inv p g lb) :
    SeeAt B P M (WithOk Inv o g lb) (allF p) 103 #[.pointer (some ⟨o, 0, none⟩)] := by
  intro m n u k s w hB hI hN hO
  obtain ⟨hI, hro⟩ := hI
  have HC := Lib.hid (fun (w1 : World) (hw : Below w.heap.size w w1) => HS m n u s w1 (Nat.le_trans hB hw.size) (HA _ s w w1 hI hB hw) (hN.belowP hP (hw.mono hB)) hO)
  obtain ⟨ad, cp, rfl⟩ := hN.form
  have hw : Below w.heap.size w (w.alloc (.cells #[.int .i64 n.id, .string n.name, .int .i64 n.rep, .int .i64 n.kind, .slice ad n.sub.length cp] 24)) := (Below.refl _ _).alloc (Nat.le_refl _) _
  have HW := Lib.hid hw; have HR := Lib.hid hro; have HI := Lib.hid hI
  clear hw hro hI hN hO
  unfold ndA at *
  go_enter Tryz.func103, Tryz.ntmps103
  go_upto_region 1 with fail
  have hI2 := row_keep HW.out HR.out
  have hrw := heap_alloc_new w (.cells #[.int .i64 n.id, .string n.name, .int .i64 n.rep, .int .i64 n.kind, .slice ad n.sub.length cp] 24)
  have HK := Lib.hid (Kp.of_below (B := B) (M := M) HW.out hB)
  have HI1 := Lib.hid (HD _ m _ _ (HA _ s w _ HI.out hB HW.out) (Nat.le_succ _))
  generalize (w.alloc (.cells #[.int .i64 n.id, .string n.name, .int .i64 n.rep, .int .i64 n.kind, .slice ad n.sub.length cp] 24)) = w1 at *
  have RO := Lib.hid hI2
  have c1 := rowc hI2; have c2 := rowc hrw
  clear hI2 hrw HR
  by_cases hk : k = 0
  · have hkd : ((k : Int) == 0) = true := by simpa using hk
    go_wp2_with fail
    go_ret
    simp only [allF, if_pos hk]
    exact ⟨rfl, ⟨HI1.out, RO.out⟩, HK.out⟩
  · have hkd : ((k : Int) == 0) = false := by simpa using hk
    go_wp2_with fail
    refine (HC.out _ HW.out).mono ?_; rintro e w3 ⟨rfl, hi3, hk3⟩
    have HK3 := Lib.hid (HK.out.trans hk3); have HI3 := Lib.hid hi3; have RO3 := Lib.hid (hk3.keep _ _ _ _ (.inr rfl) hMo RO.out)
    have HN := Lib.hid hk
    clear hk3 hi3 c1 c2 hk
    go_wp2_with fail
    go_ret
    simp only [allF, if_neg HN.out]
    exact ⟨rfl, ⟨HI3.out, RO3.out⟩, HK3.out⟩
set_option maxRecDepth 100000 in
set_option maxHeartbeats 4000000 in
theorem all_any {σ : Type} (B : Nat) (P M : Nat → Prop) (Inv : Nat → σ → World → Prop) (p : Nd → σ → Bool × σ) (g : Nat) (lb : Array Value) (hP : ∀ b, P b → b < B) (hMB : ∀ (b : Nat) (w : World), B ≤ w.heap.size → w.heap.size ≤ b → ¬ M b)
    (eg : ∀ args w, (callFunc g args).run Tryz.prog w = .ok (.enter g args) w)
    (HA : ∀ m s w w', Inv m s w → B ≤ w.heap.size → Below w.heap.size w w' → Inv m s w') (HD : ∀ m m' s w, Inv m s w → m' ≤ m → Inv m' s w) (HS : OkAt B P M Inv p g lb)
    (m : Nat) (n : Nd) (u : Value) (s : σ) (w : World) (hB : B ≤ w.heap.size) (hI : Inv (m + size n) s w) (hN : IsNds P w u n.sub) (hO : ∀ x ∈ nodes n, x.Ok1) :
    Calls Tryz.prog 67 #[.agg (ndA n u), .func (.func g) #[] lb] w fun e w' => e = .returned (.bool (runF (allF p) (pre n 0) s).1) ∧ Inv m (runF (allF p) (pre n 0) s).2 w' ∧ Kp B M w w' := by
  have hw : Below w.heap.size w ((w.alloc (.cells (ndA n u) 24)).alloc (.cells #[.func (.func g) #[] lb] 31)) := ((Below.refl _ _).alloc (Nat.le_refl _) _).alloc (by simp) _
  have hro : ((w.alloc (.cells (ndA n u) 24)).alloc (.cells #[.func (.func g) #[] lb] 31)).heap[w.heap.size + 1]? = some (.cells #[.func (.func g) #[] lb] 31 (0, 0)) := by
    simpa using heap_alloc_new (w.alloc (.cells (ndA n u) 24)) (.cells #[.func (.func g) #[] lb] 31)
  have hMo : ¬ M (w.heap.size + 1) := hMB _ w hB (by omega)
  have e1 : ∀ args w, (callFunc 103 args).run Tryz.prog w = .ok (.enter 103 args) w := enters_of Tryz.func103 (by kernel_rfl) rfl
  have hc := walk_any B P M (WithOk Inv (w.heap.size + 1) g lb) (allF p) 103 #[.pointer (some ⟨w.heap.size + 1, 0, none⟩)] e1 hP hMB
    (fun m s w1 w2 ⟨h1, h2⟩ hB' hb => ⟨HA m s w1 w2 h1 hB' hb, row_keep hb h2⟩) (fun m m' s w ⟨h1, h2⟩ hm => ⟨HD m m' s w h1 hm, h2⟩)
    (all1_any B P M Inv p g lb (w.heap.size + 1) (by omega) hMo hP eg HA HD HS) n m u 0 s _ (Nat.le_trans hB hw.size) ⟨HA _ s w _ hI hB hw, hro⟩ (hN.belowP hP (hw.mono hB)) hO
  obtain ⟨ad, cp, rfl⟩ := hN.form
  have HW := Lib.hid hw; have HC := Lib.hid hc
  clear hw hro hI hN hO hc e1
  unfold ndA at *
  go_enter Tryz.func67, Tryz.ntmps67
  go_wp2_with fail
  refine HC.out.mono ?_; rintro e w3 ⟨rfl, ⟨hi3, -⟩, hk3⟩
  have HK3 := Lib.hid ((Kp.of_below (B := B) (M := M) HW.out hB).trans hk3); have HI3 := Lib.hid hi3
  clear hk3 hi3
  go_wp2_with fail
  go_ret
  exact ⟨rfl, HI3.out, HK3.out⟩
end Go.Proofs.YthfljcpfcnddhaaGreatDoor
