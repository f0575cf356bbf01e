/- Records in memory. -/
import Derived.Test.YthfljcpfcnddhaaGreatDoorTw0
import Derived.Test.YthfljcpfcnddhaaGreatDoorDt0
namespace Go.Proofs.YthfljcpfcnddhaaGreatDoor
set_option linter.unusedVariables false
set_option linter.unusedSimpArgs false
open Go Go.RowKit Go.ChangeShapes

/-- a datum's cells; ul, uf: its elements, its fields -/
def dtA (d : Dt) (ul uf : Value) : Array Value := #[.bool d.no, .int .i64 d.v.k, .int .i64 d.v.n, .string d.v.s, ul, uf]
def DtAt (w : World) (b o : Nat) (d : Dt) (ul uf : Value) : Prop := ∀ j v, (dtA d ul uf)[j]? = some v → w.cell? ⟨b, o + j, none⟩ = some v
/-- v is a slice of these datums, in blocks that are so -/
inductive IsDts (P : Nat → Prop) (w : World) : Value → List Dt → Prop
  | nil (ad : Option Addr) (cap : Nat) : IsDts P w (.slice ad 0 cap) []
  | row (b off cap : Nat) (l : List Dt) (S T : Nat → Value) (hP : P b) (hb : b < w.heap.size) (hc : ∀ j d, l[j]? = some d → DtAt w b (off + j * 6) d (S j) (T j))
      (hs : ∀ j d, l[j]? = some d → IsDts P w (S j) d.l) (ht : ∀ j d, l[j]? = some d → IsDts P w (T j) d.f) :
      IsDts P w (.slice (some ⟨b, off, none⟩) l.length cap) l
theorem IsDts.form {P : Nat → Prop} {w : World} {v : Value} {l : List Dt} (h : IsDts P w v l) : ∃ ad cap, v = .slice ad l.length cap := by
  cases h with
  | nil ad cap => exact ⟨ad, cap, rfl⟩
  | row b off cap l S T => exact ⟨_, cap, rfl⟩
theorem IsDts.at {P : Nat → Prop} {w : World} {ad : Option Addr} {n cap : Nat} {l : List Dt} (h : IsDts P w (.slice ad n cap) l) (hl : 0 < l.length) :
    ∃ b off, ad = some ⟨b, off, none⟩ ∧ P b ∧ b < w.heap.size ∧ ∀ j x, l[j]? = some x → ∃ u t, DtAt w b (off + j * 6) x u t ∧ IsDts P w u x.l ∧ IsDts P w t x.f := by
  generalize hv : Value.slice ad n cap = v at h
  cases h with
  | nil ad' cap' => simp at hl
  | row b off cap' l S T hP hb hc hs ht =>
    injection hv with e1 e2 e3
    exact ⟨b, off, e1, hP, hb, fun j x hj => ⟨S j, T j, hc j x hj, hs j x hj, ht j x hj⟩⟩
theorem IsDts.one {P : Nat → Prop} {w : World} {v : Value} {l : List Dt} (h : IsDts P w v l) : v.oneCell' = true := by
  obtain ⟨ad, cap, rfl⟩ := h.form; rfl
theorem IsDts.keep {P : Nat → Prop} {w w' : World} {v : Value} {l : List Dt} (h : IsDts P w v l) (hz : w.heap.size ≤ w'.heap.size) (hk : ∀ b, P b → b < w.heap.size → w'.heap[b]? = w.heap[b]?) : IsDts P w' v l := by
  induction h with
  | nil ad cap => exact .nil ad cap
  | row b off cap l S T hP hb hc hs ht ih ih2 =>
    refine .row b off cap l S T hP (by omega) (fun j n hj k x hx => ?_) ih ih2
    rw [World.cell?_of_block (w := w) (hk b hP hb)]
    exact hc j n hj k x hx
theorem IsDts.mono {P Q : Nat → Prop} {w : World} {v : Value} {l : List Dt} (h : IsDts P w v l) (hPQ : ∀ b, P b → b < w.heap.size → Q b) : IsDts Q w v l := by
  induction h with
  | nil ad cap => exact .nil ad cap
  | row b off cap l S T hP hb hc hs ht ih ih2 => exact .row b off cap l S T (hPQ b hP hb) hb hc ih ih2
theorem IsDts.under {B : Nat} {w w' : World} {v : Value} {l : List Dt} (h : IsDts (· < B) w v l) (hb : Below B w w') : IsDts (· < B) w' v l := h.keep hb.size fun b hP _ => hb.block b hP
theorem IsDts.belowP {B : Nat} {P : Nat → Prop} {w w' : World} {v : Value} {l : List Dt} (h : IsDts P w v l) (hP : ∀ b, P b → b < B) (hb : Below B w w') : IsDts P w' v l := h.keep hb.size fun b hp _ => hb.block b (hP b hp)
mutual
/-- a datum and all in it -/
def dts : Dt → List Dt
  | .mk a v l f => .mk a v l f :: (dtsL l ++ dtsL f)
def dtsL : List Dt → List Dt
  | [] => []
  | x :: r => dts x ++ dtsL r
end
theorem dts_eq (d : Dt) : dts d = d :: (dtsL d.l ++ dtsL d.f) := by cases d; simp only [dts]; rfl
theorem dtsL_mem {x y : Dt} {l : List Dt} (hx : x ∈ l) (hy : y ∈ dts x) : y ∈ dtsL l := by
  induction l with
  | nil => cases hx
  | cons a r ih =>
    simp only [dtsL]
    rcases List.mem_cons.1 hx with rfl | hx
    · exact List.mem_append_left _ hy
    · exact List.mem_append_right _ (ih hx)
theorem mem_dtsL {x : Dt} : ∀ {l : List Dt}, x ∈ dtsL l → ∃ y ∈ l, x ∈ dts y
  | [], h => by simp [dtsL] at h
  | a :: r, h => by
    simp only [dtsL] at h
    rcases List.mem_append.1 h with h | h
    · exact ⟨a, List.mem_cons_self .., h⟩
    · obtain ⟨y, hy, h2⟩ := mem_dtsL h
      exact ⟨y, List.mem_cons_of_mem _ hy, h2⟩
/-- a datum that Go can hold -/
structure Dt.Ok1 (d : Dt) : Prop where
  v : d.v.Ok
  l : d.l.length * 88 ≤ 140737488355328
  f : d.f.length * 88 ≤ 140737488355328
theorem dt_info : (Tryz.prog.info? 29).map (·.size) = some 6 := by kernel_rfl
end Go.Proofs.YthfljcpfcnddhaaGreatDoor
