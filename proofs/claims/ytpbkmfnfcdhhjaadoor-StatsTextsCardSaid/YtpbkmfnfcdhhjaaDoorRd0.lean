/- What the readers' walks share: rows of the call's own past other stores; one value appended. -/
import Derived.Test.YtpbkmfnfcdhhjaaDoorMEnc
import Derived.Test.YtpbkmfnfcdhhjaaDoorMPlain
import Derived.Test.YtpbkmfnfcdhhjaaDoorRead1
namespace Go.Proofs.YtpbkmfnfcdhhjaaDoor
set_option linter.unusedVariables false
open Go Go.RowKit Go.ChangeShapes

theorem bslice_form {w : World} {B n s : Nat} {e : TypeId} {v : Value} {xs : List Value} (h : w.ownsRow B e s v n xs) : ∃ ad cap, v = .slice ad n cap := by
  rcases h.2 with ⟨h1, h0⟩ | ⟨g, cap, cur, hv, _⟩
  · subst h0; exact ⟨none, 0, h1⟩
  · exact ⟨_, cap, hv⟩
theorem bown_below {w w' : World} {B n s : Nat} {e : TypeId} {v : Value} {xs : List Value} (h : w.ownsRow B e s v n xs) (hb : Below w.heap.size w w') : w'.ownsRow B e s v n xs := by
  refine ⟨h.1, ?_⟩
  rcases h.2 with h0 | ⟨g, cap, cur, hv, h1, h2, h3⟩
  · exact .inl h0
  · exact .inr ⟨g, cap, cur, hv, h1, (hb.block g (Array.getElem?_eq_some_iff.1 h2).1).trans h2, h3⟩
theorem bown_ne {w : World} {B s n b : Nat} {e T : TypeId} {v : Value} {xs : List Value} {cs : Array Value} {fr : Nat × Nat} (h : w.ownsRow B e s v n xs) (hb : w.heap[b]? = some (.cells cs T fr)) (he : T ≠ e) : v.ownBlock ≠ some b := by
  rcases h.2 with ⟨rfl, _⟩ | ⟨g, cap, cur, rfl, _, hg, _⟩
  · simp [Value.ownBlock]
  · intro hh
    simp only [Value.ownBlock, Option.some.injEq] at hh
    subst hh
    rw [hg] at hb
    injection hb with hb
    injection hb with _ h2 _
    exact he h2.symm
theorem bown_set {w : World} {B n s b q : Nat} {e T : TypeId} {v : Value} {xs : List Value} {cs : Array Value} (h : w.ownsRow B e s v n xs) (hb : w.heap[b]? = some (.cells cs T (0, 0))) (he : T ≠ e) (y : Value) :
    (w.setCell ⟨b, q, none⟩ y).ownsRow B e s v n xs :=
  h.kept (row := some b) ⟨rfl, rfl, rfl, by simp [World.setCell], fun k _ hk => Below.heap_setCell _ _ _ _ (fun e : k = b => hk (by rw [e]))⟩ (Or.inr (bown_ne h hb he))
theorem bown_set' {w : World} {B n s b q : Nat} {e T : TypeId} {v : Value} {xs : List Value} {cs : Array Value} (h : w.ownsRow B e s v n xs) (hb : w.heap[b]? = some (.cells cs T (0, 0))) (hn : v.ownBlock ≠ some b) (y : Value) :
    (w.setCell ⟨b, q, none⟩ y).ownsRow B e s v n xs :=
  h.kept (row := some b) ⟨rfl, rfl, rfl, by simp [World.setCell], fun k _ hk => Below.heap_setCell _ _ _ _ (fun e : k = b => hk (by rw [e]))⟩ (Or.inr hn)
theorem own_notlast {w : World} {B n s : Nat} {e : TypeId} {v : Value} {xs : List Value} (h : w.ownsRow B e s v n xs) : v.ownBlock ≠ some w.heap.size := fun hh => by
  have := (h.lt _ hh).2
  omega
theorem bext_list (s : ByteArray) (a : Nat) : (s.extract a s.size).data.toList = s.data.toList.drop a := by
  rw [ba_extract]
  simp only []
  rw [List.take_of_length_le (by simp)]

/-- what a reader of values hands back -/
def RdRet (ev : Value) (B : Nat) (r : Option (List Val)) (e : Ending) (w' : World) : Prop :=
  match r with
  | none => e = .returned (.tuple #[.slice none 0 0, ev])
  | some l => ∃ u, e = .returned (.tuple #[u, .nilIface]) ∧ w'.ownsRow B 29 3 u l.length (l.flatMap valCells)
theorem RdRet.bad {ev : Value} {B : Nat} {r : Option (List Val)} {w' : World} (h : r = none) : RdRet ev B r (.returned (.tuple #[.slice none 0 0, ev])) w' := by rw [h]; exact rfl
theorem RdRet.good {ev : Value} {B : Nat} {r : Option (List Val)} {l : List Val} {u : Value} {w' : World} (h : r = some l) (ho : w'.ownsRow B 29 3 u l.length (l.flatMap valCells)) : RdRet ev B r (.returned (.tuple #[u, .nilIface])) w' := by rw [h]; exact ⟨u, rfl, ho⟩

/-- append of one value to a row of the call's own -/
theorem wpList_pushVal {wr : World} {ops : Array Oper} {rest : List Oper} {o : Oper} {a : Act} {Q : Exit → Act → World → Prop} (hg : o.guard = none) (s x : Operand)
    (ho : o.op = .call { callee := .builtin .append, args := #[s, x], argTypes := #[25, 25] })
    (base : Nat) (v : Value) (l : List Val) (hs : a.eval s = v) (hown : wr.ownsRow base 29 3 v l.length (l.flatMap valCells)) (e' : TypeId) (g : Nat) (hx : a.eval x = .slice (some ⟨g, 0, none⟩) 1 1) (hgs : g = wr.heap.size)
    (hl : l.length ≤ 20000) (hbase : base ≤ wr.heap.size) (y : Val) (cs : Array Value) (hcs : cs = valA y)
    (h : ∀ v' w', w'.ownsRow base 29 3 v' (l ++ [y]).length ((l ++ [y]).flatMap valCells) → (wr.alloc (.cells cs e')).grownBy w' v.ownBlock → Below base wr w' → wpList Tryd.prog ops Q rest (a.put o.dst v') w') :
    wpList Tryd.prog ops Q (o :: rest) a (wr.alloc (.cells cs e')) := by
  subst hgs hcs
  obtain ⟨i0, hi, hz0, hz1, hz2⟩ := val_infoB
  refine wpList_append_own _ hg s x _ ho base 29 i0 _ 3 32 Tryd.underlying25 hi hz0 hz1 hz2 rfl (by omega) v l.length (l.flatMap valCells) hs (hown.alloc _) ⟨wr.heap.size, 0, none⟩ 1 1 (valCells y) hx rfl ?_ ?_ (by unfold maxLen; omega) (by omega) (by simp; omega) ?_
  · intro j u hj
    rw [Go.WideShapes.add_plain, World.cell?_alloc_at _ _ _ _ rfl, Nat.zero_add]
    match j, hj with
    | 0, hj => simp [valCells] at hj; subst hj; rfl
    | 1, hj => simp [valCells] at hj; subst hj; rfl
    | 2, hj => simp [valCells] at hj; subst hj; rfl
    | j + 3, hj => simp [valCells] at hj
  · intro u hu
    simp only [valCells, List.mem_cons, List.not_mem_nil, or_false] at hu
    rcases hu with rfl | rfl | rfl <;> rfl
  · intro v' w' h1 h2 h3
    refine h v' w' (by simpa using h1) h2 ?_
    exact (((Below.refl base wr).alloc hbase _).grown h2 (by simp; omega) (fun k hk => (hown.lt k hk).1))
end Go.Proofs.YtpbkmfnfcdhhjaaDoor
