/- Merged texts: Errs, Is, As, Code, Env, ErrsAt. -/
import Derived.Test.YtaebhilgmmfalaaDoorMPlain
import Derived.Test.YtaebhilgmmfalaaDoorRows
import Derived.LaidLaws
import Derived.LaidHandle
import Derived.Stop.LaidErr
import Derived.LaidEql
import Derived.Stop.Asserts
import Derived.RowKitTokens
import Derived.Deep.QuietTactic
import Derived.BigQuiet

/- What the listed package-level variables give a walk: each sentinel's variable holds a pointer of its own. -/
namespace Go.Proofs.YtaebhilgmmfalaaDoor
open Go Go.RowKit Go.ChangeShapes

/-- each variable of the list gs holds the pointer that stands at its place in the list; behind it lies a block of cells -/
def SentsAt (T : TypeId) (W : World) : List Nat → List Addr → Prop
  | [], [] => True
  | g :: gs, a :: ads => W.cell? ⟨g, 0, none⟩ = some (.iface T (.pointer (some a))) ∧ (∃ c t, W.heap[a.block]? = some (.cells c t (0, 0))) ∧ SentsAt T W gs ads
  | _, _ => False

theorem sents_of_vars {P : Program} {W : World} {nm : String} {ti tp te ts : TypeId} {ms : Array (String × TypeId)} {f : Field}
    (hi : P.underlying ti = some (.interface ms)) (hrow : ∀ u, P.typeName? 3 u = some nm → u = tp)
    (hp : P.underlying tp = some (.pointer te)) (he : P.underlying te = some (.struct #[f])) (hft : f.type = ts) (hfo : f.offset = 0) (hs : P.underlying ts = some .string) (hc : P.cellsOf te = 1) (hcs : P.cellsOf ts = 1) :
    ∀ (l : List (String × List UInt8 × Nat)) (ps : List MemPlace), (∀ x ∈ l, P.globalNamed x.1 = some x.2.2 ∧ (P.globals[x.2.2]?).map (·.type) = some ti) →
      DataW.LaidVars P W (l.map fun x => (x.1, .iface nm (.ptr (.agg [.lit (.string x.2.1)])))) ps →
      (∀ b off, MemPlace.cell b off ∈ ps → (∃ c t, W.heap[b]? = some (.cells c t (0, 0))) ∧ ∀ u v, W.cell? ⟨b, off, none⟩ = some (.iface u v) → Value.okWide P W .any 0 u v) →
      ∃ ads, SentsAt tp W (l.map (·.2.2)) ads ∧ (∀ a ∈ ads, MemPlace.cell a.block a.off ∈ ps) ∧ (ps.Nodup → ads.Nodup) := by
  intro l
  induction l with
  | nil => intro ps _ _ _; exact ⟨[], trivial, by simp, by simp⟩
  | cons x l ih =>
    intro ps hx hv hrows
    obtain ⟨n, text, g⟩ := x
    obtain ⟨hg, ht⟩ := hx _ (List.mem_cons_self ..)
    obtain ⟨g0, t0, cs0, f0, p0, q0, hg0, ht0, hv0, hd0, hq, e0⟩ := hv
    obtain rfl := Option.some.inj (hg.symm.trans hg0)
    obtain rfl := Option.some.inj (ht.symm.trans ht0)
    subst e0
    obtain ⟨l0⟩ := cs0
    have ok0 : ∀ u v, l0 = [.iface u v] → Value.okWide P W .any 0 u v := fun u v e => by
      subst e
      exact (hrows g 0 (by simp [MemPlace.row])).2 u v (by simpa using World.var?_cell hg0 hv0 0)
    obtain ⟨a0, s0, rfl, hc0, hs0, hz0, rfl⟩ := errorString_of_trod hi hrow hp he hft hfo hs hc hcs hd0 ok0
    obtain ⟨ads, h1, h2, h3⟩ := ih q0 (fun y hy => hx y (List.mem_cons_of_mem _ hy)) hq (fun b off hm => hrows b off (List.mem_append_right _ hm))
    refine ⟨a0 :: ads, ⟨?_, ?_, h1⟩, ?_, ?_⟩
    · simpa using World.var?_cell hg0 hv0 0
    · exact (hrows a0.block a0.off (by simp [MemPlace.row])).1
    · intro a ha
      rcases List.mem_cons.1 ha with rfl | ha
      · simp [MemPlace.row]
      · exact List.mem_append_right _ (h2 a ha)
    · intro hnd
      rw [List.nodup_append] at hnd
      refine List.nodup_cons.2 ⟨fun hm => ?_, h3 hnd.2.1⟩
      exact hnd.2.2 _ (by simp [MemPlace.row]) _ (h2 a0 hm) rfl

theorem SentsAt.below {T : TypeId} {w w' : World} (hb : Below w.heap.size w w') : ∀ {gs ads}, SentsAt T w gs ads → SentsAt T w' gs ads
  | [], [], _ => trivial
  | _ :: _, _ :: _, ⟨h1, ⟨c, t, h2⟩, h3⟩ => ⟨(hb.cell (block_lt_of_cell h1)).trans h1, ⟨c, t, (hb.block _ (Array.getElem?_eq_some_iff.1 h2).1).trans h2⟩, h3.below hb⟩
  | [], _ :: _, h => h.elim
  | _ :: _, [], h => h.elim

theorem sentTypeRow : ∀ u, Tryd.prog.typeName? 3 u = some "*errors.errorString" → u = 141 := fun u h =>
  typeName_ptr_named (nm := "errors.errorString") (by rw [show "*" ++ "errors.errorString" = "*errors.errorString" by rfl]; kernel_rfl) (by kernel_rfl) (by decide) u (by rw [show "*" ++ "errors.errorString" = "*errors.errorString" by rfl]; exact h)
theorem cellsES : Tryd.prog.cellsOf 155 = 1 := by kernel_rfl
theorem cellsS : Tryd.prog.cellsOf 9 = 1 := by kernel_rfl

/-- the condition on a list of sentinels, opened -/
theorem sents_of_laid {W : World} (l : List (String × List UInt8 × Nat)) (hl : ∀ x ∈ l, Tryd.prog.globalNamed x.1 = some x.2.2 ∧ (Tryd.prog.globals[x.2.2]?).map (·.type) = some 32)
    (h : laidMet Tryd.prog (l.map fun x => (x.1, .iface "*errors.errorString" (.ptr (.agg [.lit (.string x.2.1)])))) W) :
    ∃ ads, SentsAt 141 W (l.map (·.2.2)) ads ∧ ads.Nodup := by
  obtain ⟨ps, hv, hnd, hrows⟩ := h
  obtain ⟨ads, h1, _, h3⟩ := sents_of_vars Tryd.underlying32 sentTypeRow Tryd.underlying141 Tryd.underlying155 rfl rfl Tryd.underlying9 cellsES cellsS l ps hl hv hrows
  exact ⟨ads, h1, h3 hnd⟩
end Go.Proofs.YtaebhilgmmfalaaDoor

/- errors.As at a *api.Fault and errors.Is at a sentinel, by their contracts: Go's own text of both is walked. -/
namespace Go.Proofs.YtaebhilgmmfalaaDoor
open Go Go.RowKit Go.Extern.Stop Go.Stop Go.Extern

/-! closed facts on the model's entries for internal/reflectlite at this program's types -/
theorem is_Comp : (Tryd.prog.info? 141).map (·.comparable) = some true := by kernel_rfl
theorem is_Size : (Tryd.prog.info? 155).map (·.size) = some 1 := by kernel_rfl
/-- (rtype).Comparable, as the model has it -/
def cmpE : Array Value → Sem Value := Extern.ReflectliteType.method fun t => do Extern.Rtype.noPackHeld "Comparable" t; pure (.bool (← typeInfo t).comparable)
theorem is_Comparable (w : World) : (cmpE #[.agg #[.pointer (some ⟨5, 141, none⟩)]]).run Tryd.prog w = .ok (.bool true) w := by kernel_rfl

end Go.Proofs.YtaebhilgmmfalaaDoor

/- errors.As at a *api.Fault, by its contracts: Go's own text is walked. -/
namespace Go.Proofs.YtaebhilgmmfalaaDoor
open Go Go.RowKit Go.Extern.Stop Go.Stop Go.Extern

theorem as_kindP (w : World) : ((ReflectliteType.abiMethod fun t => (fun a : Nat => Value.int IntKind.u8 (a : Int)) <$> Rtype.kind t) #[.pointer (some ⟨5, 67, none⟩)]).run Tryd.prog w = .ok (.int .u8 22) w := by kernel_rfl

theorem as_rlm (z : Sem Value) (f : TypeId → Addr → Nat → Nat → Sem Value) (v : Value) :
    ReflectliteValue.method z f #[v] = (do match ← ReflectliteValue.parts v with | none => z | some (t, a, fl) => f t a fl (fl % 32)) := rfl
theorem as_valueOfP (e : Addr) (w : World) : (ReflectliteValue.unpack (.iface 67 (.pointer (some e)))).run Tryd.prog w
    = .ok (.agg #[.pointer (some ⟨5, 67, none⟩), .pointer (some ⟨w.heap.size, 0, none⟩), .int .u64 150]) (w.alloc (.cells #[.pointer (some e)] 67)) := by kernel_rfl
theorem as_mkP (p : Addr) (w : World) : (ReflectliteValue.mk 67 p ReflectliteValue.flagAddr).run Tryd.prog w = .ok (.agg #[.pointer (some ⟨5, 67, none⟩), .pointer (some p), .int .u64 406]) w := by kernel_rfl
theorem as_rls (v x : Value) : ReflectliteValue.set #[v, x] = (do
    let (some (dst, a, fl), some (src, b, _)) := (← ReflectliteValue.parts v, ← ReflectliteValue.parts x)
      | unsupported (.noEntry "extern/(internal/reflectlite.Value).Set.zeroValue")
    if fl / ReflectliteValue.flagAddr % 2 == 0 then unsupported (.noEntry "extern/(internal/reflectlite.Value).Set.unaddressable")
    let val ← loadVar src b
    if ← Rtype.directlyAssignable dst src then storeVar dst a val
    else if ← Rtype.implements dst src then
      if (← Rtype.kind src) == 20 then
        match val with
        | .nilIface => unsupported (.noEntry "extern/reflectlite: a nil value of one interface type handed on as a value of another")
        | _ => storeVar dst a val
      else storeVar dst a (.iface src val)
    else panicString ("reflectlite.Set: value of type " ++ (← Rtype.spelt src) ++ " is not assignable to type " ++ (← Rtype.spelt dst))
    pure (.tuple #[])) := rfl
theorem as_partsPa (a : Addr) (w : World) : (ReflectliteValue.parts (.agg #[.pointer (some ⟨5, 67, none⟩), .pointer (some a), .int .u64 406])).run Tryd.prog w = .ok (some (67, a, 406)) w := by kernel_rfl
theorem as_partsP (a : Addr) (w : World) : (ReflectliteValue.parts (.agg #[.pointer (some ⟨5, 67, none⟩), .pointer (some a), .int .u64 150])).run Tryd.prog w = .ok (some (67, a, 150)) w := by kernel_rfl
theorem as_direct (w : World) : (Rtype.directlyAssignable 67 67).run Tryd.prog w = .ok true w := by kernel_rfl
theorem as_size (w : World) : (sizeOf 67).run Tryd.prog w = .ok 1 w := by kernel_rfl
theorem as_set (ta b e : Addr) (old : Value) (W : World) (hb : W.cell? b = some (.pointer (some e))) (ht : W.cell? ta = some old) (hf : W.frozen? ta = false) :
    (ReflectliteValue.set #[.agg #[.pointer (some ⟨5, 67, none⟩), .pointer (some ta), .int .u64 406], .agg #[.pointer (some ⟨5, 67, none⟩), .pointer (some b), .int .u64 150]]).run Tryd.prog W
      = .ok (.tuple #[]) (W.setCell ta (.pointer (some e))) := by
  rw [as_rls]
  simp only [Sem.run_bind, as_partsPa, as_partsP, Result.andThen]
  simp [ReflectliteValue.flagAddr, loadVar, isAgg, underlying, Tryd.underlying67, hb, Result.andThen, as_direct, storeVar, Value.cells, storeCells, Addr.add]
  rw [run_store Tryd.prog W ta _ _ (by rfl)]
  simp [ht, hf]

end Go.Proofs.YtaebhilgmmfalaaDoor

/- plain.Code and the errors of package api: what stands for an error, and the number that Code tells of it. -/
namespace Go.Proofs.YtaebhilgmmfalaaDoor
open Go Go.RowKit Go.ChangeShapes

/-- the number of the variable of error k -/
def gErr : Nat → Nat
  | 1 => 1
  | 2 => 4
  | 3 => 0
  | 4 => 2
  | 5 => 999999
  | 6 => 999999
  | 7 => 3
  | _ => 999999

/-- an error: none; error k; error k with a place -/
inductive GErr where
  | nil
  | sent (k : Nat)
  | fault (k : Nat) (at_ : Int)
/-- v stands for it -/
def IsErr (w : World) (adr : Nat → Addr) : GErr → Value → Prop
  | .nil, v => v = .nilIface
  | .sent k, v => 1 ≤ k ∧ k ≤ 8 ∧ v = .iface 141 (.pointer (some (adr k)))
  | .fault k p, v => 1 ≤ k ∧ k ≤ 8 ∧ ∃ b, v = .iface 67 (.pointer (some ⟨b, 0, none⟩)) ∧ w.cell? ⟨b, 0, none⟩ = some (.int .i64 p) ∧ w.cell? ⟨b, 1, none⟩ = some (.iface 141 (.pointer (some (adr k))))
theorem IsErr.below {w w' : World} {adr : Nat → Addr} {e : GErr} {v : Value} (h : IsErr w adr e v) (hb : Below w.heap.size w w') : IsErr w' adr e v := by
  cases e with
  | nil => exact h
  | sent k => exact h
  | fault k p =>
    obtain ⟨h1, h2, b, h3, h4, h5⟩ := h
    exact ⟨h1, h2, b, h3, (hb.cell (block_lt_of_cell h4)).trans h4, (hb.cell (block_lt_of_cell h5)).trans h5⟩

/-- what Code tells -/
def GErr.code : GErr → Int
  | .nil => 0
  | .sent k => k
  | .fault k _ => k
def GErr.at' : GErr → Int
  | .nil => -1
  | .sent _ => -1
  | .fault _ p => p

end Go.Proofs.YtaebhilgmmfalaaDoor

/- From the row's list of variables to the errors' environment of the walks. -/
namespace Go.Proofs.YtaebhilgmmfalaaDoor
open Go Go.RowKit Go.ChangeShapes

def errText : Nat → List UInt8
  | 1 => [115, 104, 114, 101, 100, 99, 111, 108, 58, 32, 116, 101, 120, 116]
  | 2 => [115, 104, 114, 101, 100, 99, 111, 108, 58, 32, 98, 111, 117, 110, 100]
  | 3 => [115, 104, 114, 101, 100, 99, 111, 108, 58, 32, 115, 104, 97, 112, 101]
  | 4 => [115, 104, 114, 101, 100, 99, 111, 108, 58, 32, 107, 105, 110, 100]
  | 5 => [115, 104, 114, 101, 100, 99, 111, 108, 58, 32, 110, 97, 109, 101]
  | 6 => [115, 104, 114, 101, 100, 99, 111, 108, 58, 32, 110, 111, 110, 101]
  | 7 => [115, 104, 114, 101, 100, 99, 111, 108, 58, 32, 115, 117, 109]
  | _ => [115, 104, 114, 101, 100, 99, 111, 108, 58, 32, 115, 112, 97, 99, 101]
def errName : Nat → String
  | 1 => "shredcol/api.ErrText"
  | 2 => "shredcol/api.ErrBound"
  | 3 => "shredcol/api.ErrShape"
  | 4 => "shredcol/api.ErrKind"
  | 5 => "shredcol/api.ErrName"
  | 6 => "shredcol/api.ErrNone"
  | 7 => "shredcol/api.ErrSum"
  | _ => "shredcol/api.ErrSpace"
def errRow (k : Nat) : String × List UInt8 × Nat := (errName k, errText k, gErr k)
def errDatum (k : Nat) : String × DataW Unit := (errName k, .iface "*errors.errorString" (.ptr (.agg [.lit (.string (errText k))])))
def handleRow : String × DataW Unit := ("errors.errorType", .iface "internal/reflectlite.rtype" (.agg [.ptr (.lit (.string [101, 114, 114, 111, 114]))]))
/-- all nine -/
def fullLaid : List (String × DataW Unit) := [handleRow, errDatum 1, errDatum 2, errDatum 3, errDatum 4, errDatum 5, errDatum 6, errDatum 7, errDatum 8]


theorem e_size : Tryd.prog.types.size = 157 := by kernel_rfl
theorem e_oneRow : ((List.range 157).filter fun t => Tryd.prog.rowNamed t [101, 114, 114, 111, 114]) = [32] := by kernel_rfl

theorem laid_split {W : World} (h : laidMetH Tryd.prog fullLaid W) : laidMet Tryd.prog [errDatum 1, errDatum 2, errDatum 3, errDatum 4, errDatum 5, errDatum 6, errDatum 7, errDatum 8] W ∧ handlesMet Tryd.prog [handleRow] W := h

end Go.Proofs.YtaebhilgmmfalaaDoor

/- Some of the errors of package api, where a statement's row lists some of them alone. -/
namespace Go.Proofs.YtaebhilgmmfalaaDoor
open Go Go.RowKit Go.ChangeShapes

/-- these errors' variables hold their pointers -/
def ErrsAt (w : World) (adr : Nat → Addr) (ks : List Nat) : Prop := ∀ k ∈ ks, 1 ≤ k ∧ k ≤ 8 ∧ w.cell? ⟨gErr k, 0, none⟩ = some (.iface 141 (.pointer (some (adr k))))
theorem ErrsAt.below {w w' : World} {adr : Nat → Addr} {ks : List Nat} (h : ErrsAt w adr ks) (hb : Below w.heap.size w w') : ErrsAt w' adr ks := fun k hk =>
  ⟨(h k hk).1, (h k hk).2.1, (hb.cell (block_lt_of_cell (h k hk).2.2)).trans (h k hk).2.2⟩
theorem ErrsAt.sub {w : World} {adr : Nat → Addr} {ks ls : List Nat} (h : ErrsAt w adr ks) (hs : (ls.all fun k => ks.contains k) = true) : ErrsAt w adr ls := fun k hk => by
  have := List.all_eq_true.1 hs k hk
  exact h k (by simpa using this)
theorem ErrsAt.cell {w : World} {adr : Nat → Addr} {ks : List Nat} (h : ErrsAt w adr ks) (k : Nat) (hk : k ∈ ks) : w.cell? ⟨gErr k, 0, none⟩ = some (.iface 141 (.pointer (some (adr k)))) := (h k hk).2.2

theorem errs_of_sents {W : World} : ∀ (ks : List Nat) (ads : List Addr), SentsAt 141 W (ks.map gErr) ads → ∀ k ∈ ks, W.cell? ⟨gErr k, 0, none⟩ = some (.iface 141 (.pointer (some (ads.getD (ks.idxOf k) ⟨0, 0, none⟩))))
  | [], _, _, _, hk => by cases hk
  | a :: ks, [], h, _, _ => h.elim
  | a :: ks, b :: ads, ⟨h1, _, h3⟩, k, hk => by
    by_cases e : k = a
    · subst e
      simpa using h1
    · have := errs_of_sents ks ads h3 k ((List.mem_cons.1 hk).resolve_left e)
      rw [List.idxOf_cons, show (a == k) = false by simpa using fun h => e h.symm]
      simpa using this
theorem errsAt_of_laid2 {W : World} (ks : List Nat) (hk : (ks.all fun k => decide (1 ≤ k) && decide (k ≤ 8)) = true) (hn : ∀ k ∈ ks, Tryd.prog.globalNamed (errRow k).1 = some (errRow k).2.2 ∧ (Tryd.prog.globals[(errRow k).2.2]?).map (·.type) = some 32) (h : laidMet Tryd.prog (ks.map errDatum) W) : ∃ adr, ErrsAt W adr ks := by
  have hk' : ∀ k ∈ ks, 1 ≤ k ∧ k ≤ 8 := fun k hm => by simpa using List.all_eq_true.1 hk k hm
  obtain ⟨ads, hs, _⟩ := sents_of_laid (W := W) (ks.map errRow) (by
    intro x hx
    obtain ⟨k, hm, rfl⟩ := List.mem_map.1 hx
    exact hn k hm) (by
    have e : ((ks.map errRow).map fun x => (x.1, DataW.iface "*errors.errorString" (.ptr (.agg [.lit (.string x.2.1)])))) = ks.map (errDatum : Nat → String × DataW Unit) := by
      rw [List.map_map]; rfl
    rw [e]; exact h)
  have e : (ks.map errRow).map (·.2.2) = ks.map gErr := by rw [List.map_map]; rfl
  rw [e] at hs
  exact ⟨fun k => ads.getD (ks.idxOf k) ⟨0, 0, none⟩, fun k hm => ⟨(hk' k hm).1, (hk' k hm).2, errs_of_sents ks ads hs k hm⟩⟩
end Go.Proofs.YtaebhilgmmfalaaDoor
