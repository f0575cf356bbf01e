/- The walks of the document's IsName and SchemaError. -/
import Derived.Test.YthfljcpfcnddhaaGreatDoorTv0
import Derived.BigQuiet
import Derived.Deep.DeepCutAuto
namespace Go.Proofs.YthfljcpfcnddhaaGreatDoor
set_option linter.unusedVariables false
set_option linter.unusedSimpArgs false
open Go Go.RowKit Go.ChangeShapes

def letB (c : UInt8) : Bool := decide (97 ≤ c.toNat ∧ c.toNat ≤ 122)
theorem all_take_snoc (s : ByteArray) (k : Nat) (h : k < s.size) (ht : (s.data.toList.take k).all letB = true) (hc : letB s[k] = true) : (s.data.toList.take (k + 1)).all letB = true := by
  rw [List.take_succ_eq_append_getElem (by simpa using h), List.all_append, ht, Bool.true_and, List.all_cons, List.all_nil, Bool.and_true]
  exact hc
theorem all_stop (s : ByteArray) (k : Nat) (h : k < s.size) (hc : letB s[k] = false) : s.data.toList.all letB = false := by
  rw [List.all_eq_false]
  exact ⟨s[k], List.getElem_mem (l := s.data.toList) (by simpa using h), by rw [hc]; simp⟩
theorem isNm_eq (s : ByteArray) : isNm s = (decide (0 < s.size) && decide (s.size ≤ 12) && s.data.toList.all letB) := by
  unfold isNm
  have : (!s.data.toList.isEmpty) = decide (0 < s.size) := by
    have hs : s.data.toList.length = s.size := by simp
    cases h : s.data.toList with
    | nil => rw [h] at hs; simp at hs; simp [← hs]
    | cons a r => rw [h] at hs; simp at hs; symm; simp; omega
  rw [this]
  rfl
set_option maxRecDepth 100000 in
set_option maxHeartbeats 4000000 in
theorem isNameD_any (s : ByteArray) (w : World) (hs : s.size ≤ 9223372036854775807) :
    Calls Tryz.prog 55 #[.string s] w fun e w' => e = .returned (.bool (isNm s)) ∧ w = w' := by
  obtain ⟨R, hR⟩ : ∃ R, isNm s = R := ⟨_, rfl⟩
  rw [hR]
  rw [isNm_eq] at hR
  have HRr := Lib.hid hR
  clear hR
  go_enter Tryz.func55, Tryz.ntmps55
  go_wp2_with fail
  go_loop [3] (fun i => ∃ k : Nat, k ≤ s.size ∧ i = .int .i64 k ∧ Hid ((s.data.toList.take k).all letB = true)) (fun i => s.size - (intOf i).toNat)
  case atStart => exact ⟨0, Nat.zero_le _, rfl, by simp [Hid]⟩
  case round =>
    obtain ⟨k, hk, rfl, HA⟩ := hrel
    by_cases hlt : k < s.size
    · by_cases hc : letB s[k] = true
      · have HN := Lib.hid (all_take_snoc s k hlt HA.out hc)
        unfold letB at hc
        rw [decide_eq_true_iff] at hc
        have hc1 := hc.1; have hc2 := hc.2
        clear hc HA
        go_wp2_with fail
        go_round
        case rel => exact ⟨k + 1, by omega, by go_num, HN.out⟩
        case measure => simp [intOf]; omega
      · have hc' : letB s[k] = false := by simpa using hc
        have HN := Lib.hid (all_stop s k hlt hc')
        have hR : R = false := by rw [← HRr.out, HN.out, Bool.and_false]
        subst hR
        unfold letB at hc
        rw [decide_eq_true_iff] at hc
        clear hc' HRr HA
        by_cases h1 : 97 ≤ s[k].toNat
        · have h2 : 122 < s[k].toNat := by omega
          clear hc
          go_wp2_with fail
          go_ret
          exact ⟨rfl, rfl⟩
        · have h2 : s[k].toNat < 97 := by omega
          clear hc h1
          go_wp2_with fail
          go_ret
          exact ⟨rfl, rfl⟩
    · obtain rfl : k = s.size := by omega
      have hA := HA.out
      rw [List.take_of_length_le (by simp)] at hA
      have hR := HRr.out
      rw [hA, Bool.and_true] at hR
      have HR2 := Lib.hid hR
      clear hA hR HRr HA hk hlt
      by_cases h0 : 0 < s.size
      · by_cases h12 : s.size ≤ 12
        · have d1 : decide ((s.size : Int) ≤ 12) = true := decide_eq_true (by omega)
          obtain rfl : true = R := by rw [← HR2.out, decide_eq_true h0, decide_eq_true h12]; rfl
          go_wp2_with fail
          go_ret
          exact ⟨rfl, rfl⟩
        · have d1 : decide ((s.size : Int) ≤ 12) = false := decide_eq_false (by omega)
          obtain rfl : false = R := by rw [← HR2.out, decide_eq_false h12]; simp
          go_wp2_with fail
          go_ret
          exact ⟨rfl, rfl⟩
      · obtain rfl : false = R := by rw [← HR2.out, decide_eq_false h0]; rfl
        go_wp2_with fail
        go_ret
        exact ⟨rfl, rfl⟩

theorem flat7 (L : List PlV) : ∀ (i : Nat) (p : PlV), L[i]? = some p → ∀ j, j < 7 → (L.flatMap plCells)[i * 7 + j]? = (plCells p)[j]? := by
  induction L with
  | nil => intro i p h; simp at h
  | cons a r ih =>
    intro i p h j hj
    rw [List.flatMap_cons]
    have e : (plCells a).length = 7 := rfl
    cases i with
    | zero => simp at h; subst h; rw [List.getElem?_append_left (by rw [e]; omega)]; simp
    | succ i => rw [List.getElem?_append_right (by rw [e]; omega), e, show (i + 1) * 7 + j - 7 = i * 7 + j by omega]; exact ih i p (by simpa using h) j hj
theorem flat7_len (L : List PlV) : (L.flatMap plCells).length = L.length * 7 := by
  induction L with
  | nil => rfl
  | cons a r ih => rw [List.flatMap_cons, List.length_append, ih, List.length_cons]; show 7 + _ = _; omega
/-- the cells of the list's places -/
structure PlsAt (w : World) (g : Nat) (L : List PlV) : Prop where
  id : ∀ (i : Nat) p, L[i]? = some p → w.cell? ⟨g, i * 7, none⟩ = some (.int .i64 p.n.id)
  name : ∀ (i : Nat) p, L[i]? = some p → w.cell? ⟨g, i * 7 + 1, none⟩ = some (.string p.n.name)
  rep : ∀ (i : Nat) p, L[i]? = some p → w.cell? ⟨g, i * 7 + 2, none⟩ = some (.int .i64 p.n.rep)
  kind : ∀ (i : Nat) p, L[i]? = some p → w.cell? ⟨g, i * 7 + 3, none⟩ = some (.int .i64 p.n.kind)
  sub : ∀ (i : Nat) p, L[i]? = some p → w.cell? ⟨g, i * 7 + 4, none⟩ = some (cell1 p.u)
  deep : ∀ (i : Nat) p, L[i]? = some p → w.cell? ⟨g, i * 7 + 5, none⟩ = some (.int .i64 p.deep)
  around : ∀ (i : Nat) p, L[i]? = some p → w.cell? ⟨g, i * 7 + 6, none⟩ = some (.int .i64 p.around)
theorem pls_at {w : World} {B : Nat} {v : Value} {L : List PlV} (h : w.ownsRow B 79 7 v L.length (L.flatMap plCells)) (hl : 0 < L.length) :
    ∃ g cap, v = .slice (some ⟨g, 0, none⟩) L.length cap ∧ B ≤ g ∧ g < w.heap.size ∧ PlsAt w g L := by
  rcases h.2 with ⟨rfl, h0⟩ | ⟨g, cap, cur, hv, h1, h2, h3⟩
  · omega
  · subst hv
    have hc : ∀ (i : Nat) p, L[i]? = some p → ∀ j, j < 7 → w.cell? ⟨g, i * 7 + j, none⟩ = (plCells p)[j]? := fun i p hp j hj => by
      have hil := (List.getElem?_eq_some_iff.1 hp).1
      rw [h.cellAt _ (by omega), flat7 L i p hp j hj]
    refine ⟨g, cap, rfl, h1, (Array.getElem?_eq_some_iff.1 h2).1, ⟨?_, ?_, ?_, ?_, ?_, ?_, ?_⟩⟩ <;> intro i p hp
    · exact hc i p hp 0 (by omega)
    · exact hc i p hp 1 (by omega)
    · exact hc i p hp 2 (by omega)
    · exact hc i p hp 3 (by omega)
    · exact hc i p hp 4 (by omega)
    · exact hc i p hp 5 (by omega)
    · exact hc i p hp 6 (by omega)
theorem PlsAt.keep {w w' : World} {g : Nat} {L : List PlV} (h : PlsAt w g L) (hk : w'.heap[g]? = w.heap[g]?) : PlsAt w' g L := by
  have e : ∀ o, w'.cell? ⟨g, o, none⟩ = w.cell? ⟨g, o, none⟩ := fun o => World.cell?_of_block (w := w) hk
  exact ⟨fun i p hp => (e _).trans (h.id i p hp), fun i p hp => (e _).trans (h.name i p hp), fun i p hp => (e _).trans (h.rep i p hp), fun i p hp => (e _).trans (h.kind i p hp), fun i p hp => (e _).trans (h.sub i p hp), fun i p hp => (e _).trans (h.deep i p hp), fun i p hp => (e _).trans (h.around i p hp)⟩

theorem flat_sub : (∀ n, ∀ (l : List Pl) (k ar : Int), ∀ p ∈ flatF l n k ar, p ∈ l ∨ p.n ∈ nodes n) ∧ ∀ s, ∀ (l : List Pl) (k ar : Int), ∀ p ∈ flatFL l s k ar, p ∈ l ∨ p.n ∈ nodesL s := by
  refine tree2 (fun n h l k ar p hp => ?_) (fun l k ar p hp => ?_) (fun x r h1 h2 l k ar p hp => ?_)
  · rw [flatF_eq] at hp
    split at hp
    · exact .inl hp
    · rw [nodes_eq]
      rcases h _ _ _ p hp with h | h
      · rcases List.mem_append.1 h with h | h
        · exact .inl h
        · obtain rfl : p = ⟨n, k, ar⟩ := by simpa using h
          exact .inr (List.mem_cons_self ..)
      · exact .inr (List.mem_cons_of_mem _ h)
  · simp only [flatFL] at hp; exact .inl hp
  · simp only [flatFL] at hp
    simp only [nodesL, List.mem_append]
    rcases h2 _ _ _ p hp with h | h
    · rcases h1 _ _ _ p h with h | h
      · exact .inl h
      · exact .inr (.inl h)
    · exact .inr (.inr h)
def plTst (p q : Pl) : Bool := !(decide (q.around = p.around) && decide (q.n.name = p.n.name))
theorem tst_step {T : List Pl} {k : Nat} {p o : Pl} {b bn : Bool} (h : b = (bn && (T.take (k - 1)).all (plTst p))) (ht : T.take (k + 1 - 1) = T.take (k - 1) ++ [o]) (hp : plTst p o = true) : b = (bn && (T.take (k + 1 - 1)).all (plTst p)) := by
  rw [ht, List.all_append, List.all_cons, List.all_nil, hp]; simpa using h
theorem tst_stop {T : List Pl} {k : Nat} {p o : Pl} {bn : Bool} (ht : T.take (k + 1 - 1) = T.take (k - 1) ++ [o]) (hp : plTst p o = false) : false = (bn && (T.take (k + 1 - 1)).all (plTst p)) := by
  rw [ht, List.all_append, List.all_cons, List.all_nil, hp]; simp
def idTst (p q : Pl) : Bool := decide (q.n.id ≠ p.n.id)
theorem idt_step {T : List Pl} {k : Nat} {p o : Pl} {b bn : Bool} (h : b = (bn && (T.take (k - 1)).all (idTst p))) (ht : T.take (k + 1 - 1) = T.take (k - 1) ++ [o]) (hp : idTst p o = true) : b = (bn && (T.take (k + 1 - 1)).all (idTst p)) := by
  rw [ht, List.all_append, List.all_cons, List.all_nil, hp]; simpa using h
theorem idt_stop {T : List Pl} {k : Nat} {p o : Pl} {b bn : Bool} (ht : T.take (k + 1 - 1) = T.take (k - 1) ++ [o]) (hp : idTst p o = false) (hb : b = false) : b = (bn && (T.take (k + 1 - 1)).all (idTst p)) := by
  subst hb
  rw [ht, List.all_append, List.all_cons, List.all_nil, hp]; simp
theorem all_at {α : Type} {f : α → Bool} {l : List α} (h : ∀ (q : Nat) p, q < l.length → l[q]? = some p → f p = true) : l.all f = true := by
  rw [List.all_eq_true]
  intro x hx
  obtain ⟨q, hq, e⟩ := List.mem_iff_getElem.1 hx
  exact h q x hq (by rw [List.getElem?_eq_getElem hq, e])
theorem not_all {α : Type} {f : α → Bool} {l : List α} {q : Nat} {p : α} (h : l[q]? = some p) (hf : f p = false) : l.all f = false := by
  rw [List.all_eq_false]
  exact ⟨p, List.mem_of_getElem? h, by rw [hf]; simp⟩
theorem all_tail {α : Type} {f : α → Bool} {l : List α} (h : ∀ (q : Nat) p, 1 ≤ q → q < l.length → l[q]? = some p → f p = true) : l.tail.all f = true :=
  all_at fun q p hq hp => h (q + 1) p (by omega) (by rw [List.length_tail] at hq; omega) (by rwa [List.getElem?_tail] at hp)
theorem not_tail {α : Type} {f : α → Bool} {l : List α} {q : Nat} {p : α} (h1 : 1 ≤ q) (h : l[q]? = some p) (hf : f p = false) : l.tail.all f = false :=
  not_all (q := q - 1) (p := p) (by rw [List.getElem?_tail, Nat.sub_add_cancel h1]; exact h) hf
theorem map_at {L : List PlV} {q : Nat} {p : PlV} (h : L[q]? = some p) : (L.map PlV.pl)[q]? = some p.pl := by rw [List.getElem?_map, h]; rfl

set_option maxRecDepth 100000 in
set_option maxHeartbeats 32000000 in
theorem schema_any (n : Nd) (u : Value) (w : World) (hN : IsNds (· < w.heap.size) w u n.sub) (hO : ∀ x ∈ nodes n, x.Ok1) :
    Calls Tryz.prog 31 #[.agg (ndA n u)] w fun e w' => e = .returned (.int .i64 (validE n : Nat)) ∧ Below w.heap.size w w' := by
  have hw : Below w.heap.size w (w.alloc (.cells (ndA n u) 24)) := (Below.refl _ _).alloc (Nat.le_refl _) _
  have HC := Lib.hid (flat1_any n u _ ((hN.under hw).mono (fun b hb _ => Nat.lt_of_lt_of_le hb hw.size)) hO)
  obtain ⟨R, hR⟩ : ∃ R, validE n = R := ⟨_, rfl⟩
  rw [hR]
  rw [valid_eq] at hR
  have hne : 0 < (flatF [] n 1 (-1)).length := by rw [flatF_eq, if_neg (by simp)]; exact Nat.lt_of_lt_of_le (by simp) (flat_pre.2 n.sub _ _ _).length_le
  obtain ⟨F, hF⟩ : ∃ F, flatF [] n 1 (-1) = F := ⟨_, rfl⟩
  rw [hF] at hR HC hne
  have HRr := Lib.hid hR
  have HFF := Lib.hid hF
  obtain ⟨ad, cp, rfl⟩ := hN.form
  obtain ⟨len, hlen⟩ : ∃ len, n.sub.length = len := ⟨_, rfl⟩
  have HEm := Lib.hid (show n.sub.isEmpty = decide (len = 0) by rw [← hlen]; cases n.sub <;> simp)
  have hnm : ∀ x ∈ nodes n, x.name.size ≤ 9223372036854775807 := fun x hx => (hO x hx).name
  have HNM := Lib.hid hnm
  unfold ndA at *
  rw [hlen] at HC ⊢
  have HW0 := Lib.hid (show Below w.heap.size w (w.alloc (.cells #[.int .i64 n.id, .string n.name, .int .i64 n.rep, .int .i64 n.kind, .slice ad len cp] 24)) from (Below.refl _ _).alloc (Nat.le_refl _) _)
  have HR0 := Lib.hid (heap_alloc_new w (.cells #[.int .i64 n.id, .string n.name, .int .i64 n.rep, .int .i64 n.kind, .slice ad len cp] 24))
  clear hw hR hF hN hO hnm hlen
  go_enter Tryz.func31, Tryz.ntmps31
  go_wp2_with fail
  refine HC.out.mono ?_; rintro e w1 ⟨v, L, rfl, ho, hm, hok, hk⟩
  have RN := Lib.hid (hk.keep _ _ _ _ (.inl rfl) id HR0.out); have HB := Lib.hid (HW0.out.trans (hk.below.mono HW0.out.size))
  subst hm
  rw [List.length_map] at hne
  obtain ⟨g, cv, rfl, hgB, hgz, hpa⟩ := pls_at ho hne
  have HPA := Lib.hid hpa
  have HFM := Lib.hid (fun (p : PlV) (hp : p ∈ L) => (hok p hp).form)
  have HNX := Lib.hid (fun (p : PlV) (hp : p ∈ L) => HNM.out p.n (by
    rcases flat_sub.1 n [] 1 (-1) p.pl (by rw [HFF.out]; exact List.mem_map_of_mem hp) with h | h
    · simp at h
    · exact h))
  clear ho hok hk hpa HC HR0 HW0
  obtain ⟨N, hN⟩ : ∃ N, L.length = N := ⟨_, rfl⟩
  rw [hN] at hne ⊢
  have HLN := Lib.hid hN
  clear hN
  by_cases h40 : N ≤ 40
  case neg =>
    have d1 : decide ((40 : Int) < (N : Int)) = true := decide_eq_true (by omega)
    obtain rfl : 2 = R := by rw [← HRr.out]; unfold schE; rw [List.length_map, HLN.out, decide_eq_false h40]; simp
    clear HRr h40
    go_wp2_with fail
    go_ret
    exact ⟨rfl, HB.out⟩
  have d1 : decide ((40 : Int) < (N : Int)) = false := decide_eq_false (by omega)
  go_wp2_with fail
  go_loop [4] (fun i => ∃ k : Nat, k ≤ N ∧ i = .int .i64 (k : Nat) ∧ Hid (∀ (q : Nat) p, q < k → L[q]? = some p → p.deep ≤ 6)) (fun i => N - (intOf i).toNat)
  case atStart => exact ⟨0, Nat.zero_le _, rfl, fun q p hq => absurd hq (Nat.not_lt_zero _)⟩
  case round =>
    obtain ⟨k, hk, rfl, HD⟩ := hrel
    by_cases hlt : k < N
    · have hkl : k < L.length := by rw [HLN.out]; exact hlt
      have hg := List.getElem?_eq_getElem hkl
      have c5 := HPA.out.deep k _ hg
      have hin : (k : Int) < (N : Int) := by omega
      have hstep : L[k].deep ≤ 6 → ∀ (q : Nat) p, q < k + 1 → L[q]? = some p → p.deep ≤ 6 := fun h q p hq hp => by
        rcases Nat.lt_succ_iff_lt_or_eq.1 hq with h2 | h2
        · exact HD.out q p h2 hp
        · subst h2; rw [hg] at hp; injection hp with hp; rw [← hp]; exact h
      have HST := Lib.hid hstep
      have HBAD := Lib.hid (fun h : ¬ L[k].deep ≤ 6 => not_all (f := fun p : Pl => decide (p.deep ≤ 6)) (map_at hg) (decide_eq_false h))
      generalize L[k] = p at *
      clear hg hkl hstep HD
      by_cases h6 : p.deep ≤ 6
      · have HS := Lib.hid (HST.out h6)
        clear HBAD HST
        go_wp2_with fail
        go_round
        case rel => exact ⟨k + 1, by omega, by go_num, HS.out⟩
        case measure => simp [intOf]; omega
      · obtain rfl : 2 = R := by rw [← HRr.out]; unfold schE; rw [HBAD.out h6]; simp
        clear HRr HBAD HST
        go_wp2_with fail
        go_ret
        exact ⟨rfl, HB.out⟩
    · obtain rfl : k = N := by omega
      have HDA := Lib.hid (show (L.map PlV.pl).all (fun p => decide (p.deep ≤ 6)) = true from all_at fun q p hq hp => by
        rw [List.length_map, HLN.out] at hq
        rw [List.getElem?_map] at hp
        cases hx : L[q]? with
        | none => simp [hx] at hp
        | some y => simp [hx] at hp; subst hp; exact decide_eq_true (HD.out q y hq hx))
      have HR1 := HRr.out
      unfold schE at HR1
      rw [HDA.out, List.length_map, HLN.out, decide_eq_true h40] at HR1
      simp only [Bool.and_true, if_true] at HR1
      have HR2 := Lib.hid HR1
      clear HR1 HRr HDA HD
      have cN := rowc RN.out
      by_cases r1 : n.id = 0
      case neg =>
        have HRO := Lib.hid (show rootOk n = false by unfold rootOk; rw [decide_eq_false r1]; rfl)
        have d10 : ((n.id : Int) != 0) = true := by simpa using r1
        clear r1
        obtain rfl : 3 = R := by rw [← HR2.out, HRO.out]; rfl
        clear HR2
        go_wp2_with fail
        go_ret
        exact ⟨rfl, HB.out⟩
      have d10 : ((n.id : Int) != 0) = false := by simpa using r1
      by_cases r2 : n.name.toList = [114, 111, 111, 116]
      case neg =>
        have HRO := Lib.hid (show rootOk n = false by unfold rootOk; rw [decide_eq_false (fun h => r2 ((root_name _).1 h))]; simp)
        clear r1
        obtain rfl : 3 = R := by rw [← HR2.out, HRO.out]; rfl
        clear HR2
        go_wp2_with fail
        go_ret
        exact ⟨rfl, HB.out⟩
      by_cases r3 : n.rep = 1
      case neg =>
        have HRO := Lib.hid (show rootOk n = false by unfold rootOk; rw [decide_eq_false r3]; simp)
        have d30 : ((n.rep : Int) != 1) = true := by simpa using r3
        clear r1 r3
        obtain rfl : 3 = R := by rw [← HR2.out, HRO.out]; rfl
        clear HR2
        go_wp2_with fail
        go_ret
        exact ⟨rfl, HB.out⟩
      have d30 : ((n.rep : Int) != 1) = false := by simpa using r3
      by_cases r4 : n.kind = 0
      case neg =>
        have HRO := Lib.hid (show rootOk n = false by unfold rootOk; rw [decide_eq_false r4]; simp)
        have d40 : ((n.kind : Int) != 0) = true := by simpa using r4
        clear r1 r3 r4
        obtain rfl : 3 = R := by rw [← HR2.out, HRO.out]; rfl
        clear HR2
        go_wp2_with fail
        go_ret
        exact ⟨rfl, HB.out⟩
      have d40 : ((n.kind : Int) != 0) = false := by simpa using r4
      by_cases r5 : ¬ len = 0
      case neg =>
        have HRO := Lib.hid (show rootOk n = false by unfold rootOk; rw [HEm.out, decide_eq_true (Classical.not_not.1 r5)]; simp)
        have d50 : (((len : Nat) : Int) == 0) = true := by simpa using r5
        clear r1 r3 r4 r5
        obtain rfl : 3 = R := by rw [← HR2.out, HRO.out]; rfl
        clear HR2
        go_wp2_with fail
        go_ret
        exact ⟨rfl, HB.out⟩
      have d50 : (((len : Nat) : Int) == 0) = false := by simpa using r5
      have HRO := Lib.hid (show rootOk n = true by unfold rootOk; rw [decide_eq_true r1, decide_eq_true ((root_name _).2 r2), decide_eq_true r3, decide_eq_true r4, HEm.out, decide_eq_false r5]; rfl)
      have HR1 := HR2.out
      rw [HRO.out, if_pos rfl] at HR1
      have HR3 := Lib.hid HR1
      clear r1 r3 r4 r5 HR1 HR2 HRO hlt hk
      go_wp2_with fail
      clear d10 r2 d30 d40 d50 cN
      go_loopw [5] (fun i wr => ∃ j : Nat, 1 ≤ j ∧ j ≤ k ∧ i = .int .i64 (j : Nat) ∧ Hid (Below w1.heap.size w1 wr) ∧ Hid (∀ (q : Nat) p, 1 ≤ q → q < j → L[q]? = some p → okShape p.n = true)) (fun i _ => k - (intOf i).toNat)
      case atStart => exact ⟨1, Nat.le_refl _, hne, rfl, Below.refl _ _, fun q p h1 h2 => absurd h1 (by omega)⟩
      case round =>
        obtain ⟨j, hj1, hj, rfl, HW, HD⟩ := hrel
        by_cases hlt : j < k
        · have hjl : j < L.length := by rw [HLN.out]; exact hlt
          have hg := List.getElem?_eq_getElem hjl
          have hpa := HPA.out.keep (HW.out.block g hgz)
          obtain ⟨ax, cx, hux⟩ := HFM.out _ (List.getElem_mem hjl)
          have e0 := hpa.id j _ hg; have e1 := hpa.name j _ hg; have e2 := hpa.rep j _ hg; have e3 := hpa.kind j _ hg; have e4 := hpa.sub j _ hg
          rw [hux] at e4
          have hin : (j : Int) < (k : Int) := by omega
          have HST := Lib.hid (fun (h : okShape L[j].n = true) => (fun (q : Nat) p (h1 : 1 ≤ q) (hq : q < j + 1) (hp : L[q]? = some p) => by
            rcases Nat.lt_succ_iff_lt_or_eq.1 hq with h2 | h2
            · exact HD.out q p h1 h2 hp
            · subst h2; rw [hg] at hp; injection hp with hp; rw [← hp]; exact h : ∀ (q : Nat) p, 1 ≤ q → q < j + 1 → L[q]? = some p → okShape p.n = true))
          have HBAD := Lib.hid (fun h : okShape L[j].n = false => not_tail (f := fun p : Pl => okShape p.n) hj1 (map_at hg) h)
          generalize L[j] = p at *
          obtain ⟨sl, hsl⟩ : ∃ sl, p.n.sub.length = sl := ⟨_, rfl⟩
          have HEs := Lib.hid (show p.n.sub.isEmpty = decide (sl = 0) by rw [← hsl]; cases p.n.sub <;> simp)
          rw [hsl] at e4
          change wr.cell? ⟨g, j * 7 + 4, none⟩ = some (.slice ax sl cx) at e4
          have HCX := Lib.hid (show ∀ jj v, (#[.int .i64 p.n.id, .string p.n.name, .int .i64 p.n.rep, .int .i64 p.n.kind, .slice ax sl cx] : Array Value)[jj]? = some v → wr.cell? ⟨g, j * 7 + jj, none⟩ = some v from fun jj v h => by
            match jj, h with
            | 0, h => simp at h; subst h; exact e0
            | 1, h => simp at h; subst h; exact e1
            | 2, h => simp at h; subst h; exact e2
            | 3, h => simp at h; subst h; exact e3
            | 4, h => simp at h; subst h; exact e4
            | jj + 5, h => simp at h)
          clear hg hjl hpa hux e0 e1 e2 e3 e4 hsl HD
          go_upto_region 15 with (refine wpList_load_cells rfl 24 _ rfl g (j * 7) rfl #[.int .i64 p.n.id, .string p.n.name, .int .i64 p.n.rep, .int .i64 p.n.kind, .slice ax sl cx] _ HCX.out Tryz.underlying24 rfl nd_info ?_)
          have hw2 : Below wr.heap.size wr (wr.alloc (.cells #[.int .i64 p.n.id, .string p.n.name, .int .i64 p.n.rep, .int .i64 p.n.kind, .slice ax sl cx] 24)) := (Below.refl _ _).alloc (Nat.le_refl _) _
          have hrx := heap_alloc_new wr (.cells #[.int .i64 p.n.id, .string p.n.name, .int .i64 p.n.rep, .int .i64 p.n.kind, .slice ax sl cx] 24)
          have HW2 := Lib.hid (HW.out.trans (hw2.mono HW.out.size))
          generalize (wr.alloc (.cells #[.int .i64 p.n.id, .string p.n.name, .int .i64 p.n.rep, .int .i64 p.n.kind, .slice ax sl cx] 24)) = w2 at *
          have cX := rowc hrx
          clear hw2 hrx HCX
          by_cases r1 : 1 ≤ p.n.rep
          case neg =>
            have d10 : decide (p.n.rep < 1) = true := decide_eq_true (by omega)
            have HOF := Lib.hid (show okShape p.n = false by unfold okShape; rw [decide_eq_false r1]; simp)
            clear r1
            obtain rfl : 3 = R := by rw [← HR3.out, HBAD.out (by exact HOF.out)]; rfl
            clear HR3 HBAD HST
            go_wp2_with fail
            go_ret
            exact ⟨rfl, HB.out.trans (HW2.out.mono HB.out.size)⟩
          have d10 : decide (p.n.rep < 1) = false := decide_eq_false (by omega)
          by_cases r2 : p.n.rep ≤ 3
          case neg =>
            have d20 : decide (3 < p.n.rep) = true := decide_eq_true (by omega)
            have HOF := Lib.hid (show okShape p.n = false by unfold okShape; rw [decide_eq_false r2]; simp)
            clear r1 r2
            obtain rfl : 3 = R := by rw [← HR3.out, HBAD.out (by exact HOF.out)]; rfl
            clear HR3 HBAD HST
            go_wp2_with fail
            go_ret
            exact ⟨rfl, HB.out.trans (HW2.out.mono HB.out.size)⟩
          have d20 : decide (3 < p.n.rep) = false := decide_eq_false (by omega)
          by_cases r3 : 0 ≤ p.n.kind
          case neg =>
            have d30 : decide (p.n.kind < 0) = true := decide_eq_true (by omega)
            have HOF := Lib.hid (show okShape p.n = false by unfold okShape; rw [decide_eq_false r3]; simp)
            clear r1 r2 r3
            obtain rfl : 3 = R := by rw [← HR3.out, HBAD.out (by exact HOF.out)]; rfl
            clear HR3 HBAD HST
            go_wp2_with fail
            go_ret
            exact ⟨rfl, HB.out.trans (HW2.out.mono HB.out.size)⟩
          have d30 : decide (p.n.kind < 0) = false := decide_eq_false (by omega)
          by_cases r4 : p.n.kind ≤ 5
          case neg =>
            have d40 : decide (5 < p.n.kind) = true := decide_eq_true (by omega)
            have HOF := Lib.hid (show okShape p.n = false by unfold okShape; rw [decide_eq_false r4]; simp)
            clear r1 r2 r3 r4
            obtain rfl : 3 = R := by rw [← HR3.out, HBAD.out (by exact HOF.out)]; rfl
            clear HR3 HBAD HST
            go_wp2_with fail
            go_ret
            exact ⟨rfl, HB.out.trans (HW2.out.mono HB.out.size)⟩
          have d40 : decide (5 < p.n.kind) = false := decide_eq_false (by omega)
          have HOS := Lib.hid (show okShape p.n = (decide (p.n.kind ≠ 0) == decide (sl = 0)) by unfold okShape; rw [decide_eq_true r1, decide_eq_true r2, decide_eq_true r3, decide_eq_true r4, HEs.out]; rfl)
          clear r1 r2 r3 r4
          by_cases hk0 : p.n.kind = 0
          · have dk : ((p.n.kind : Int) == 0) = true := by simpa using hk0
            by_cases hs0 : sl = 0
            · have HOF := Lib.hid (show okShape p.n = false by rw [HOS.out, hk0, hs0]; rfl)
              have ds : decide (0 < sl) = false := decide_eq_false (by omega)
              clear hk0 hs0
              obtain rfl : 3 = R := by rw [← HR3.out, HBAD.out (by exact HOF.out)]; rfl
              clear HR3 HBAD HST
              go_wp2_with fail
              go_ret
              exact ⟨rfl, HB.out.trans (HW2.out.mono HB.out.size)⟩
            · have HOF := Lib.hid (HST.out (by rw [HOS.out, hk0, decide_eq_false hs0]; rfl))
              have ds : decide (0 < sl) = true := decide_eq_true (by omega)
              clear hk0 hs0 HST HBAD
              go_wp2_with fail
              go_roundw
              case rel => exact ⟨j + 1, by omega, by omega, by go_num, HW2.out, HOF.out⟩
              case measure => simp [intOf]; omega
          · have dk : ((p.n.kind : Int) == 0) = false := by simpa using hk0
            by_cases hs0 : sl = 0
            · have HOF := Lib.hid (HST.out (by rw [HOS.out, decide_eq_true hk0, hs0]; rfl))
              have ds : decide (0 < sl) = false := decide_eq_false (by omega)
              clear hk0 hs0 HST HBAD
              go_wp2_with fail
              go_roundw
              case rel => exact ⟨j + 1, by omega, by omega, by go_num, HW2.out, HOF.out⟩
              case measure => simp [intOf]; omega
            · have HOF := Lib.hid (show okShape p.n = false by rw [HOS.out, decide_eq_true hk0, decide_eq_false hs0]; rfl)
              have ds : decide (0 < sl) = true := decide_eq_true (by omega)
              clear hk0 hs0
              obtain rfl : 3 = R := by rw [← HR3.out, HBAD.out (by exact HOF.out)]; rfl
              clear HR3 HBAD HST
              go_wp2_with fail
              go_ret
              exact ⟨rfl, HB.out.trans (HW2.out.mono HB.out.size)⟩
        · obtain rfl : j = k := by omega
          have hA := all_tail (f := fun p : Pl => okShape p.n) (l := L.map PlV.pl) (fun q p h1 hq hp => by
            rw [List.length_map, HLN.out] at hq
            rw [List.getElem?_map] at hp
            cases hx : L[q]? with
            | none => simp [hx] at hp
            | some y => simp [hx] at hp; subst hp; exact HD.out q y h1 hq hx)
          have HR1 := HR3.out
          rw [hA, if_pos rfl] at HR1
          have HR4 := Lib.hid HR1
          clear HR1 hA HR3 HD hlt hj hj1
          go_wp2_with fail
          obtain ⟨T, hT⟩ : ∃ T, (L.map PlV.pl).tail = T := ⟨_, rfl⟩
          have hTa : ∀ (q : Nat) (p : PlV), L[q + 1]? = some p → T[q]? = some p.pl := fun q p h => by rw [← hT, List.getElem?_tail]; exact map_at h
          have hTl : T.length + 1 = j := by rw [← hT, List.length_tail, List.length_map, HLN.out]; omega
          have hR4 := HR4.out
          rw [hT] at hR4
          have HTA := Lib.hid hTa; have HTL := Lib.hid hTl; have HR5 := Lib.hid hR4
          clear hT hTa hTl hR4 HR4
          have HW0 := HW
          clear HW
          go_loopw [7] (fun i wx => ∃ m : Nat, 1 ≤ m ∧ m ≤ j ∧ i = .int .i64 (m : Nat) ∧ Hid (Below w1.heap.size w1 wx) ∧ Hid (plNames (T.take (m - 1)) (T.drop (m - 1)) = plNames [] T)) (fun i _ => j - (intOf i).toNat)
          case atStart => exact ⟨1, Nat.le_refl _, hne, rfl, HW0.out, rfl⟩
          case round =>
            obtain ⟨m, hm1, hm, rfl, HW, HP⟩ := hrel
            by_cases hlt : m < j
            · have hml : m < L.length := by rw [HLN.out]; exact hlt
              have hg := List.getElem?_eq_getElem hml
              have hpa := HPA.out.keep (HW.out.block g hgz)
              have e1 := hpa.name m _ hg
              have hin : (m : Int) < (j : Int) := by omega
              have hTm := HTA.out (m - 1) _ (by rw [Nat.sub_add_cancel hm1]; exact hg)
              have hnx := HNX.out _ (List.getElem_mem hml)
              generalize hpx : L[m] = p at *
              have hmT : m - 1 < T.length := by have := HTL.out; omega
              have hTg : T[m - 1] = p.pl := by rw [List.getElem?_eq_getElem hmT] at hTm; injection hTm
              have hdr : T.drop (m - 1) = p.pl :: T.drop m := by rw [List.drop_eq_getElem_cons hmT, hTg, Nat.sub_add_cancel hm1]
              have htk : T.take m = T.take (m - 1) ++ [p.pl] := by
                have := List.take_succ_eq_append_getElem hmT
                rw [Nat.sub_add_cancel hm1, hTg] at this; exact this
              have hP2 : ((isNm p.n.name && (T.take (m - 1)).all (plTst p.pl)) && plNames (T.take m) (T.drop m)) = plNames [] T := by
                have := HP.out
                rw [hdr, plNames, ← htk] at this; exact this
              have HP2 := Lib.hid hP2; have HG := Lib.hid hg
              have HIN := Lib.hid (fun wx => isNameD_any p.n.name wx hnx)
              clear hpx hTm hmT hTg hdr htk hP2 hg hpa hml hnx HP
              generalize hbn : isNm p.n.name = bn at *
              clear hbn
              go_wp2_with fail
              refine (HIN.out _).mono ?_; rintro e w5 ⟨rfl, hw5⟩
              subst hw5
              clear e1 HIN
              go_wp2_with fail
              go_loopw [8, 9] (fun s8 i wx => ∃ (k : Nat) (b : Bool), 1 ≤ k ∧ k ≤ m ∧ i = .int .i64 (k : Nat) ∧ s8 = .bool b ∧ Hid (Below w1.heap.size w1 wx) ∧ Hid (b = (bn && (T.take (k - 1)).all (plTst p.pl)))) (fun _ i _ => m - (intOf i).toNat)
              case atStart => exact ⟨1, bn, Nat.le_refl _, hm1, rfl, rfl, HW.out, by simp [Hid]⟩
              case round =>
                clear HW
                obtain ⟨k, b, hk1, hk, rfl, rfl, HW, HBB⟩ := hrel
                by_cases hlt2 : k < m
                · have hkl : k < L.length := by rw [HLN.out]; omega
                  have hgk := List.getElem?_eq_getElem hkl
                  have hpa := HPA.out.keep (HW.out.block g hgz)
                  have e1 := hpa.name m _ HG.out; have e2 := hpa.around m _ HG.out; have e3 := hpa.name k _ hgk; have e4 := hpa.around k _ hgk
                  have hin2 : (k : Int) < (j : Int) := by omega
                  have hin3 : (k : Int) < (m : Int) := by omega
                  have hTk := HTA.out (k - 1) _ (by rw [Nat.sub_add_cancel hk1]; exact hgk)
                  generalize hox : L[k] = o at *
                  have hkT : k - 1 < T.length := by have := HTL.out; omega
                  have hTg : T[k - 1] = o.pl := by rw [List.getElem?_eq_getElem hkT] at hTk; injection hTk
                  have htk : T.take (k + 1 - 1) = T.take (k - 1) ++ [o.pl] := by
                    have := List.take_succ_eq_append_getElem hkT
                    rw [Nat.sub_add_cancel hk1, hTg] at this; exact this
                  have HTK := Lib.hid htk
                  clear hox hTk hkT hTg htk hpa hgk hkl
                  by_cases ha : o.around = p.around
                  · by_cases hb : o.n.name = p.n.name
                    · have da : ((o.around : Int) == p.around) = true := by simpa using ha
                      have db : (o.n.name.toList == p.n.name.toList) = true := by rw [hb]; simp
                      have HA := Lib.hid ha; have HB2 := Lib.hid hb
                      clear ha hb
                      go_wp2_with fail
                      go_quiet (fail)
                      go_wp2_with fail
                      go_roundw
                      case rel => exact ⟨k + 1, _, by omega, by omega, by go_num, rfl, below_drewN HW.out _, tst_stop HTK.out (by unfold plTst; rw [show o.pl.around = p.pl.around from HA.out, show o.pl.n.name = p.pl.n.name from HB2.out]; simp)⟩
                      case measure => simp [intOf]; omega
                    · have da : ((o.around : Int) == p.around) = true := by simpa using ha
                      have db : (o.n.name.toList == p.n.name.toList) = false := by
                        rw [ByteArray.toList_eq, ByteArray.toList_eq, beq_eq_false_iff_ne]
                        exact fun h => hb (by rw [← ba_mk o.n.name, h, ba_mk])
                      have HB2 := Lib.hid hb
                      clear ha hb
                      go_wp2_with fail
                      go_quiet (fail)
                      go_wp2_with fail
                      go_roundw
                      case rel => exact ⟨k + 1, _, by omega, by omega, by go_num, rfl, below_drewN HW.out _, tst_step HBB.out HTK.out (by unfold plTst; rw [decide_eq_false (show ¬ o.pl.n.name = p.pl.n.name from HB2.out)]; simp)⟩
                      case measure => simp [intOf]; omega
                  · have da : ((o.around : Int) == p.around) = false := by simpa using ha
                    have HA := Lib.hid ha
                    clear ha
                    go_wp2_with fail
                    go_quiet (fail)
                    go_wp2_with fail
                    go_roundw
                    case rel => exact ⟨k + 1, _, by omega, by omega, by go_num, rfl, below_drewN HW.out _, tst_step HBB.out HTK.out (by unfold plTst; rw [decide_eq_false (show ¬ o.pl.around = p.pl.around from HA.out)]; simp)⟩
                    case measure => simp [intOf]; omega
                · obtain rfl : k = m := by omega
                  have hbb := HBB.out
                  have hP3 := HP2.out
                  cases b with
                  | false =>
                    have hRR : plNames [] T = false := by
                      rw [← hP3, Bool.and_eq_false_iff]; left; exact hbb.symm
                    have HRR := Lib.hid hRR
                    obtain rfl : 5 = R := by rw [← HR5.out, HRR.out]; rfl
                    clear hbb hP3 hRR HR5 HP2 HBB hlt2
                    go_wp2_with fail
                    go_ret
                    exact ⟨rfl, HB.out.trans (HW.out.mono HB.out.size)⟩
                  | true =>
                    have HP4 := Lib.hid (show plNames (T.take k) (T.drop k) = plNames [] T by
                      rw [← hP3]
                      have e : (bn && (T.take (k - 1)).all (plTst p.pl)) = true := hbb.symm
                      rw [e, Bool.true_and])
                    clear hbb hP3 HP2 HBB hlt2
                    go_wp2_with fail
                    go_roundw
                    case rel => exact ⟨k + 1, by omega, by omega, by go_num, HW.out, HP4.out⟩
                    case measure => simp [intOf]; omega
            · obtain rfl : m = j := by omega
              have hP := HP.out
              rw [List.drop_of_length_le (by have := HTL.out; omega)] at hP
              have hR6 := HR5.out
              rw [← hP] at hR6
              have HR6 := Lib.hid (show (if plIds [] T = true then 0 else 5) = R from hR6)
              clear hP hR6 HR5 HP hlt hm1 hm
              go_wp2_with fail
              have HW1 := Lib.hid HW.out
              clear HW
              go_loopw [10] (fun i wx => ∃ i0 : Nat, 1 ≤ i0 ∧ i0 ≤ m ∧ i = .int .i64 (i0 : Nat) ∧ Hid (Below w1.heap.size w1 wx) ∧ Hid (plIds (T.take (i0 - 1)) (T.drop (i0 - 1)) = plIds [] T)) (fun i _ => m - (intOf i).toNat)
              case atStart => exact ⟨1, Nat.le_refl _, hne, rfl, HW1.out, rfl⟩
              case round =>
                obtain ⟨i0, hi1, hi2, rfl, HW, HP⟩ := hrel
                by_cases hlt : i0 < m
                · have hml : i0 < L.length := by rw [HLN.out]; exact hlt
                  have hg := List.getElem?_eq_getElem hml
                  have hpa := HPA.out.keep (HW.out.block g hgz)
                  have e1 := hpa.id i0 _ hg
                  have hin : (i0 : Int) < (m : Int) := by omega
                  have hTm := HTA.out (i0 - 1) _ (by rw [Nat.sub_add_cancel hi1]; exact hg)
                  generalize hpx : L[i0] = p at *
                  have hmT : i0 - 1 < T.length := by have := HTL.out; omega
                  have hTg : T[i0 - 1] = p.pl := by rw [List.getElem?_eq_getElem hmT] at hTm; injection hTm
                  have hdr : T.drop (i0 - 1) = p.pl :: T.drop i0 := by rw [List.drop_eq_getElem_cons hmT, hTg, Nat.sub_add_cancel hi1]
                  have htk : T.take i0 = T.take (i0 - 1) ++ [p.pl] := by
                    have := List.take_succ_eq_append_getElem hmT
                    rw [Nat.sub_add_cancel hi1, hTg] at this; exact this
                  have hP2 : ((decide (1 ≤ p.n.id) && decide (p.n.id ≤ 1000) && (T.take (i0 - 1)).all (idTst p.pl)) && plIds (T.take i0) (T.drop i0)) = plIds [] T := by
                    have := HP.out
                    rw [hdr, plIds, ← htk] at this; exact this
                  obtain ⟨bn, hbn⟩ : ∃ bn, (decide (1 ≤ p.n.id) && decide (p.n.id ≤ 1000)) = bn := ⟨_, rfl⟩
                  rw [hbn] at hP2
                  have HP2 := Lib.hid hP2; have HG := Lib.hid hg; have HBN := Lib.hid hbn
                  clear hpx hTm hmT hTg hdr htk hP2 hg hpa hml HP hbn
                  go_upto_region 33 with fail
                  go_cut [11] (fun s11 wx => s11 = .bool bn ∧ Hid (Below w1.heap.size w1 wx))
                  case first =>
                    by_cases h1 : 1 ≤ p.n.id
                    · have d1' : decide (1 ≤ p.n.id) = true := decide_eq_true h1
                      by_cases h2 : p.n.id ≤ 1000
                      · have d2' : decide (p.n.id ≤ 1000) = true := decide_eq_true h2
                        obtain rfl : true = bn := by rw [← HBN.out, d1', d2']; rfl
                        clear h1 h2
                        go_wp2_with fail
                        go_meet
                        exact ⟨rfl, HW.out⟩
                      · have d2' : decide (p.n.id ≤ 1000) = false := decide_eq_false h2
                        obtain rfl : false = bn := by rw [← HBN.out, d2', Bool.and_false]
                        clear h1 h2
                        go_wp2_with fail
                        go_meet
                        exact ⟨rfl, HW.out⟩
                    · have d1' : decide (1 ≤ p.n.id) = false := decide_eq_false h1
                      obtain rfl : false = bn := by rw [← HBN.out, d1', Bool.false_and]
                      clear h1
                      go_wp2_with fail
                      go_meet
                      exact ⟨rfl, HW.out⟩
                  case rest =>
                  obtain ⟨hs11, HWx⟩ := hcut
                  subst hs11
                  clear HW e1 HBN
                  go_wp2_with fail
                  go_loopw [11, 12] (fun s8 i wx => ∃ (k : Nat) (b : Bool), 1 ≤ k ∧ k ≤ i0 ∧ i = .int .i64 (k : Nat) ∧ s8 = .bool b ∧ Hid (Below w1.heap.size w1 wx) ∧ Hid (b = (bn && (T.take (k - 1)).all (idTst p.pl)))) (fun _ i _ => i0 - (intOf i).toNat)
                  case atStart => exact ⟨1, bn, Nat.le_refl _, hi1, rfl, rfl, HWx.out, by simp [Hid]⟩
                  case round =>
                    clear HWx
                    obtain ⟨k, b, hk1, hk, rfl, rfl, HW, HBB⟩ := hrel
                    by_cases hlt2 : k < i0
                    · have hkl : k < L.length := by rw [HLN.out]; omega
                      have hgk := List.getElem?_eq_getElem hkl
                      have hpa := HPA.out.keep (HW.out.block g hgz)
                      have e1 := hpa.id i0 _ HG.out; have e3 := hpa.id k _ hgk
                      have hin2 : (k : Int) < (m : Int) := by omega
                      have hin3 : (k : Int) < (i0 : Int) := by omega
                      have hTk := HTA.out (k - 1) _ (by rw [Nat.sub_add_cancel hk1]; exact hgk)
                      generalize hox : L[k] = o at *
                      have hkT : k - 1 < T.length := by have := HTL.out; omega
                      have hTg : T[k - 1] = o.pl := by rw [List.getElem?_eq_getElem hkT] at hTk; injection hTk
                      have htk : T.take (k + 1 - 1) = T.take (k - 1) ++ [o.pl] := by
                        have := List.take_succ_eq_append_getElem hkT
                        rw [Nat.sub_add_cancel hk1, hTg] at this; exact this
                      have HTK := Lib.hid htk
                      clear hox hTk hkT hTg htk hpa hgk hkl
                      cases b with
                      | false =>
                        have HB3 := Lib.hid (show false = (bn && (T.take (k + 1 - 1)).all (idTst p.pl)) from by
                          rw [HTK.out, List.all_append, ← Bool.and_assoc, ← HBB.out, Bool.false_and])
                        clear HBB
                        go_wp2_with fail
                        go_quiet (fail)
                        go_wp2_with fail
                        go_roundw
                        case rel => exact ⟨k + 1, _, by omega, by omega, by go_num, rfl, below_drewN HW.out _, HB3.out⟩
                        case measure => simp [intOf]; omega
                      | true =>
                        by_cases ha : o.n.id = p.n.id
                        · have da : ((o.n.id : Int) != p.n.id) = false := by simpa using ha
                          have HB3 := Lib.hid (idt_stop (p := p.pl) (o := o.pl) (b := false) (bn := bn) HTK.out (by unfold idTst; rw [show o.pl.n.id = p.pl.n.id from ha]; simp) rfl)
                          clear ha HBB
                          go_wp2_with fail
                          go_quiet (fail)
                          go_wp2_with fail
                          go_roundw
                          case rel => exact ⟨k + 1, _, by omega, by omega, by go_num, rfl, below_drewN HW.out _, HB3.out⟩
                          case measure => simp [intOf]; omega
                        · have da : ((o.n.id : Int) != p.n.id) = true := by simpa using ha
                          have HB3 := Lib.hid (idt_step HBB.out HTK.out (by unfold idTst; exact decide_eq_true ha))
                          clear ha HBB
                          go_wp2_with fail
                          go_quiet (fail)
                          go_wp2_with fail
                          go_roundw
                          case rel => exact ⟨k + 1, _, by omega, by omega, by go_num, rfl, below_drewN HW.out _, HB3.out⟩
                          case measure => simp [intOf]; omega
                    · obtain rfl : k = i0 := by omega
                      have hbb := HBB.out
                      have hP3 := HP2.out
                      cases b with
                      | false =>
                        have hRR : plIds [] T = false := by
                          rw [← hP3, Bool.and_eq_false_iff]; left; exact hbb.symm
                        have HRR := Lib.hid hRR
                        obtain rfl : 5 = R := by rw [← HR6.out, HRR.out]; rfl
                        clear hbb hP3 hRR HR6 HP2 HBB hlt2
                        go_wp2_with fail
                        go_ret
                        exact ⟨rfl, HB.out.trans (HW.out.mono HB.out.size)⟩
                      | true =>
                        have HP4 := Lib.hid (show plIds (T.take k) (T.drop k) = plIds [] T by
                          rw [← hP3]
                          have e : (bn && (T.take (k - 1)).all (idTst p.pl)) = true := hbb.symm
                          rw [e, Bool.true_and])
                        clear hbb hP3 HP2 HBB hlt2
                        go_wp2_with fail
                        go_roundw
                        case rel => exact ⟨k + 1, by omega, by omega, by go_num, HW.out, HP4.out⟩
                        case measure => simp [intOf]; omega
                · obtain rfl : i0 = m := by omega
                  have hP := HP.out
                  rw [List.drop_of_length_le (by have := HTL.out; omega)] at hP
                  have hR6 := HR6.out
                  rw [← hP] at hR6
                  obtain rfl : 0 = R := hR6
                  clear hP HR6 HP hlt hi1 hi2
                  go_wp2_with fail
                  go_ret
                  exact ⟨rfl, HB.out.trans (HW.out.mono HB.out.size)⟩
end Go.Proofs.YthfljcpfcnddhaaGreatDoor
