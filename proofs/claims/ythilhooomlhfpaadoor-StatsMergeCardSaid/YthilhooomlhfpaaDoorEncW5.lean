/- The walks of enc's known, Check, plain, Plain at whatever values. -/
import Derived.Test.YthilhooomlhfpaaDoorEncW4
import Derived.Test.YthilhooomlhfpaaDoorEnc3
import Derived.Test.YthilhooomlhfpaaDoorWireW6
import Derived.Test.YthilhooomlhfpaaDoorErrsAt
import Derived.Test.YthilhooomlhfpaaDoorBuildS
namespace Go.Proofs.YthilhooomlhfpaaDoor
set_option linter.unusedVariables false
open Go Go.RowKit Go.ChangeShapes

theorem IsErr.some' {w : World} {adr : Nat → Addr} {e : GErr} {v : Value} (h : IsErr w adr e v) (hn : e ≠ .nil) : ∃ T a, v = .iface T (.pointer (some a)) ∧ (T = 232 ∨ T = 128) := by
  cases e with
  | nil => exact absurd rfl hn
  | sent k => exact ⟨_, _, h.2.2, .inl rfl⟩
  | fault k p =>
    obtain ⟨_, _, b, h3, _⟩ := h
    exact ⟨_, _, h3, .inr rfl⟩

set_option maxRecDepth 100000 in
set_option maxHeartbeats 1000000 in
theorem known_kind (kind n : Int) (w : World) (adr : Nat → Addr) (hE : ErrsAt w adr [2, 4]) (h : kind < 1 ∨ 5 < kind) :
    Calls Tryd.prog 84 #[.int .i64 kind, .int .i64 n] w fun e w' => e = .returned (.iface 232 (.pointer (some (adr 4)))) ∧ w' = w := by
  have e4 := hE.cell 4 (by decide)
  unfold gErr at e4
  clear hE
  by_cases h1 : kind < 1
  · clear h
    go_enter Tryd.func84, Tryd.ntmps84
    go_wp2_with fail
    go_ret
    exact ⟨rfl, rfl⟩
  · have h5 : 5 < kind := by omega
    clear h
    go_enter Tryd.func84, Tryd.ntmps84
    go_wp2_with fail
    go_ret
    exact ⟨rfl, rfl⟩

set_option maxRecDepth 100000 in
set_option maxHeartbeats 1000000 in
theorem known_bound (kind n : Int) (w : World) (adr : Nat → Addr) (hE : ErrsAt w adr [2, 4]) (h1 : 1 ≤ kind) (h5 : kind ≤ 5) (h : n < 0 ∨ 20000 < n) :
    Calls Tryd.prog 84 #[.int .i64 kind, .int .i64 n] w fun e w' => e = .returned (.iface 232 (.pointer (some (adr 2)))) ∧ w' = w := by
  have e2 := hE.cell 2 (by decide)
  unfold gErr at e2
  clear hE
  by_cases h2 : n < 0
  · clear h
    go_enter Tryd.func84, Tryd.ntmps84
    go_wp2_with fail
    go_ret
    exact ⟨rfl, rfl⟩
  · have h3 : 20000 < n := by omega
    clear h
    go_enter Tryd.func84, Tryd.ntmps84
    go_wp2_with fail
    go_ret
    exact ⟨rfl, rfl⟩

/-- what known tells -/
def manyErr (kind n : Int) : GErr := if kind < 1 ∨ 5 < kind then .sent 4 else if n < 0 ∨ 20000 < n then .sent 2 else .nil
theorem known_any (kind n : Int) (w : World) (adr : Nat → Addr) (hE : ErrsAt w adr [2, 4]) :
    Calls Tryd.prog 84 #[.int .i64 kind, .int .i64 n] w fun e w' => (∃ u, e = .returned u ∧ IsErr w' adr (manyErr kind n) u) ∧ w' = w := by
  unfold manyErr
  by_cases h : kind < 1 ∨ 5 < kind
  · rw [if_pos h]
    exact (known_kind kind n w adr hE h).mono fun e w' ⟨h1, h2⟩ => ⟨⟨_, h1, by decide, by decide, rfl⟩, h2⟩
  · rw [if_neg h]
    by_cases h' : n < 0 ∨ 20000 < n
    · rw [if_pos h']
      exact (known_bound kind n w adr hE (by omega) (by omega) h').mono fun e w' ⟨h1, h2⟩ => ⟨⟨_, h1, by decide, by decide, rfl⟩, h2⟩
    · rw [if_neg h']
      exact (known_ok kind n w (by omega) (by omega) (by omega) (by omega)).mono fun e w' ⟨h1, h2⟩ => ⟨⟨_, h1, rfl⟩, h2⟩

set_option maxRecDepth 100000 in
set_option maxHeartbeats 1000000 in
theorem check_early (kind : Int) (v : Value) (l : List Val) (w : World) (a : Addr) (hI : IsVals w v l)
    (hK : Calls Tryd.prog 84 #[.int .i64 kind, .int .i64 (l.length : Nat)] w fun e w' => e = .returned (.iface 232 (.pointer (some a))) ∧ w' = w) :
    Calls Tryd.prog 53 #[.int .i64 kind, v] w fun e w' => e = .returned (.iface 232 (.pointer (some a))) ∧ Below w.heap.size w w' := by
  obtain ⟨ad, cap, rfl⟩ := hI.form
  clear hI
  go_enter Tryd.func53, Tryd.ntmps53
  go_wp2_with fail
  refine hK.mono ?_; rintro e w1 ⟨rfl, rfl⟩
  go_wp2_with fail
  go_ret
  exact ⟨rfl, Below.refl _ _⟩

set_option maxRecDepth 100000 in
set_option maxHeartbeats 1000000 in
theorem check_bad' (kind : Int) (v : Value) (l : List Val) (w : World) (adr : Nat → Addr) (hE : ErrsAt w adr [2, 4]) (hI : IsVals w v l) (h1 : 1 ≤ kind) (h5 : kind ≤ 5) (hl : l.length ≤ 20000) (hO : ∀ x ∈ l, x.Ok)
    (i : Nat) (x : Val) (hx : l[i]? = some x) (hn : ¬ OkP kind x) (hP : ∀ j y, j < i → l[j]? = some y → OkP kind y) :
    Calls Tryd.prog 53 #[.int .i64 kind, v] w fun e w' => (∃ u, e = .returned u ∧ IsErr w' adr (.fault 4 (i : Nat)) u) ∧ Below w.heap.size w w' := by
  obtain ⟨iv, hiv, hzv, hsv⟩ := val_info
  have hsz : (Tryd.prog.info? 34).map (·.size) = some (valA ⟨0, 0, ⟨#[]⟩⟩).size := by rw [hiv]; simp [hsv, valA]
  have hil : i < l.length := (List.getElem?_eq_some_iff.1 hx).1
  have HI := Lib.hid hI; have HO := Lib.hid hO; have HP := Lib.hid hP; have HE := Lib.hid hE; have HX := Lib.hid hx; have HN := Lib.hid hn
  obtain ⟨ad, cap, rfl⟩ := hI.form
  clear hI hO hP hE hx hn
  go_enter Tryd.func53, Tryd.ntmps53
  go_wp2_with fail
  refine (known_ok kind l.length w h1 h5 (by omega) (by omega)).mono ?_; rintro e w1 ⟨rfl, rfl⟩
  go_wp2_with fail
  go_loopw [17] (fun j wr => ∃ k : Nat, k ≤ i ∧ j = .int .i64 (k : Nat) ∧ Below w1.heap.size w1 wr) (fun j _ => l.length - (intOf j).toNat)
  case atStart => exact ⟨0, Nat.zero_le _, rfl, Below.refl _ _⟩
  case round =>
    obtain ⟨k, hk, rfl, hb⟩ := hrel
    have hlt : k < l.length := by omega
    obtain ⟨b0, off, rfl, hq, hlt0, hc⟩ := (HI.out.below hb (Nat.le_refl _)).at (by omega)
    have hin : (k : Int) < (l.length : Int) := by omega
    by_cases hki : k < i
    · have hcx := hc k l[k] (List.getElem?_eq_getElem hlt)
      have hox := HO.out l[k] (List.getElem_mem hlt)
      have hpx := HP.out k l[k] hki (List.getElem?_eq_getElem hlt)
      generalize l[k] = y at *
      have hOK := Lib.hid (fun w2 => ok_yes kind y hox w2 hpx)
      have Hcx := Lib.hid hcx.cells
      clear hq hc hcx hox hpx
      go_wp2_with (first
        | (refine wpList_load_cells rfl 34 _ rfl b0 (off + k * 3) rfl (valA y) _ Hcx.out Tryd.underlying34 rfl hsz ?_)
        | (refine wpList_alloc_row rfl 34 rfl iv _ _ hiv hzv rfl ?_)
        | (refine wpList_store_new rfl rfl 34 _ _ rfl rfl _ (valA y) rfl hsz rfl (valA_one y) ?_)
        | (refine wpList_load_row rfl 34 _ rfl wr.heap.size rfl 34 (valA y) (0, 0) _ (heap_alloc_last _ _) Tryd.underlying34 rfl hsz ?_))
      refine (hOK.out _).mono ?_; rintro e w2 ⟨rfl, hb2⟩
      go_wp2_with fail
      go_roundw
      case rel => exact ⟨k + 1, by omega, by go_num, (hb.alloc hb.size _).trans (hb2.mono (by simp; have := hb.size; omega))⟩
      case measure => simp [intOf]; omega
    · obtain rfl : k = i := by omega
      have hcx := hc k x HX.out
      have hox := HO.out x (List.mem_of_getElem? HX.out)
      have hOK := Lib.hid (fun w2 => ok_no kind x hox w2 HN.out)
      have Hcx := Lib.hid hcx.cells
      clear hq hc hcx hox
      go_wp2_with (first
        | (refine wpList_load_cells rfl 34 _ rfl b0 (off + k * 3) rfl (valA x) _ Hcx.out Tryd.underlying34 rfl hsz ?_)
        | (refine wpList_alloc_row rfl 34 rfl iv _ _ hiv hzv rfl ?_)
        | (refine wpList_store_new rfl rfl 34 _ _ rfl rfl _ (valA x) rfl hsz rfl (valA_one x) ?_)
        | (refine wpList_load_row rfl 34 _ rfl wr.heap.size rfl 34 (valA x) (0, 0) _ (heap_alloc_last _ _) Tryd.underlying34 rfl hsz ?_))
      refine (hOK.out _).mono ?_; rintro e w2 ⟨rfl, hb2⟩
      have hbw2 : Below w1.heap.size w1 w2 := (hb.alloc hb.size _).trans (hb2.mono (by simp; have := hb.size; omega))
      have e4 := (HE.out.below hbw2).cell 4 (by decide)
      unfold gErr at e4
      go_wp2_with fail
      go_ret
      exact ⟨⟨_, rfl, by decide, by decide, _, rfl, by rw [World.cell?_alloc_at _ _ _ _ rfl]; rfl, by rw [World.cell?_alloc_at _ _ _ _ rfl]; rfl⟩, hbw2.alloc hbw2.size _⟩

/-- Check at whatever values -/
theorem check_any (kind : Int) (v : Value) (l : List Val) (w : World) (adr : Nat → Addr) (hE : ErrsAt w adr [2, 4]) (hI : IsVals w v l) (hO : ∀ x ∈ l, x.Ok) :
    Calls Tryd.prog 53 #[.int .i64 kind, v] w fun e w' => (∃ u, e = .returned u ∧ IsErr w' adr (valsErr kind l) u) ∧ Below w.heap.size w w' := by
  unfold valsErr
  by_cases h : kind < 1 ∨ 5 < kind
  · rw [if_pos h]
    exact (check_early kind v l w _ hI (known_kind kind _ w adr hE h)).mono fun e w' ⟨h1, h2⟩ => ⟨⟨_, h1, by decide, by decide, rfl⟩, h2⟩
  · rw [if_neg h]
    by_cases h' : 20000 < l.length
    · rw [if_pos h']
      exact (check_early kind v l w _ hI (known_bound kind _ w adr hE (by omega) (by omega) (.inr (by omega)))).mono fun e w' ⟨h1, h2⟩ => ⟨⟨_, h1, by decide, by decide, rfl⟩, h2⟩
    · rw [if_neg h']
      cases hb : badAt kind l 0 with
      | none => exact (check_vals kind v l w hI (by omega) (by omega) (by omega) hO ((badAt_none kind l 0).1 hb)).mono fun e w' ⟨h1, h2⟩ => ⟨⟨_, h1, rfl⟩, h2⟩
      | some i =>
        obtain ⟨q, x, hj, hx, hn, hP⟩ := badAt_some kind l 0 i hb
        obtain rfl : i = q := by omega
        exact check_bad' kind v l w adr hE hI (by omega) (by omega) (by omega) hO i x hx hn hP

theorem text_none (B b : Nat) (w : World) (h : BitsAt B b 0 0 w) :
    Calls Tryd.prog 145 #[.pointer (some ⟨b, 0, none⟩)] w fun e w' => e = .returned (.string ⟨#[]⟩) ∧ w' = w := text_bits B b 0 0 w h

set_option maxRecDepth 100000 in
set_option maxHeartbeats 2000000 in
theorem plain_texts (v : Value) (l : List Val) (w : World) (hI : IsVals w v l) (hl : l.length ≤ 20000) (hP : ∀ x ∈ l, x.s.size ≤ 100) :
    Calls Tryd.prog 121 #[.int .i64 4, v] w fun e w' => e = .returned (.string ⟨(textsB l).toArray⟩) ∧ Below w.heap.size w w' := by
  obtain ⟨iv, hiv, hzv, hsv⟩ := val_info
  have hsz : (Tryd.prog.info? 34).map (·.size) = some (valA ⟨0, 0, ⟨#[]⟩⟩).size := by rw [hiv]; simp [hsv, valA]
  have hBd0 : BuildAt w.heap.size w.heap.size [] ((w.alloc (.cells #[.pointer none, .slice none 0 0] 169)).alloc (.cells #[.slice none 0 0, .int .i64 0] 222)) :=
    (BuildAt.fresh w).below ((Below.refl _ _).alloc (Nat.le_refl _) _)
  have hbk0 : ((w.alloc (.cells #[.pointer none, .slice none 0 0] 169)).alloc (.cells #[.slice none 0 0, .int .i64 0] 222)).heap[w.heap.size + 1]? = some (.cells #[.slice none 0 0, .int .i64 0] 222 (0, 0)) := by
    simpa using heap_alloc_new (w.alloc (.cells #[.pointer none, .slice none 0 0] 169)) (.cells #[.slice none 0 0, .int .i64 0] 222)
  have hsz2 : ((w.alloc (.cells #[.pointer none, .slice none 0 0] 169)).alloc (.cells #[.slice none 0 0, .int .i64 0] 222)).heap.size = w.heap.size + 2 := by simp
  have hbw : Below w.heap.size w ((w.alloc (.cells #[.pointer none, .slice none 0 0] 169)).alloc (.cells #[.slice none 0 0, .int .i64 0] 222)) := ((Below.refl _ _).alloc (Nat.le_refl _) _).alloc (by simp) _
  have HI := Lib.hid hI; have HP := Lib.hid hP; have HBd := Lib.hid hBd0; have Hbk := Lib.hid hbk0; have Hsz2 := Lib.hid hsz2; have Hbw := Lib.hid hbw
  obtain ⟨ad, cap, rfl⟩ := hI.form
  clear hI hP hBd0 hbk0 hsz2 hbw
  go_enter Tryd.func121, Tryd.ntmps121
  go_wp2_with fail
  generalize (w.alloc (.cells #[.pointer none, .slice none 0 0] 169)).alloc (.cells #[.slice none 0 0, .int .i64 0] 222) = W2 at *
  go_loopw [11] (fun i wr => ∃ k : Nat, k ≤ l.length ∧ i = .int .i64 (k : Nat) ∧ BuildAt w.heap.size w.heap.size (textsB (l.take k)) wr ∧ wr.heap[w.heap.size + 1]? = some (.cells #[.slice none 0 0, .int .i64 0] 222 (0, 0)) ∧ Below w.heap.size w wr) (fun i _ => l.length - (intOf i).toNat)
  case atStart => exact ⟨0, Nat.zero_le _, rfl, by simpa [textsB] using HBd.out, Hbk.out, Hbw.out⟩
  case round =>
    obtain ⟨k, hkl, rfl, hbd, hbk, hb⟩ := hrel
    have Hbd := Lib.hid hbd; have Hbk := Lib.hid hbk; have Hb := Lib.hid hb
    by_cases hlt : k < l.length
    · obtain ⟨b0, off, rfl, hq, hlt0, hc⟩ := (HI.out.below hb (Nat.le_refl _)).at (by omega)
      have hcx := hc k l[k] (List.getElem?_eq_getElem hlt)
      have hpx := HP.out l[k] (List.getElem_mem hlt)
      have hn : textsB (l.take (k + 1)) = textsB (l.take k) ++ textOf l[k].s.data.toList := by
        rw [List.take_succ_eq_append_getElem hlt]; exact flat_snoc _ _ _
      have htl := texts_len (l.take k) fun x hx => HP.out x (List.mem_of_mem_take hx)
      rw [List.length_take] at htl
      generalize l[k] = x at *
      have Hcx := Lib.hid hcx.cells
      have hin : (k : Int) < (l.length : Int) := by omega
      have c2 : (wr.alloc (.cells (valA x) 34)).cell? ⟨wr.heap.size, 2, none⟩ = some (.string x.s) := by rw [World.cell?_alloc_at _ _ _ _ rfl]; rfl
      have hxl := textOf_len x.s.data.toList (by rw [size_data]; exact hpx)
      rw [size_data] at hxl
      have HT := Lib.hid (fun w3 => text_any x.s w3 (by omega))
      have HW := Lib.hid (fun w3 h h3 => writeString_any w.heap.size w.heap.size (textsB (l.take k)) (textOf x.s.data.toList) w3 h (by omega) h3)
      have Hn := Lib.hid hn
      clear hq hc hcx hn hbd hbk hb hpx hxl htl
      go_wp2_with (first
          | (refine wpList_load_cells rfl 34 _ rfl b0 (off + k * 3) rfl (valA x) _ Hcx.out Tryd.underlying34 rfl hsz ?_)
          | (refine wpList_alloc_row rfl 34 rfl iv _ _ hiv hzv rfl ?_)
          | (refine wpList_store_new rfl rfl 34 _ _ rfl rfl _ (valA x) rfl hsz rfl (valA_one x) ?_))
      refine (HT.out _).mono ?_; rintro e w3 ⟨rfl, hb3⟩
      have hb3' : Below wr.heap.size wr w3 := ((Below.refl wr.heap.size wr).alloc (Nat.le_refl _) _).trans (hb3.mono (by simp))
      have Hb3 := Lib.hid hb3'
      clear hb3 hb3'
      go_wp2_with fail
      refine (HW.out w3 (Hbd.out.below Hb3.out) (by have := Hb3.out.size; have := Hb.out.size; omega)).mono ?_; rintro e w4 ⟨rfl, hbd4, hb4, hk4⟩
      have hbk4 := hk4 (w.heap.size + 1) _ ((Hb3.out.block _ (Array.getElem?_eq_some_iff.1 Hbk.out).1).trans Hbk.out) (by simp) (by intro c fz h; injection h with _ h2 _; exact absurd h2 (by decide))
      have Hbd4 := Lib.hid hbd4; have Hbk4 := Lib.hid hbk4; have Hb4 := Lib.hid hb4
      clear hbd4 hbk4 hb4 hk4
      go_wp2_with fail
      go_roundw
      case rel => exact ⟨k + 1, by omega, by go_num, by rw [Hn.out]; exact Hbd4.out, Hbk4.out, (Hb.out.trans (Hb3.out.mono Hb.out.size)).trans Hb4.out⟩
      case measure => simp [intOf]; omega
    · obtain rfl : k = l.length := by omega
      rw [List.take_length] at Hbd
      have HS := Lib.hid (fun w3 h h3 => builderString_kept w.heap.size w.heap.size (textsB l) w3 h h3)
      have HB := Lib.hid (fun w3 h => text_none (w.heap.size + 1) (w.heap.size + 1) w3 h)
      have htl := texts_len l HP.out
      have htl2 : (textsB l).length ≤ 2020000 := by omega
      generalize hT : textsB l = T at *
      have HTT := Lib.hid hT
      clear hbd hbk hb hT
      go_wp2_with fail
      refine (HS.out wr Hbd.out Hb.out.size).mono ?_; rintro e w3 ⟨rfl, hb3, hk3⟩
      have hbk3 := hk3 (w.heap.size + 1) _ Hbk.out (by simp) (by intro c fz h; injection h with _ h2 _; exact absurd h2 (by decide))
      have Hb3 := Lib.hid hb3; have Hbk3 := Lib.hid hbk3
      clear hb3 hk3 hbk3
      go_wp2_with fail
      refine (HB.out w3 ⟨Nat.le_refl _, .slice none 0 0, Hbk3.out, World.ownsRow_nil _ _ _ _⟩).mono ?_; rintro e w4 ⟨rfl, rfl⟩
      go_wp2_with fail
      go_ret
      exact ⟨ret_of (by
        show Value.string (ByteArray.mk T.toArray ++ ByteArray.mk #[]) = _
        rw [ByteArray.mk_append_mk, HTT.out]
        simp), Hb.out.trans Hb3.out⟩

/-- plain's answer at right values -/
theorem plain_right (kind : Int) (v : Value) (l : List Val) (w : World) (hI : IsVals w v l) (hl : l.length ≤ 20000) (hO : ∀ x ∈ l, x.Ok) (h1 : 1 ≤ kind) (h5 : kind ≤ 5) (hP : ∀ x ∈ l, OkP kind x) :
    Calls Tryd.prog 121 #[.int .i64 kind, v] w fun e w' => e = .returned (.string ⟨(plainB kind l).toArray⟩) ∧ Below w.heap.size w w' := by
  unfold plainB
  by_cases h4 : kind = 4
  · subst h4
    rw [if_pos rfl]
    exact plain_texts v l w hI hl fun x hx => ((hP x hx).text rfl).2
  · rw [if_neg h4]
    exact plain_nums kind _ (wdOf_is h1 h5 h4) v l w hI hl hO

set_option maxRecDepth 100000 in
set_option maxHeartbeats 1000000 in
theorem Plain_err (kind : Int) (v : Value) (l : List Val) (w : World) (adr : Nat → Addr) (hE : ErrsAt w adr [2, 4]) (hI : IsVals w v l) (hO : ∀ x ∈ l, x.Ok) (hn : valsErr kind l ≠ .nil) :
    Calls Tryd.prog 85 #[.int .i64 kind, v] w fun e w' => (∃ u, e = .returned (.tuple #[.string ⟨#[]⟩, u]) ∧ IsErr w' adr (valsErr kind l) u) ∧ Below w.heap.size w w' := by
  have HC := Lib.hid (check_any kind v l w adr hE hI hO)
  have HN := Lib.hid hn
  obtain ⟨ad, cap, rfl⟩ := hI.form
  clear hI hO hE hn
  go_enter Tryd.func85, Tryd.ntmps85
  go_wp2_with fail
  refine HC.out.mono ?_; rintro e w1 ⟨⟨u, rfl, hu⟩, hb1⟩
  have HU := Lib.hid hu
  obtain ⟨T, a, rfl, hT⟩ := hu.some' HN.out
  clear hu
  rcases hT with rfl | rfl
  all_goals
    go_wp2_with fail
    go_ret2
    exact ⟨⟨_, rfl, HU.out⟩, hb1⟩

set_option maxRecDepth 100000 in
set_option maxHeartbeats 1000000 in
theorem Plain_ok (kind : Int) (v : Value) (l : List Val) (w : World) (adr : Nat → Addr) (hE : ErrsAt w adr [2, 4]) (hI : IsVals w v l) (hO : ∀ x ∈ l, x.Ok) (hn : valsErr kind l = .nil) :
    Calls Tryd.prog 85 #[.int .i64 kind, v] w fun e w' => e = .returned (.tuple #[.string ⟨(plainB kind l).toArray⟩, .nilIface]) ∧ Below w.heap.size w w' := by
  obtain ⟨h1, h5, hl, hP⟩ := valsErr_nil hn
  have HC := Lib.hid (check_vals kind v l w hI h1 h5 hl hO hP)
  have HQ := Lib.hid (fun w1 (h : Below w.heap.size w w1) => plain_right kind v l w1 (hI.below h (Nat.le_refl _)) hl hO h1 h5 hP)
  obtain ⟨ad, cap, rfl⟩ := hI.form
  clear hI hO hE hn h1 h5 hP
  go_enter Tryd.func85, Tryd.ntmps85
  go_wp2_with fail
  refine HC.out.mono ?_; rintro e w1 ⟨rfl, hb1⟩
  go_wp2_with fail
  refine (HQ.out w1 hb1).mono ?_; rintro e w2 ⟨rfl, hb2⟩
  go_wp2_with fail
  go_ret2
  exact ⟨rfl, below_trans hb1 hb2⟩
end Go.Proofs.YthilhooomlhfpaaDoor
