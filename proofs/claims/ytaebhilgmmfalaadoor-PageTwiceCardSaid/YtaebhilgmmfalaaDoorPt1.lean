/- A page that is written is read: plain Lean. -/
import Derived.Test.YtaebhilgmmfalaaDoorPr1
namespace Go.Proofs.YtaebhilgmmfalaaDoor
set_option linter.unusedVariables false
open Go Go.RowKit Go.ChangeShapes

theorem bodyR_cons' (c : UInt8) (t : List UInt8) : bodyR (c :: t) = if c ≠ 80 then .text else match readU t with
    | none => .text
    | some (n, k) => if 200000 < n then .text else if t.length + 1 < 5 + k + n then .text else
      if unlittle ((t.drop k).take 4) = crc ((t.drop (4 + k)).take n) then .ok ((t.drop (4 + k)).take n) (5 + k + n) else .sum := rfl
theorem page_len (b : List UInt8) : (pageOf b).length = 5 + (seven b.length).length + b.length := by
  unfold pageOf
  simp only [List.length_cons, List.length_append, little_len]
  omega
theorem bodyR_page (b r : List UInt8) (h : b.length ≤ 200000) : bodyR (pageOf b ++ r) = .ok b (pageOf b).length := by
  have e : pageOf b ++ r = 80 :: (seven b.length ++ (little 4 (crc b) ++ (b ++ r))) := by
    unfold pageOf
    simp
  have d1 : (seven b.length ++ (little 4 (crc b) ++ (b ++ r))).drop (seven b.length).length = little 4 (crc b) ++ (b ++ r) := List.drop_left
  have d2 : (seven b.length ++ (little 4 (crc b) ++ (b ++ r))).drop (4 + (seven b.length).length) = b ++ r := by
    rw [Nat.add_comm, ← List.drop_drop, d1]; exact List.drop_left' (little_len 4 (crc b))
  rw [e, bodyR_cons', if_neg (by decide), readU_seven _ (by omega)]
  simp only
  rw [if_neg (by omega), if_neg (by simp only [List.length_append, little_len]; omega), d1, d2]
  rw [show (little 4 (crc b) ++ (b ++ r)).take 4 = little 4 (crc b) from List.take_left' (little_len 4 (crc b))]
  rw [show (b ++ r).take b.length = b from List.take_left, unlittle_little _ _ (crc_lt b), if_pos rfl, page_len]
theorem ints_natsP {l : List Int} (h : ∀ x ∈ l, 0 ≤ x) : ints (nats l) = l := by
  unfold ints nats
  rw [List.map_map]
  conv => rhs; rw [← List.map_id l]
  refine List.map_congr_left fun x hx => ?_
  have := h x hx
  show ((x.toNat : Nat) : Int) = x
  omega
theorem levR_lev {m : Int} {l : List Int} (r : List UInt8) (m0 : 0 ≤ m) (m40 : m ≤ 40) (h : ∀ x ∈ l, 0 ≤ x ∧ x ≤ m) (hl : l.length ≤ 20000) (hr : (runsB (lwd m) (nats l) []).length ≤ 200000) :
    levR m l.length (lev m l ++ r) = some (nats l, (lev m l).length) := by
  unfold levR lev
  rw [readT_text _ _ hr]
  simp only
  have hb : ∀ x ∈ nats l, x < 2 ^ lwd m := by
    intro x hx
    obtain ⟨y, hy, rfl⟩ := List.mem_map.1 hx
    obtain ⟨a, b⟩ := h y hy
    exact lwd_lt m0 m40 a b
  have := readR_twice (lwd m) (nats l) [] hb (by rw [nats_len]; omega)
  rw [nats_len, List.append_nil] at this
  rw [this]
  simp
theorem oneP_plain {v : Val} (hv : v.Ok) (h : isV v.k v = true) : oneP v.k (plainB v.k [v]) = some v := by
  obtain ⟨hp, h1, h5⟩ := (isV_iff1 v.k v).1 h
  unfold oneP
  rw [if_neg (by omega)]
  have := readP_plain h1 h5 [v] (by intro x hx; simp at hx; subst hx; exact hv) (by intro x hx; simp at hx; subst hx; exact hp)
  simp only [List.length_singleton] at this
  rw [this]
  rfl
/-- stats that are written are read -/
theorem readPr_text {f : Lf} {c : Col} (co : c.Ok) (hr : Right f c) (hl : c.rep.length ≤ 20000) (r : List UInt8) : readPr (stText (knownSt c) ++ r) = some (knownSt c, (stText (knownSt c)).length) := by
  have hv := hr.vals_leJ
  rw [readPr_eq]
  have ee : (knownSt c).e.toNat = c.rep.length := by simp [knownSt]
  have en : (knownSt c).n.toNat = c.rep.length - c.vals.length := by simp only [knownSt]; omega
  have ei : (((c.rep.length - c.vals.length : Nat) : Nat) : Int) = (c.rep.length : Int) - (c.vals.length : Nat) := by omega
  by_cases hn : c.vals = []
  · have hh : (knownSt c).has = false := by simp [knownSt, hn]
    have hz : knownSt c = ⟨(c.rep.length : Nat), ((c.rep.length - c.vals.length : Nat) : Nat), false, zv, zv⟩ := by
      simp [knownSt, hn, loOf, hiOf]
    unfold stText
    rw [hh, ee, en, if_neg (by simp), List.append_assoc, List.append_assoc]
    unfold readRef
    rw [readU_seven _ (by omega)]
    simp only
    rw [if_neg (by omega), List.drop_left, readU_seven _ (by omega)]
    simp only
    have hlen : c.vals.length = 0 := by rw [hn]; rfl
    have hg : (seven c.rep.length ++ (seven (c.rep.length - c.vals.length) ++ ([0] ++ r)))[(seven c.rep.length).length + (seven (c.rep.length - c.vals.length)).length]? = some 0 := by
      rw [← List.append_assoc, List.getElem?_append_right (by rw [List.length_append]; omega)]
      simp
    rw [if_neg (by omega), if_neg (by simp only [List.length_append, List.length_cons]; omega), hg]
    simp only [Option.getD_some]
    rw [if_neg (by decide), if_neg (by rw [hlen]; simp), if_pos (by decide), hz]
    simp [Nat.add_assoc]
  · have hlo := hr.vals _ (loOf_mem _ hn)
    have hhi := hr.vals _ (hiOf_mem _ hn)
    have olo := co.vals.2 _ (loOf_mem _ hn)
    have ohi := co.vals.2 _ (hiOf_mem _ hn)
    have klo : (loOf c.vals).k = f.kind := hlo.k
    have khi : (hiOf c.vals).k = f.kind := hhi.k
    have vlo : isV (loOf c.vals).k (loOf c.vals) = true := (isV_iff1 _ _).2 ⟨by rw [klo]; exact hlo, by rw [klo]; exact hr.k1, by rw [klo]; exact hr.k5⟩
    have vhi : isV (hiOf c.vals).k (hiOf c.vals) = true := (isV_iff1 _ _).2 ⟨by rw [khi]; exact hhi, by rw [khi]; exact hr.k1, by rw [khi]; exact hr.k5⟩
    have hh : (knownSt c).has = true := by simp [knownSt, hn]
    have hpos : 0 < c.vals.length := by cases hc : c.vals with | nil => exact absurd hc hn | cons _ _ => simp
    have hz : knownSt c = ⟨(c.rep.length : Nat), ((c.rep.length - c.vals.length : Nat) : Nat), true, loOf c.vals, hiOf c.vals⟩ := by
      rw [ei]; simp [knownSt, hn]
    have hb : ((UInt8.ofNat (loOf c.vals).k.toNat).toNat : Int) = f.kind := by
      have := hr.k1; have := hr.k5
      rw [klo, UInt8.toNat_ofNat']; omega
    have p1 := plainB_one (loOf c.vals) (by have := okP_size hlo; omega)
    have p2 := plainB_one (hiOf c.vals) (by have := okP_size hhi; omega)
    have s1 := okP_size hlo
    have s2 := okP_size hhi
    unfold stText
    rw [hh, ee, en, if_pos (by show (true && (isV (loOf c.vals).k (loOf c.vals) && isV (hiOf c.vals).k (hiOf c.vals))) = true; rw [vlo, vhi]; rfl), List.append_assoc, List.append_assoc]
    show readRef (seven c.rep.length ++ (seven (c.rep.length - c.vals.length) ++ (1 :: UInt8.ofNat (loOf c.vals).k.toNat :: (oneText (loOf c.vals) ++ oneText (hiOf c.vals)) ++ r))) = _
    unfold readRef
    rw [readU_seven _ (by omega)]
    simp only
    rw [if_neg (by omega), List.drop_left, readU_seven _ (by omega)]
    simp only
    generalize hX : seven c.rep.length ++ (seven (c.rep.length - c.vals.length) ++ (1 :: UInt8.ofNat (loOf c.vals).k.toNat :: (oneText (loOf c.vals) ++ oneText (hiOf c.vals)) ++ r)) = X
    have hd : X.drop ((seven c.rep.length).length + (seven (c.rep.length - c.vals.length)).length) = 1 :: UInt8.ofNat (loOf c.vals).k.toNat :: (oneText (loOf c.vals) ++ (oneText (hiOf c.vals) ++ r)) := by
      rw [← hX, ← List.drop_drop, List.drop_left, List.drop_left]
      simp
    generalize hp : (seven c.rep.length).length + (seven (c.rep.length - c.vals.length)).length = p at *
    have hlX : p + 2 ≤ X.length := by
      have h := congrArg List.length hd
      simp only [List.length_drop, List.length_cons] at h
      omega
    have g0 : X[p]? = some 1 := by
      have h := congrArg (fun l => l[0]?) hd
      simpa using h
    have g1 : X[p + 1]? = some (UInt8.ofNat (loOf c.vals).k.toNat) := by
      have h := congrArg (fun l => l[1]?) hd
      simpa using h
    have hd2 : X.drop (p + 1 + 1) = oneText (loOf c.vals) ++ (oneText (hiOf c.vals) ++ r) := by
      have h := congrArg (fun l => l.drop 2) hd
      simpa [List.drop_drop] using h
    have ht : twoRef X ((UInt8.ofNat (loOf c.vals).k.toNat).toNat : Nat) (p + 1 + 1) = some (loOf c.vals, hiOf c.vals, p + 1 + 1 + (oneText (loOf c.vals)).length + (oneText (hiOf c.vals)).length) := by
      have t1 : readT (X.drop (p + 1 + 1)) = some (plainB (loOf c.vals).k [loOf c.vals], (oneText (loOf c.vals)).length) := by
        rw [hd2]; exact readT_text _ _ (by omega)
      have t2 : readT (X.drop (p + 1 + 1 + (oneText (loOf c.vals)).length)) = some (plainB (hiOf c.vals).k [hiOf c.vals], (oneText (hiOf c.vals)).length) := by
        rw [← List.drop_drop, hd2, List.drop_left]; exact readT_text _ _ (by omega)
      have o1 : oneP ((UInt8.ofNat (loOf c.vals).k.toNat).toNat : Nat) (plainB (loOf c.vals).k [loOf c.vals]) = some (loOf c.vals) := by
        rw [hb, ← klo]; exact oneP_plain olo vlo
      have o2 : oneP ((UInt8.ofNat (loOf c.vals).k.toNat).toNat : Nat) (plainB (hiOf c.vals).k [hiOf c.vals]) = some (hiOf c.vals) := by
        rw [hb, ← khi]; exact oneP_plain ohi vhi
      have hle : (hiOf c.vals).less (loOf c.vals) = false := by
        have hall : AllIs f.kind c.vals := fun x hx => ⟨co.vals.2 x hx, (hr.vals x hx).is hr.k1 hr.k5⟩
        exact loOf_le hall (hiOf_mem _ hn)
      unfold twoRef
      rw [t1]; simp only; rw [o1]; simp only; rw [t2]; simp only; rw [o2]; simp only; rw [hle]; rfl
    rw [if_neg (by omega), if_neg (by omega), g0]
    simp only [Option.getD_some]
    rw [if_neg (by decide), if_neg (by rw [show decide (c.rep.length - c.vals.length < c.rep.length) = true by simpa using (by omega)]; decide), if_neg (by decide), if_neg (by omega), g1]
    simp only [Option.getD_some]
    rw [ht, hz]
    simp only [Option.some.injEq, Prod.mk.injEq, true_and]
    simp only [List.length_append, List.length_cons]
    omega
theorem readDi_dictP {kind : Int} (h1 : 1 ≤ kind) (h5 : kind ≤ 5) (l : List Val) (hl : l.length ≤ 1900) (hO : ∀ x ∈ l, x.Ok) (hP : ∀ x ∈ l, OkP kind x) : readDi kind (dictB kind l) l.length = some l := by
  have hm : ∀ x ∈ unlikeV [] l, x ∈ l := fun x hx => (unlikeV_mem l [] x hx).resolve_left (by simp)
  have hlen := unlikeV_len l []
  simp only [List.length_nil, Nat.zero_add] at hlen
  have hp := readP_plain h1 h5 (unlikeV [] l) (fun x hx => hO x (hm x hx)) (fun x hx => hP x (hm x hx))
  have hpl := plainB_len kind (unlikeV [] l) (fun h4 x hx => ((hP x (hm x hx)).text h4).2)
  have hlt := placesV_lt l []
  have hb := places_back l []
  have hpn := placesV_len l []
  have hr := readR_twice (placeW (unlikeV [] l).length) (placesV [] l) [] (fun x hx => placeW_fits2 (unlikeV [] l).length (by omega) x (hlt x hx)) (by rw [hpn]; omega)
  unfold dictB
  generalize runsB (placeW (unlikeV [] l).length) (placesV [] l) [] = R at *
  rw [List.append_nil, hpn] at hr
  have hu := readU_seven (unlikeV [] l).length (by omega) (textOf (plainB kind (unlikeV [] l)) ++ R)
  have ht := readT_text (plainB kind (unlikeV [] l)) R (by omega)
  unfold readDi
  rw [List.append_assoc, hu]
  simp only []
  rw [if_neg (by omega), List.drop_left, ht]
  simp only []
  rw [hp]
  simp only []
  rw [List.drop_left, hr]
  simp only []
  rw [hb, if_pos ⟨trivial, hlt, (sameB_iff _ _).2 rfl⟩]
/-- values by their best way are read -/
theorem bestR_best {kind : Int} {l : List Val} (h1 : 1 ≤ kind) (h5 : kind ≤ 5) (hO : ∀ x ∈ l, x.Ok) (hP : ∀ x ∈ l, OkP kind x) (hl : l.length ≤ 1900) : bestR kind (bestB kind l).1 (bestB kind l).2 l.length = some l := by
  unfold bestR
  rcases bestB_cases kind l with h | h | ⟨hk, h⟩ | ⟨h4, h⟩
  · rw [h, if_pos rfl]; exact readP_plain h1 h5 l hO hP
  · rw [h, if_neg (by simp), if_pos rfl]; exact readDi_dictP h1 h5 l hl hO hP
  · rw [h, if_neg (by simp), if_neg (by simp), if_pos ⟨rfl, hk⟩]; exact readD_delta hk l hO hP
  · rw [h]
    subst h4
    have hs100 : ∀ x ∈ bytesL (strsV l), x.length ≤ 100 := fun x hx => by
      obtain ⟨y, hy, rfl⟩ := List.mem_map.1 hx
      obtain ⟨z, hz, rfl⟩ := List.mem_map.1 hy
      rw [size_data]; exact ((hP z hz).text rfl).2
    have hbl : (bytesL (strsV l)).length = l.length := by unfold bytesL strsV; rw [List.length_map, List.length_map]
    rw [if_neg (by simp), if_neg (by simp), if_neg (by simp), if_pos ⟨rfl, rfl⟩, ← hbl, readX_prefix _ hs100, Option.map_some]
    unfold textsV bytesL strsV
    rw [List.map_map, List.map_map]
    conv => rhs; rw [← List.map_id l]
    congr 1
    refine List.map_congr_left fun x hx => ?_
    exact textV_of (hP x hx)
/-- the body of a page gives the column -/
theorem colR_body {f : Lf} {c : Col} (co : c.Ok) (hr : Right f c) (h0 : 0 < c.rep.length) (hl : c.rep.length ≤ 1000) (hz : (bestB f.kind c.vals).2.length ≤ 200000) : colR f (bodyB f c) = some c := by
  have hv := hr.vals_leJ
  obtain ⟨b1, b2⟩ := hr.reps
  have w1 := lwd_le hr.r0 hr.r40
  have w2 := lwd_le hr.d0 hr.d40
  have a1 := runsB_len (lwd f.mr) (by omega) _ (nats c.rep) [] rfl (by rw [nats_len]; simp; omega)
  have a2 := runsB_len (lwd f.md) (by omega) _ (nats c.df) [] rfl (by rw [nats_len, ← hr.len]; simp; omega)
  rw [nats_len] at a1 a2
  simp only [List.length_nil] at a1 a2
  rw [← hr.len] at a2
  have hb := bestB_fst f.kind c.vals
  have he : (knownSt c).e = (c.rep.length : Nat) := rfl
  have hen : ((knownSt c).e - (knownSt c).n).toNat = c.vals.length := by simp only [knownSt]; omega
  have l1 := levR_lev (m := f.mr) (lev f.md c.df ++ (UInt8.ofNat (bestB f.kind c.vals).1.toNat :: textOf (bestB f.kind c.vals).2)) hr.r0 hr.r40 b1 (by omega) (by omega)
  have l2 := levR_lev (m := f.md) (UInt8.ofNat (bestB f.kind c.vals).1.toNat :: textOf (bestB f.kind c.vals).2) hr.d0 hr.d40 b2 (by rw [← hr.len]; omega) (by omega)
  rw [← hr.len] at l2
  have hp := readPr_text co hr (by omega) (lev f.mr c.rep ++ (lev f.md c.df ++ (UInt8.ofNat (bestB f.kind c.vals).1.toNat :: textOf (bestB f.kind c.vals).2)))
  have hcode : (((UInt8.ofNat (bestB f.kind c.vals).1.toNat).toNat : Nat) : Int) = (bestB f.kind c.vals).1 := by rw [UInt8.toNat_ofNat']; omega
  have hc : (⟨f.id, ints (nats c.rep), ints (nats c.df), c.vals⟩ : Col) = c := by
    rw [ints_nats _ (fun x hx => (b1 x hx).1), ints_nats _ (fun x hx => (b2 x hx).1), hr.id]
  unfold bodyB
  rw [colR_5 hp (by rw [he]; omega) (by rw [he, List.drop_left]; exact l1) (by rw [he, List.drop_left, List.drop_left]; exact l2)]
  rw [List.drop_left, ← List.drop_drop, List.drop_left, List.drop_left]
  have ht := readT_text (bestB f.kind c.vals).2 [] hz
  rw [List.append_nil] at ht
  rw [valsR_4 rfl ht (by simp) (by rw [hcode, hen]; exact bestR_best hr.k1 hr.k5 co.vals.2 hr.vals (by omega)), hc, if_pos]
  refine ⟨(GErr.isNil_iff _).2 (hr.nil (by simp)), stEq_self _⟩
theorem pageR_page {f : Lf} {c : Col} (r : List UInt8) (co : c.Ok) (hr : Right f c) (h0 : 0 < c.rep.length) (hl : c.rep.length ≤ 1000) : pageR f (pageB f c ++ r) = .inr (c, (pageB f c).length) := by
  obtain ⟨-, -, -, -, hb, -, -, hz⟩ := body_len co hr hl
  have hrt : rightB f = true := by unfold rightB; rw [decide_eq_true_iff]; exact ⟨hr.k1, hr.k5, hr.r0, hr.r40, hr.d0, hr.d40⟩
  exact pageR_ok hrt (bodyR_page _ r (by omega)) (colR_body co hr h0 hl (by omega))
theorem peekR_page {f : Lf} {c : Col} (r : List UInt8) (co : c.Ok) (hr : Right f c) (h0 : 0 < c.rep.length) (hl : c.rep.length ≤ 1000) : peekR f (pageB f c ++ r) = .inr (knownSt c, (pageB f c).length) := by
  obtain ⟨-, -, -, -, hb, -, -, hz⟩ := body_len co hr hl
  have hrt : rightB f = true := by unfold rightB; rw [decide_eq_true_iff]; exact ⟨hr.k1, hr.k5, hr.r0, hr.r40, hr.d0, hr.d40⟩
  have hp := readPr_text co hr (by omega) (lev f.mr c.rep ++ (lev f.md c.df ++ (UInt8.ofNat (bestB f.kind c.vals).1.toNat :: textOf (bestB f.kind c.vals).2)))
  unfold peekR pageB
  rw [if_neg (by rw [hrt]; decide), bodyR_page _ r (by omega)]
  simp only
  unfold bodyB
  rw [hp]
  simp only
  rw [if_neg]
  rintro (h | ⟨h1, h2⟩)
  · have he : (knownSt c).e = (c.rep.length : Nat) := rfl
    rw [he] at h; omega
  · have hn : c.vals ≠ [] := by simpa [knownSt] using h1
    exact h2 (hr.vals _ (loOf_mem _ hn)).k
end Go.Proofs.YtaebhilgmmfalaaDoor
