/- Merged texts: Read1, Rd0, RdP, Get64, RdN, RdB, Read4, Read5, Read3, RdX, Read2, RdD, RdDz. -/
import Derived.Test.YtapiabmmfmfaeaaGreatDoorMEnc
import Derived.Test.YtapiabmmfmfaeaaGreatDoorMPlain
import Derived.Test.YtapiabmmfmfaeaaGreatDoorMBits
import Derived.Test.YtapiabmmfmfaeaaGreatDoorMReads
import Derived.Test.YtapiabmmfmfaeaaGreatDoorMDict
import Derived.Test.YtapiabmmfmfaeaaGreatDoorMDel
import Derived.Test.YtapiabmmfmfaeaaGreatDoorMPre
import Derived.Test.YtapiabmmfmfaeaaGreatDoorMWire
import Derived.Test.YtapiabmmfmfaeaaGreatDoorMDelc
/- Chapter 3 in plain Lean: what values bytes are, plain. -/
namespace Go.Proofs.YtapiabmmfmfaeaaGreatDoor
set_option maxHeartbeats 4000000
set_option linter.unusedVariables false
open Go
def signN (kind:Int) (x:Nat):Int:=if kind = 2 then (if x < 2147483648 then (x:Int) else (x:Int) - 4294967296) else if x < 9223372036854775808 then (x:Int) else (x:Int) - 18446744073709551616
def numV (kind:Int) (x:Nat):Val:=⟨kind,signN kind x,⟨#[]⟩⟩
def textV (t:List UInt8):Val:=⟨4,0,⟨t.toArray⟩⟩
def readTs:Nat → List UInt8 → Option (List Val)
 | 0,s=>if s = [] then some [] else none
 | n + 1,s=>match readT s with
  | none=>none
  | some (t,k)=>if 100 < t.length then none else (readTs n (s.drop k)).map (textV t :: ·)
def readP (kind:Int) (s:List UInt8) (n:Nat):Option (List Val) :=
 if kind = 4 then readTs n s
 else if s.length = (n * wdOf kind + 7) / 8 ∧ (kind = 1 → unlittle s < 2 ^ n) then some ((getAll (unlittle s) (wdOf kind) n).map (numV kind)) else none
theorem packN_getAll (U w:Nat):∀ n,packN w (getAll U w n) = U % 2 ^ (n * w)
 | 0=>by simp [getAll,packN,Nat.mod_one]
 | n + 1=>by
  have ih:=packN_getAll U w n
  have e:getAll U w (n + 1) = getAll U w n ++ [U / 2 ^ (n * w) % 2 ^ w]:=rfl
  rw [e,packN_snoc,ih,getAll_len,Nat.add_one_mul,Nat.pow_add,Nat.mod_mul,Nat.mul_comm (2 ^ (n * w))]
theorem packed_getAll (s:List UInt8) (w n:Nat) (h:s.length = (n * w + 7) / 8):(packed w (getAll (unlittle s) w n) = s) ↔ unlittle s < 2 ^ (n * w):=by
 unfold packed bytesOf
 rw [getAll_len,packN_getAll,← h]
 constructor
 ·intro he
  have:=congrArg unlittle he
  rw [unlittle_little _ _ (Nat.lt_of_le_of_lt (Nat.mod_le _ _) (unlittle_lt s))] at this
  rw [← this]
  exact Nat.mod_lt _ (Nat.pow_pos (by decide))
 ·intro hlt
  rw [Nat.mod_eq_of_lt hlt,little_unlittle]
theorem uN_num (kind:Int) (x:Nat) (h2:kind = 2 → x < 4294967296) (h:x < 18446744073709551616):uN (numV kind x) % 2 ^ wdOf kind = x % 2 ^ wdOf kind:=by
 unfold uN numV signN wdOf
 simp only
 by_cases c1:kind = 1
 ·rw [if_pos c1,if_neg (by omega)]
  split <;> simp only [Nat.pow_one] <;> omega
 ·rw [if_neg c1]
  by_cases c2:kind = 2
  ·rw [if_pos c2,if_pos c2]
   have e:(2:Nat) ^ 32 = 4294967296:=by decide
   rw [e]
   split <;> omega
  ·rw [if_neg c2,if_neg c2]
   have e:(2:Nat) ^ 64 = 18446744073709551616:=by decide
   rw [e]
   split <;> omega
theorem num_ok (kind:Int) (x:Nat) (h1:1 ≤ kind) (h5:kind ≤ 5) (h4:kind ≠ 4) (h:x < 2 ^ wdOf kind):(numV kind x).Ok ∧ OkP kind (numV kind x):=by
 unfold wdOf at h
 have hx:(kind = 1 → x < 2) ∧ (kind = 2 → x < 4294967296) ∧ x < 18446744073709551616:=by
  have e32:(2:Nat) ^ 32 = 4294967296:=by decide
  have e64:(2:Nat) ^ 64 = 18446744073709551616:=by decide
  by_cases c1:kind = 1
  ·rw [if_pos c1,Nat.pow_one] at h;omega
  ·rw [if_neg c1] at h
   by_cases c2:kind = 2
   ·rw [if_pos c2,e32] at h;omega
   ·rw [if_neg c2,e64] at h;omega
 obtain ⟨hx1,hx2,hx3⟩:=hx
 have hs:signN kind x = if kind = 2 then (if x < 2147483648 then (x:Int) else (x:Int) - 4294967296) else if x < 9223372036854775808 then (x:Int) else (x:Int) - 18446744073709551616:=rfl
 refine ⟨⟨by show _ ≤ kind;omega,by show kind < _;omega,?_,?_,Nat.zero_le _⟩,⟨rfl,fun c=>absurd c h4,fun _=>rfl,?_,?_⟩⟩
 ·show _ ≤ signN kind x;rw [hs];split <;> split <;> omega
 ·show signN kind x < _;rw [hs];split <;> split <;> omega
 ·intro c;show 0 ≤ signN kind x ∧ signN kind x ≤ 1;rw [hs,if_neg (by omega)];split <;> omega
 ·intro c;show -2147483648 ≤ signN kind x ∧ signN kind x ≤ 2147483647;rw [hs,if_pos c];split <;> omega
theorem text_ok (t:List UInt8) (h:t.length ≤ 100):(textV t).Ok ∧ OkP 4 (textV t):=by
 have hs:(textV t).s.size = t.length:=by show t.toArray.size = _;simp
 exact ⟨⟨by show (-9223372036854775808:Int) ≤ 4;decide,by show (4:Int) < 9223372036854775808;decide,by show (-9223372036854775808:Int) ≤ 0;decide,by show (0:Int) < 9223372036854775808;decide,by rw [hs];unfold maxLen;omega⟩,⟨rfl,fun _=>⟨rfl,by rw [hs];exact h⟩,fun c=>absurd rfl c,fun c=>absurd c (by decide),fun c=>absurd c (by decide)⟩⟩
theorem textV_bytes (t:List UInt8):(textV t).s.data.toList = t:=by simp [textV]
theorem readTs_inv:∀ (n:Nat) (s:List UInt8) (l:List Val),readTs n s = some l → textsB l = s ∧ l.length = n ∧ (∀ x ∈ l,x.Ok) ∧ ∀ x ∈ l,OkP 4 x
 | 0,s,l,h=>by
  unfold readTs at h
  split at h
  ·obtain rfl:=Option.some.inj h
   subst_vars
   exact ⟨rfl,rfl,by simp,by simp⟩
  ·cases h
 | n + 1,s,l,h=>by
  unfold readTs at h
  cases hr:readT s with
  | none=>rw [hr] at h;cases h
  | some x =>
   obtain ⟨t,k⟩:=x
   rw [hr] at h
   simp only at h
   split at h
   ·cases h
   ·rename_i h100
    cases hm:readTs n (s.drop k) with
    | none=>rw [hm] at h;cases h
    | some l' =>
     rw [hm] at h
     obtain rfl:=Option.some.inj h
     obtain ⟨i1,i2,i3,i4⟩:=readTs_inv n _ l' hm
     obtain ⟨o1,o2⟩:=text_ok t (by omega)
     refine ⟨?_,by rw [List.length_cons,i2],?_,?_⟩
     ·show textOf (textV t).s.data.toList ++ textsB l' = s
      rw [textV_bytes,i1,← readT_split hr]
     ·intro x hx;rcases List.mem_cons.1 hx with rfl | hx
      ·exact o1
      ·exact i3 x hx
     ·intro x hx;rcases List.mem_cons.1 hx with rfl | hx
      ·exact o2
      ·exact i4 x hx
end Go.Proofs.YtapiabmmfmfaeaaGreatDoor
/- What the readers' walks share: rows of the call's own past other stores; one value appended. -/
namespace Go.Proofs.YtapiabmmfmfaeaaGreatDoor
set_option maxHeartbeats 4000000
set_option linter.unusedVariables false
open Go Go.RowKit Go.ChangeShapes
theorem bslice_form {w:World} {B n s:Nat} {e:TypeId} {v:Value} {xs:List Value} (h:w.ownsRow B e s v n xs):∃ ad cap,v = .slice ad n cap:=by
 rcases h.2 with ⟨h1,h0⟩ | ⟨g,cap,cur,hv,_⟩
 ·subst h0;exact ⟨none,0,h1⟩
 ·exact ⟨_,cap,hv⟩
theorem bown_below {w w':World} {B n s:Nat} {e:TypeId} {v:Value} {xs:List Value} (h:w.ownsRow B e s v n xs) (hb:Below w.heap.size w w'):w'.ownsRow B e s v n xs:=by
 refine ⟨h.1,?_⟩
 rcases h.2 with h0 | ⟨g,cap,cur,hv,h1,h2,h3⟩
 ·exact .inl h0
 ·exact .inr ⟨g,cap,cur,hv,h1,(hb.block g (Array.getElem?_eq_some_iff.1 h2).1).trans h2,h3⟩
theorem bown_ne {w:World} {B s n b:Nat} {e T:TypeId} {v:Value} {xs:List Value} {cs:Array Value} {fr:Nat × Nat} (h:w.ownsRow B e s v n xs) (hb:w.heap[b]? = some (.cells cs T fr)) (he:T ≠ e):v.ownBlock ≠ some b:=by
 rcases h.2 with ⟨rfl,_⟩ | ⟨g,cap,cur,rfl,_,hg,_⟩
 ·simp [Value.ownBlock]
 ·intro hh
  simp only [Value.ownBlock,Option.some.injEq] at hh
  subst hh
  rw [hg] at hb
  injection hb with hb
  injection hb with _ h2 _
  exact he h2.symm
theorem bown_set {w:World} {B n s b q:Nat} {e T:TypeId} {v:Value} {xs:List Value} {cs:Array Value} (h:w.ownsRow B e s v n xs) (hb:w.heap[b]? = some (.cells cs T (0,0))) (he:T ≠ e) (y:Value) :
  (w.setCell ⟨b,q,none⟩ y).ownsRow B e s v n xs :=
 h.kept (row:=some b) ⟨rfl,rfl,rfl,by simp [World.setCell],fun k _ hk=>Below.heap_setCell _ _ _ _ (fun e:k = b=>hk (by rw [e]))⟩ (Or.inr (bown_ne h hb he))
theorem bown_set' {w:World} {B n s b q:Nat} {e T:TypeId} {v:Value} {xs:List Value} {cs:Array Value} (h:w.ownsRow B e s v n xs) (hb:w.heap[b]? = some (.cells cs T (0,0))) (hn:v.ownBlock ≠ some b) (y:Value) :
  (w.setCell ⟨b,q,none⟩ y).ownsRow B e s v n xs :=
 h.kept (row:=some b) ⟨rfl,rfl,rfl,by simp [World.setCell],fun k _ hk=>Below.heap_setCell _ _ _ _ (fun e:k = b=>hk (by rw [e]))⟩ (Or.inr hn)
theorem own_notlast {w:World} {B n s:Nat} {e:TypeId} {v:Value} {xs:List Value} (h:w.ownsRow B e s v n xs):v.ownBlock ≠ some w.heap.size:=fun hh=>by
 have:=(h.lt _ hh).2
 omega
theorem bext_list (s:ByteArray) (a:Nat):(s.extract a s.size).data.toList = s.data.toList.drop a:=by
 rw [ba_extract]
 simp only []
 rw [List.take_of_length_le (by simp)]
def RdRet (ev:Value) (B:Nat) (r:Option (List Val)) (e:Ending) (w':World):Prop :=
 match r with
 | none=>e = .returned (.tuple #[.slice none 0 0,ev])
 | some l=>∃ u,e = .returned (.tuple #[u,.nilIface]) ∧ w'.ownsRow B 41 3 u l.length (l.flatMap valCells)
theorem RdRet.bad {ev:Value} {B:Nat} {r:Option (List Val)} {w':World} (h:r = none):RdRet ev B r (.returned (.tuple #[.slice none 0 0,ev])) w':=by rw [h];exact rfl
theorem RdRet.good {ev:Value} {B:Nat} {r:Option (List Val)} {l:List Val} {u:Value} {w':World} (h:r = some l) (ho:w'.ownsRow B 41 3 u l.length (l.flatMap valCells)):RdRet ev B r (.returned (.tuple #[u,.nilIface])) w':=by rw [h];exact ⟨u,rfl,ho⟩
theorem wpList_pushVal {wr:World} {ops:Array Oper} {rest:List Oper} {o:Oper} {a:Act} {Q:Exit → Act → World → Prop} (hg:o.guard = none) (s x:Operand)
  (ho:o.op = .call { callee:=.builtin .append,args:=#[s,x],argTypes:=#[27,27] })
  (base:Nat) (v:Value) (l:List Val) (hs:a.eval s = v) (hown:wr.ownsRow base 41 3 v l.length (l.flatMap valCells)) (e':TypeId) (g:Nat) (hx:a.eval x = .slice (some ⟨g,0,none⟩) 1 1) (hgs:g = wr.heap.size)
  (hl:l.length ≤ 20000) (hbase:base ≤ wr.heap.size) (y:Val) (cs:Array Value) (hcs:cs = valA y)
  (h:∀ v' w',w'.ownsRow base 41 3 v' (l ++ [y]).length ((l ++ [y]).flatMap valCells) → (wr.alloc (.cells cs e')).grownBy w' v.ownBlock → Below base wr w' → wpList Tryz.prog ops Q rest (a.put o.dst v') w') :
  wpList Tryz.prog ops Q (o :: rest) a (wr.alloc (.cells cs e')):=by
 subst hgs hcs
 obtain ⟨i0,hi,hz0,hz1,hz2⟩:=val_infoB
 refine wpList_append_own _ hg s x _ ho base 41 i0 _ 3 32 Tryz.underlying27 hi hz0 hz1 hz2 rfl (by omega) v l.length (l.flatMap valCells) hs (hown.alloc _) ⟨wr.heap.size,0,none⟩ 1 1 (valCells y) hx rfl ?_ ?_ (by unfold maxLen;omega) (by omega) (by simp;omega) ?_
 ·intro j u hj
  rw [Go.WideShapes.add_plain,World.cell?_alloc_at _ _ _ _ rfl,Nat.zero_add]
  match j,hj with
  | 0,hj=>simp [valCells] at hj;subst hj;rfl
  | 1,hj=>simp [valCells] at hj;subst hj;rfl
  | 2,hj=>simp [valCells] at hj;subst hj;rfl
  | j + 3,hj=>simp [valCells] at hj
 ·intro u hu
  simp only [valCells,List.mem_cons,List.not_mem_nil,or_false] at hu
  rcases hu with rfl | rfl | rfl <;> rfl
 ·intro v' w' h1 h2 h3
  refine h v' w' (by simpa using h1) h2 ?_
  exact (((Below.refl base wr).alloc hbase _).grown h2 (by simp;omega) (fun k hk=>(hown.lt k hk).1))
end Go.Proofs.YtapiabmmfmfaeaaGreatDoor
/- The walk of enc.ReadPlain at texts. -/
namespace Go.Proofs.YtapiabmmfmfaeaaGreatDoor
set_option maxHeartbeats 4000000
set_option linter.unusedVariables false
open Go Go.RowKit Go.ChangeShapes
theorem readTs_step {n k:Nat} {s t:List UInt8} (h:readT s = some (t,k)) (h100:¬ 100 < t.length):readTs (n + 1) s = (readTs n (s.drop k)).map (textV t :: ·):=by
 rw [readTs,h];simp only [];rw [if_neg h100]
set_option maxRecDepth 100000 in
theorem size0 (kind:Int) (w:World) (h:kind = 1 ∨ kind = 4) :
  Calls Tryz.prog 78 #[.int .i64 kind] w fun e w'=>e = .returned (.int .i64 0) ∧ w' = w:=by
 rcases h with rfl | rfl
 all_goals
  go_enter Tryz.func78,Tryz.ntmps78
  go_wp2_with fail
  go_ret
  exact ⟨rfl,rfl⟩
set_option maxRecDepth 100000 in
theorem readPlain_err (kind n : Int) (s : ByteArray) (w : World) (adr : Nat → Addr) (hE : ErrsAt w adr [2, 4]) (h : kind < 1 ∨ 5 < kind ∨ n < 0 ∨ 20000 < n) :
    Calls Tryz.prog 47 #[.int .i64 kind, .string s, .int .i64 n] w fun e w' => (∃ u, e = .returned (.tuple #[.slice none 0 0, u]) ∧ IsErr w' adr (manyErr kind n) u) ∧ w' = w := by
  have HC := Lib.hid (known_any kind n w adr hE)
  have HN := Lib.hid (show manyErr kind n ≠ .nil by unfold manyErr; split; · simp
                                                    split; · simp
                                                    omega)
  clear hE h
  go_enter Tryz.func47, Tryz.ntmps47
  go_wp2_with fail
  refine HC.out.mono ?_; rintro e w1 ⟨⟨u, rfl, hu⟩, rfl⟩
  have HU := Lib.hid hu
  obtain ⟨T, a, rfl, hT⟩ := hu.some' HN.out
  clear hu
  rcases hT with rfl | rfl
  all_goals
    go_wp2_with fail
    go_ret2
    exact ⟨⟨_, rfl, HU.out⟩, rfl⟩
set_option maxRecDepth 100000 in
theorem readPlain_texts (s:ByteArray) (n:Nat) (T:TypeId) (x:Value) (w:World) (hn:n ≤ 20000) (hs:s.size ≤ 1000000) (hev:w.cell? ⟨1,0,none⟩ = some (.iface T x)) :
    Calls Tryz.prog 47 #[.int .i64 4,.string s,.int .i64 (n:Nat)] w fun e w'=>RdRet (.iface T x) w.heap.size (readTs n s.data.toList) e w' ∧ Below w.heap.size w w':=by
  obtain ⟨iv,hiv,hzv,hsv⟩:=val_info
  have hszv:(Tryz.prog.info? 41).map (·.size) = some (valA ⟨0,0,⟨#[]⟩⟩).size:=by rw [hiv];simp [hsv,valA]
  have hsz:(1:Nat) < w.heap.size:=block_lt_of_cell hev
  have Hsz:=Lib.hid hsz;have Hev:=Lib.hid hev
  have HK:=Lib.hid (known_ok 4 n w (by decide) (by decide) (by omega) (by omega))
  have HS:=Lib.hid (size0 4 w (.inr rfl))
  clear hsz hev
  go_enter Tryz.func47,Tryz.ntmps47
  go_wp2_with fail
  refine HK.out.mono ?_;rintro e w1 ⟨rfl,rfl⟩
  go_wp2_with fail
  refine HS.out.mono ?_;rintro e w2 ⟨rfl,rfl⟩
  go_wp2_with fail
  go_loopw [1,9,41] (fun re u i wr=>∃ (L:List Val) (r:ByteArray),L.length ≤ n ∧ i = .int .i64 (L.length:Nat) ∧ re = .string r ∧ r.size ≤ s.size ∧
    wr.ownsRow w2.heap.size 41 3 u L.length (L.flatMap valCells) ∧ Below w2.heap.size w2 wr ∧
    readTs n s.data.toList = (readTs (n - L.length) r.data.toList).map (L ++ ·)) (fun _ _ i _=>n - (intOf i).toNat)
  case atStart=>exact ⟨[],s,Nat.zero_le _,rfl,rfl,Nat.le_refl _,World.ownsRow_nil _ _ _ _,Below.refl _ _,by simp⟩
  case round =>
    obtain ⟨L,r,hLn,rfl,rfl,hrs,hown,hb,hinv⟩:=hrel
    have hevr:=(hb.cell (p:=⟨1,0,none⟩) Hsz.out).trans Hev.out
    have Hinv:=Lib.hid hinv;have Hown:=Lib.hid hown;have Hb:=Lib.hid hb
    have hrm:r.size ≤ maxLen:=by unfold maxLen;omega
    clear hinv hown hb
    by_cases hlt:L.length < n
    · have hlt':(L.length:Int) < (n:Int):=by omega
      obtain ⟨lf,hlf⟩:∃ lf,n - L.length = lf + 1:=⟨n - L.length - 1,by omega⟩
      have Hlf:=Lib.hid hlf
      rw [hlf] at Hinv
      clear hlf
      have hevA:(wr.alloc (.cells (valA ⟨4,0,⟨#[]⟩⟩) 41)).cell? ⟨1,0,none⟩ = some (.iface T x) :=
        ((((Below.refl wr.heap.size wr).alloc (Nat.le_refl _) _).cell (p:=⟨1,0,none⟩) (block_lt_of_cell hevr))).trans hevr
      have HevA:=Lib.hid hevA
      have HbA:=Lib.hid ((Below.refl wr.heap.size wr).alloc (Nat.le_refl _) (.cells (valA ⟨4,0,⟨#[]⟩⟩) 41))
      have HnA:=Lib.hid (heap_alloc_new wr (.cells (valA ⟨4,0,⟨#[]⟩⟩) 41))
      clear hevA
      cases hT:readT r.data.toList with
      | none =>
        have hc:=fun w1 hh=>readText_none r T x w1 hrm hh hT
        have Hc:=Lib.hid hc
        have HN:=Lib.hid (show readTs (lf + 1) r.data.toList = none by unfold readTs;rw [hT])
        clear hc hT
        go_wp2_with (first
          | (refine wpList_alloc_row rfl 41 rfl iv _ _ hiv hzv rfl ?_)
          | (refine wpList_store_new rfl rfl 41 _ _ rfl rfl _ (valA ⟨4,0,⟨#[]⟩⟩) rfl hszv rfl (valA_one ⟨4,0,⟨#[]⟩⟩) ?_))
        refine (Hc.out _ HevA.out).mono ?_;rintro e w1 ⟨rfl,hb1⟩
        have hev1:=(hb1.cell (p:=⟨1,0,none⟩) (block_lt_of_cell HevA.out)).trans HevA.out
        have hbw1:=Hb.out.trans ((HbA.out.trans (hb1.mono HbA.out.size)).mono Hb.out.size)
        go_wp2_with fail
        go_quiet (fail)
        go_wp2_with fail
        go_ret2
        exact ⟨RdRet.bad (by rw [Hinv.out,HN.out];rfl),below_drewN hbw1 _⟩
      | some y =>
        obtain ⟨t,k⟩:=y
        have hc:=fun w1 hh=>readText_some r T x w1 hrm hh hT
        have Hc:=Lib.hid hc
        obtain ⟨_,htk,ht2,hkr⟩:=readT_inv hT
        have hrl:r.data.toList.length = r.size:=by simp
        rw [hrl] at hkr
        have HT:=Lib.hid hT
        clear hc hT hrl htk
        by_cases h100:100 < t.length
        · have HN:=Lib.hid (show readTs (lf + 1) r.data.toList = none by unfold readTs;rw [HT.out];simp only [];rw [if_pos h100])
          have h100':(100:Int) < (t.length:Int):=by omega
          go_wp2_with (first
            | (refine wpList_alloc_row rfl 41 rfl iv _ _ hiv hzv rfl ?_)
            | (refine wpList_store_new rfl rfl 41 _ _ rfl rfl _ (valA ⟨4,0,⟨#[]⟩⟩) rfl hszv rfl (valA_one ⟨4,0,⟨#[]⟩⟩) ?_))
          refine (Hc.out _ HevA.out).mono ?_;rintro e w1 ⟨rfl,hb1⟩
          have hev1:=(hb1.cell (p:=⟨1,0,none⟩) (block_lt_of_cell HevA.out)).trans HevA.out
          have hbw1:=Hb.out.trans ((HbA.out.trans (hb1.mono HbA.out.size)).mono Hb.out.size)
          go_wp2_with fail
          go_quiet (fail)
          go_wp2_with fail
          go_ret2
          exact ⟨RdRet.bad (by rw [Hinv.out,HN.out];rfl),below_drewN hbw1 _⟩
        · have HN:=Lib.hid (show readTs (lf + 1) r.data.toList = (readTs lf (r.data.toList.drop k)).map (textV t :: ·) from readTs_step HT.out h100)
          have h100':(t.length:Int) ≤ 100:=by omega
          have hl2:L.length ≤ 20000:=by omega
          have hkI:(k:Int) ≤ (r.size:Int):=by omega
          go_wp2_with (first
            | (refine wpList_alloc_row rfl 41 rfl iv _ _ hiv hzv rfl ?_)
            | (refine wpList_store_new rfl rfl 41 _ _ rfl rfl _ (valA ⟨4,0,⟨#[]⟩⟩) rfl hszv rfl (valA_one ⟨4,0,⟨#[]⟩⟩) ?_))
          refine (Hc.out _ HevA.out).mono ?_;rintro e w1 ⟨rfl,hb1⟩
          have hbw1:=Hb.out.trans ((HbA.out.trans (hb1.mono HbA.out.size)).mono Hb.out.size)
          have hg1:w1.heap[wr.heap.size]? = some (.cells (valA ⟨4,0,⟨#[]⟩⟩) 41 (0,0)):=(hb1.block _ (Array.getElem?_eq_some_iff.1 HnA.out).1).trans HnA.out
          have hown1:=bown_below (Hown.out.alloc (.cells (valA ⟨4,0,⟨#[]⟩⟩) 41)) hb1
          have c2:w1.cell? ⟨wr.heap.size,2,none⟩ = some (.string ⟨#[]⟩):=by rw [Lib.cell_of_heap hg1];rfl
          have f2:w1.frozen? ⟨wr.heap.size,2,none⟩ = false:=Lib.frozen_of_heap hg1 2
          have HB1:=Lib.hid hbw1;have HG1:=Lib.hid hg1;have HO1:=Lib.hid hown1
          clear hbw1 hg1 hown1 hb1
          go_wp2_with fail
          go_region
          have HG3:=Lib.hid (show (w1.setCell ⟨wr.heap.size,2,none⟩ (.string ⟨t.toArray⟩)).drew.heap[wr.heap.size]? = some (.cells (valA (textV t)) 41 (0,0)) by
            show (w1.setCell ⟨wr.heap.size,2,none⟩ (.string ⟨t.toArray⟩)).heap[wr.heap.size]? = _
            rw [heap_setCell_same _ _ _ _ _ _ HG1.out];rfl)
          have HO3:=Lib.hid (show (w1.setCell ⟨wr.heap.size,2,none⟩ (.string ⟨t.toArray⟩)).drew.ownsRow w2.heap.size 41 3 u9 L.length (L.flatMap valCells) from (bown_set' HO1.out HG1.out (own_notlast Hown.out) _).drew)
          have HB3:=Lib.hid (show Below w2.heap.size w2 (w1.setCell ⟨wr.heap.size,2,none⟩ (.string ⟨t.toArray⟩)).drew from (HB1.out.setCell (p:=⟨wr.heap.size,2,none⟩) Hb.out.size _).drew)
          have hbs3:=HB3.out.size
          have hvs:(valA (textV t)).size = 3:=rfl
          clear c2 f2
          generalize (w1.setCell ⟨wr.heap.size,2,none⟩ (.string ⟨t.toArray⟩)).drew = w3 at *
          go_wp2_with (first
            | (refine wpList_load_row rfl 41 _ rfl wr.heap.size rfl 41 (valA (textV t)) (0,0) _ HG3.out Tryz.underlying41 rfl hszv ?_)
            | (at_builtin;refine wpList_pushVal rfl _ _ rfl w2.heap.size _ L rfl HO3.out _ _ rfl rfl hl2 hbs3 (textV t) _ rfl ?_;intro v' w4 hown' hgrow' hb';have HO4:=Lib.hid hown';have HB4:=Lib.hid (HB3.out.trans hb');clear hown' hgrow' hb'))
          have hl1:(L ++ [textV t]).length = L.length + 1:=by simp
          refine ⟨⟨L ++ [textV t],r.extract k r.size,by omega,by rw [hl1];rfl,rfl,by simp;omega,HO4.out,HB4.out,?_⟩,?_⟩
          · rw [Hinv.out,HN.out,Option.map_map,bext_list,hl1,show n - (L.length + 1) = lf by have:=Hlf.out;omega]
            congr 1
            funext y
            simp
          · simp [intOf];omega
    · obtain rfl:L.length = n:=by omega
      rw [Nat.sub_self] at Hinv
      obtain ⟨adu,capu,rfl⟩:=bslice_form Hown.out
      by_cases hr0:r.size = 0
      · obtain rfl:=empty_list hr0
        have HR:=Lib.hid (show readTs L.length s.data.toList = some L by rw [Hinv.out];simp [readTs])
        go_wp2_with fail
        go_ret2
        exact ⟨RdRet.good HR.out Hown.out,Hb.out⟩
      · have hne:¬ r = ⟨#[]⟩:=fun e=>hr0 (by rw [e];rfl)
        have HR:=Lib.hid (show readTs L.length s.data.toList = none by
          rw [Hinv.out]
          have:r.data.toList ≠ []:=by intro e;apply hr0;rw [← size_data,e];rfl
          simp [readTs,this])
        have HR0:=Lib.hid hr0
        clear hr0
        go_wp2_with fail
        focus
          rename_i h0
          exfalso
          have e:=toList_inj (h0.trans ByteArray.toList_empty.symm)
          exact HR0.out (by rw [e];rfl)
        focus
          go_quiet (fail)
          go_wp2_with fail
          go_ret2
          exact ⟨RdRet.bad HR.out,below_drewN Hb.out _⟩
end Go.Proofs.YtapiabmmfmfaeaaGreatDoor
/- bitrun.Get and the document's UnpackOf once more, in up to 64 bits. -/
namespace Go.Proofs.YtapiabmmfmfaeaaGreatDoor
set_option maxHeartbeats 4000000
set_option linter.unusedVariables false
open Go Go.RowKit Go.ChangeShapes
theorem get_step64 (X b e k:Nat) (hX:X < 2 ^ k) (hb:b < 256) (hp:(2:Nat) ^ k ≤ 9223372036854775808) :
  bits .or .u64 (X:Int) (IntKind.u64.wrap (IntKind.u64.wrap (bits .and .u8 ((b:Int) / 2 ^ e) 1) * 2 ^ k)) = ((X + b / 2 ^ e % 2 * 2 ^ k:Nat):Int):=by
 have hd:b / 2 ^ e < 256:=Nat.lt_of_le_of_lt (Nat.div_le_self _ _) hb
 rw [show ((b:Int) / 2 ^ e) = ((b / 2 ^ e:Nat):Int) by simp,show (1:Int) = ((1:Nat):Int) from rfl,u8_and_nat _ 1 hd (by decide),nat_mask1]
 have h1:b / 2 ^ e % 2 ≤ 1:=by omega
 generalize b / 2 ^ e % 2 = t at *
 have h2:t * 2 ^ k ≤ 9223372036854775808:=Nat.le_trans (Nat.mul_le_mul_right _ h1) (by omega)
 rw [show IntKind.u64.wrap ((t:Nat):Int) = (t:Int) by rw [IntKind.wrap_u64];omega,show ((t:Int) * 2 ^ k) = ((t * 2 ^ k:Nat):Int) by rw [Int.natCast_mul,Int.natCast_pow];rfl,
  show IntKind.u64.wrap ((t * 2 ^ k:Nat):Int) = ((t * 2 ^ k:Nat):Int) by rw [IntKind.wrap_u64];omega,u64_or_nat _ _ (by omega) (by omega),Nat.or_comm,Nat.add_comm,Nat.mul_comm t,← Nat.two_pow_add_eq_or_of_lt hX]
set_option maxRecDepth 100000 in
theorem get_any64 (s:ByteArray) (at' wd:Nat) (w:World) (hw:wd ≤ 64) (hs:at' + wd ≤ 8 * s.size) (hm:s.size ≤ 1000000) :
  Calls Tryz.prog 76 #[.string s,.int .i64 (at':Nat),.int .i64 (wd:Nat)] w fun e w'=>e = .returned (.int .u64 ((unlittle s.data.toList / 2 ^ at' % 2 ^ wd:Nat):Int)) ∧ w' = w:=by
 have hget:∀ k (h:k / 8 < s.size),s[k / 8].toNat / 2 ^ (k % 8) % 2 = unlittle s.data.toList / 2 ^ k % 2:=fun k h=>unlittle_bit _ _ _ (by rw [List.getElem?_eq_getElem (by simpa using h)];rfl)
 go_enter Tryz.func76,Tryz.ntmps76
 go_wp2
 go_loop [7,11] (fun n i=>∃ k:Nat,k ≤ wd ∧ i = .int .i64 k ∧ n = .int .u64 ((unlittle s.data.toList / 2 ^ at' % 2 ^ k:Nat):Int)) (fun _ i=>wd - (intOf i).toNat)
 case atStart=>exact ⟨0,Nat.zero_le _,rfl,by simp [Nat.mod_one]⟩
 case round =>
  obtain ⟨k,hk,rfl,rfl⟩:=hrel
  by_cases hlt:k < wd
  ·have hlt8:(at' + k) / 8 < s.size:=by omega
   have hbit:=hget (at' + k) hlt8
   have hb:=s[(at' + k) / 8].toNat_lt
   have hmore:=bits_succ (unlittle s.data.toList / 2 ^ at') k
   rw [Nat.div_div_eq_div_mul,← Nat.pow_add] at hmore
   have hX:unlittle s.data.toList / 2 ^ at' % 2 ^ k < 2 ^ k:=Nat.mod_lt _ (Nat.pow_pos (by decide))
   have Hbit:=Lib.hid hbit
   have Hmore:=Lib.hid hmore
   have HX:=Lib.hid hX
   clear hbit hmore hget hX
   go_wp2
   go_round
   case rel =>
    refine ⟨k + 1,by omega,by go_num,?_⟩
    have hp:(2:Nat) ^ k ≤ 2 ^ 63:=Nat.pow_le_pow_right (by decide) (by omega)
    have hXi:((unlittle s.data.toList:Nat):Int) / 2 ^ at' % 2 ^ k = ((unlittle s.data.toList / 2 ^ at' % 2 ^ k:Nat):Int):=by simp
    rw [Hmore.out,← Hbit.out,hXi]
    have hX:=HX.out
    generalize unlittle s.data.toList / 2 ^ at' % 2 ^ k = X at *
    generalize s[(at' + k) / 8].toNat = b at *
    exact congrArg _ (get_step64 X b ((at' + k) % 8) k hX hb hp)
   case measure=>simp [intOf];omega
  ·obtain rfl:k = wd:=by omega
   go_wp2
   go_ret
   exact ⟨rfl,rfl⟩
theorem unp_step64 (X b e k:Nat) (hX:X < 2 ^ k) (hb:b < 256) (hp:(2:Nat) ^ k ≤ 9223372036854775808) :
  IntKind.u64.wrap ((X:Int) + IntKind.u64.wrap ((((b:Int) / 2 ^ e)).tmod 2 * 2 ^ k)) = ((X + b / 2 ^ e % 2 * 2 ^ k:Nat):Int):=by
 have h1:b / 2 ^ e % 2 ≤ 1:=by omega
 rw [show ((b:Int) / 2 ^ e) = ((b / 2 ^ e:Nat):Int) by simp,show (((b / 2 ^ e:Nat):Int)).tmod 2 = ((b / 2 ^ e % 2:Nat):Int) from rfl]
 generalize b / 2 ^ e % 2 = t at *
 have h2:t * 2 ^ k ≤ 9223372036854775808:=Nat.le_trans (Nat.mul_le_mul_right _ h1) (by omega)
 rw [show ((t:Int) * 2 ^ k) = ((t * 2 ^ k:Nat):Int) by rw [Int.natCast_mul,Int.natCast_pow];rfl,
  show IntKind.u64.wrap ((t * 2 ^ k:Nat):Int) = ((t * 2 ^ k:Nat):Int) by rw [IntKind.wrap_u64];omega,IntKind.wrap_u64]
 omega
set_option maxRecDepth 100000 in
theorem unpackOf_any64 (s:ByteArray) (wd n:Nat) (w:World) (hw:wd ≤ 64) (hn:n ≤ 20008) (hm:s.size ≤ 1000000) :
  Calls Tryz.prog 84 #[.string s,.int .i64 (wd:Nat),.int .i64 (n:Nat)] w fun e w' =>
   ((n * wd ≤ 8 * s.size ∧ ∃ u,e = .returned (.tuple #[u,.bool true]) ∧ w'.ownsRow w.heap.size 84 1 u n ((getAll (unlittle s.data.toList) wd n).map natU)) ∨ (8 * s.size < n * wd ∧ e = .returned (.tuple #[.slice none 0 0,.bool false]))) ∧ Below w.heap.size w w':=by
 obtain ⟨i0,hi,hz0,hz1,hz2⟩:=info_parts info_u64
 have hget:∀ k (h:k / 8 < s.size),s[k / 8].toNat / 2 ^ (k % 8) % 2 = unlittle s.data.toList / 2 ^ k % 2:=fun k h=>unlittle_bit _ _ _ (by rw [List.getElem?_eq_getElem (by simpa using h)];rfl)
 have hlen:=getAll_len (unlittle s.data.toList) wd
 have hsn:∀ k,getAll (unlittle s.data.toList) wd (k + 1) = getAll (unlittle s.data.toList) wd k ++ [unlittle s.data.toList / 2 ^ (k * wd) % 2 ^ wd]:=fun k=>rfl
 have Hget:=Lib.hid hget
 have Hlen:=Lib.hid hlen
 have Hsn:=Lib.hid hsn
 clear hget hlen hsn
 go_enter Tryz.func84,Tryz.ntmps84
 go_wp2_with fail
 go_loopw [8,9,10] (fun u a i wr=>∃ k:Nat,k ≤ n ∧ i = .int .i64 k ∧ a = .int .i64 ((k * wd:Nat):Int) ∧ k * wd ≤ 8 * s.size ∧ wr.ownsRow w.heap.size 84 1 u k ((getAll (unlittle s.data.toList) wd k).map natU) ∧ Below w.heap.size w wr) (fun _ _ i _=>n - (intOf i).toNat)
 case atStart=>exact ⟨0,Nat.zero_le _,rfl,by simp,by omega,World.ownsRow_nil _ _ _ _,Below.refl _ _⟩
 case round =>
  obtain ⟨k,hk,rfl,rfl,hka,hown,hb⟩:=hrel
  have Ho:=Lib.hid hown;clear hown
  by_cases hkn:k < n
  ·have hkw:(k + 1) * wd ≤ n * wd:=Nat.mul_le_mul_right _ hkn
   have h63:(getAll (unlittle s.data.toList) wd k).length + 1 ≤ maxLen:=by rw [Hlen.out];unfold maxLen;omega
   have h64:((getAll (unlittle s.data.toList) wd k).length + 1) * 8 ≤ 140737488355328:=by rw [Hlen.out];omega
   rw [Nat.add_one_mul] at hkw
   have Hkw:=Lib.hid hkw
   have hA:∃ A,A = k * wd:=⟨_,rfl⟩
   obtain ⟨A,hA⟩:=hA
   have Hg:=Lib.hid (Hsn.out k)
   have Hl:=Lib.hid (Hlen.out k)
   rw [← hA] at Hg hka Hkw ⊢
   generalize getAll (unlittle s.data.toList) wd k = L at *
   rw [← Hl.out] at Ho
   clear hkw
   have HA:=Lib.hid hA;clear hA
   go_wp2_with fail
   go_loopw [9,11,12] (fun a x j wr'=>∃ m:Nat,m ≤ wd ∧ A + m ≤ 8 * s.size ∧ j = .int .i64 m ∧ a = .int .i64 ((A + m:Nat):Int) ∧ x = .int .u64 ((unlittle s.data.toList / 2 ^ A % 2 ^ m:Nat):Int) ∧ wr' = wr) (fun _ _ j _=>wd - (intOf j).toNat)
   case atStart=>exact ⟨0,Nat.zero_le _,by omega,rfl,rfl,by simp [Nat.mod_one],rfl⟩
   case round =>
    obtain ⟨m,hm2,hA8,rfl,rfl,rfl,rfl⟩:=hrel
    by_cases hmw:m < wd
    ·by_cases hin:(A + m) / 8 < s.size
     ·have Hbit:=Lib.hid (Hget.out (A + m) hin)
      have hb8:=s[(A + m) / 8].toNat_lt
      have hmore:=bits_succ (unlittle s.data.toList / 2 ^ A) m
      rw [Nat.div_div_eq_div_mul,← Nat.pow_add] at hmore
      have Hmore:=Lib.hid hmore
      clear hmore
      go_wp2_with fail
      go_roundw
      case rel =>
       refine ⟨m + 1,by omega,by omega,by go_num,by go_num,?_,trivial⟩
       have hp:(2:Nat) ^ m ≤ 2 ^ 63:=Nat.pow_le_pow_right (by decide) (by omega)
       have hX:unlittle s.data.toList / 2 ^ A % 2 ^ m < 2 ^ m:=Nat.mod_lt _ (Nat.pow_pos (by decide))
       have hXi:((unlittle s.data.toList:Nat):Int) / 2 ^ A % 2 ^ m = ((unlittle s.data.toList / 2 ^ A % 2 ^ m:Nat):Int):=by simp
       rw [Hmore.out,← Hbit.out,hXi]
       generalize unlittle s.data.toList / 2 ^ A % 2 ^ m = X at *
       generalize s[(A + m) / 8].toNat = b at *
       rw [unp_step64 X b ((A + m) % 8) m hX hb8 (Nat.le_trans hp (by decide))]
      case measure=>simp [intOf];omega
     ·have hsh:8 * s.size < n * wd:=by have:=Hkw.out;omega
      go_wp2_with fail
      go_ret2
      exact ⟨.inr ⟨hsh,rfl⟩,hb⟩
    ·obtain rfl:m = wd:=by omega
     have hX:∃ X,X = unlittle s.data.toList / 2 ^ A % 2 ^ m:=⟨_,rfl⟩
     obtain ⟨X,hX⟩:=hX
     rw [← hX] at Hg ⊢
     clear hX
     go_wp2_with (at_builtin;refine wpList_push rfl _ _ 145 rfl w.heap.size 84 i0 (.int .u64 0) 8 Tryz.underlying145 hi hz0 hz1 hz2 rfl natU (fun _=>rfl) _ _ rfl Ho.out _ _ rfl h63 h64 hb.size X rfl ?_;intro v' w2 hown' hb' hnn;have Ho':=Lib.hid hown';clear hown')
     go_roundw
     case rel =>
      refine ⟨k + 1,by omega,by go_num,?_,?_,?_,hb.trans hb'⟩
      ·rw [Nat.add_one_mul,← HA.out];go_num
      ·rw [Nat.add_one_mul,← HA.out];exact hA8
      ·rw [Hg.out];have h:=Ho'.out;rwa [List.length_append,Hl.out] at h
     case measure=>simp [intOf];omega
  ·obtain rfl:k = n:=by omega
   go_wp2_with fail
   go_ret2
   exact ⟨.inl ⟨hka,_,rfl,Ho.out⟩,hb⟩
end Go.Proofs.YtapiabmmfmfaeaaGreatDoor
/- The walk of enc.ReadPlain at numbers. -/
namespace Go.Proofs.YtapiabmmfmfaeaaGreatDoor
set_option maxHeartbeats 4000000
set_option linter.unusedVariables false
open Go Go.RowKit Go.ChangeShapes
theorem readP_short {kind:Int} {s:List UInt8} {n:Nat} (h4:kind ≠ 4) (h:s.length ≠ (n * wdOf kind + 7) / 8):readP kind s n = none:=by
 unfold readP
 rw [if_neg h4,if_neg (fun hh=>h hh.1)]
theorem readP_num {kind:Int} {s:List UInt8} {n:Nat} (h4:kind ≠ 4) (h1:kind ≠ 1) (h:s.length = (n * wdOf kind + 7) / 8):readP kind s n = some ((getAll (unlittle s) (wdOf kind) n).map (numV kind)):=by
 unfold readP
 rw [if_neg h4,if_pos ⟨h,fun c=>absurd c h1⟩]
theorem num2_cells (xx:Nat) (h:xx < 4294967296):(#[.int .i64 2,.int .i64 (wrap64 (wrap32 (wrap64 (xx:Int)))),.string ⟨#[]⟩]:Array Value) = valA (numV 2 xx):=by
 have e:wrap64 (wrap32 (wrap64 (xx:Int))) = signN 2 xx:=by
  unfold wrap64 wrap32 signN
  rw [if_pos rfl]
  split <;> omega
 rw [e];rfl
theorem num35_cells (kind:Int) (xx:Nat) (hk:kind ≠ 2) (h:xx < 18446744073709551616):(#[.int .i64 kind,.int .i64 (wrap64 (xx:Int)),.string ⟨#[]⟩]:Array Value) = valA (numV kind xx):=by
 have e:wrap64 (xx:Int) = signN kind xx:=by
  unfold wrap64 signN
  rw [if_neg hk]
  split <;> omega
 rw [e];rfl
set_option maxRecDepth 100000 in
theorem readPlain_short (kind:Int) (wd:Nat) (hk:WdOf kind wd) (s:ByteArray) (n:Nat) (T:TypeId) (x:Value) (w:World) (hn:n ≤ 20000) (hs:s.size ≤ 1000000) (hev:w.cell? ⟨1,0,none⟩ = some (.iface T x)) (hb:s.size ≠ (n * wd + 7) / 8) :
  Calls Tryz.prog 47 #[.int .i64 kind,.string s,.int .i64 (n:Nat)] w fun e w'=>e = .returned (.tuple #[.slice none 0 0,.iface T x]) ∧ Below w.heap.size w w':=by
 have hd:((s.size:Int) != (((n * wd + 7) / 8:Nat):Int)) = true:=by rw [bne_iff_ne];omega
 rcases hk with ⟨rfl,rfl⟩ | ⟨rfl,rfl⟩ | ⟨rfl,rfl⟩ | ⟨rfl,rfl⟩
 focus
  have HK:=Lib.hid (known_ok 1 n w (by decide) (by decide) (by omega) (by omega))
  have HS:=Lib.hid (size0 1 w (.inl rfl))
 rotate_left
 focus
  have HK:=Lib.hid (known_ok 2 n w (by decide) (by decide) (by omega) (by omega))
  have HS:=Lib.hid (sizeE 2 4 w (.inl ⟨rfl,rfl⟩))
 rotate_left
 focus
  have HK:=Lib.hid (known_ok 3 n w (by decide) (by decide) (by omega) (by omega))
  have HS:=Lib.hid (sizeE 3 8 w (.inr (.inl ⟨rfl,rfl⟩)))
 rotate_left
 focus
  have HK:=Lib.hid (known_ok 5 n w (by decide) (by decide) (by omega) (by omega))
  have HS:=Lib.hid (sizeE 5 8 w (.inr (.inr ⟨rfl,rfl⟩)))
 rotate_left
 all_goals
  go_enter Tryz.func47,Tryz.ntmps47
  go_wp2_with fail
  refine HK.out.mono ?_;rintro e w1 ⟨rfl,rfl⟩
  go_wp2_with fail
  refine HS.out.mono ?_;rintro e w2 ⟨rfl,rfl⟩
  go_wp2_with fail
  go_quiet (fail)
  go_wp2_with fail
  go_ret2
  exact ⟨rfl,below_drewN (Below.refl _ _) _⟩
set_option maxRecDepth 100000 in
theorem readPlain_num (kind:Int) (wd:Nat) (hk:WdOf kind wd) (h1:kind ≠ 1) (s:ByteArray) (n:Nat) (w:World) (hn:n ≤ 20000) (hs:s.size ≤ 1000000) (hb:s.size = (n * wd + 7) / 8) :
    Calls Tryz.prog 47 #[.int .i64 kind,.string s,.int .i64 (n:Nat)] w fun e w'=>(∃ u,e = .returned (.tuple #[u,.nilIface]) ∧ w'.ownsRow w.heap.size 41 3 u n (((getAll (unlittle s.data.toList) wd n).map (numV kind)).flatMap valCells)) ∧ Below w.heap.size w w':=by
  obtain ⟨iv,hiv,hzv,hsv⟩:=val_info
  have hszv:(Tryz.prog.info? 41).map (·.size) = some (valA ⟨0,0,⟨#[]⟩⟩).size:=by rw [hiv];simp [hsv,valA]
  have hw64:wd ≤ 64:=by unfold WdOf at hk;omega
  obtain ⟨X,hX⟩:∃ X:Nat → Nat,∀ j,X j = unlittle s.data.toList / 2 ^ (j * wd) % 2 ^ wd:=⟨_,fun _=>rfl⟩
  have HG:=Lib.hid (show ∀ j:Nat,j < n → ∀ w1,Calls Tryz.prog 76 #[.string s,.int .i64 ((j:Int) * (wd:Int)),.int .i64 (wd:Int)] w1 fun e w'=>e = .returned (.int .u64 (X j:Nat)) ∧ w' = w1 from fun j hj w1=>by
    rw [hX j,← Int.natCast_mul]
    exact get_any64 s (j * wd) wd w1 hw64 (by
      have h:(j + 1) * wd ≤ n * wd:=Nat.mul_le_mul_right _ hj
      rw [Nat.add_one_mul] at h;omega) hs)
  have HXb:=Lib.hid (show ∀ j,(kind = 2 → X j < 4294967296) ∧ X j < 18446744073709551616 from fun j=>by
    have h:=Nat.mod_lt (unlittle s.data.toList / 2 ^ (j * wd)) (Nat.pow_pos (n:=wd) (by decide:0 < 2))
    rw [← hX j] at h
    have e32:(2:Nat) ^ 32 = 4294967296:=by decide
    have e64:(2:Nat) ^ 64 = 18446744073709551616:=by decide
    rcases hk with ⟨hk,rfl⟩ | ⟨hk,rfl⟩ | ⟨hk,rfl⟩ | ⟨hk,rfl⟩
    · exact absurd hk h1
    · rw [e32] at h;omega
    · rw [e64] at h;omega
    · rw [e64] at h;omega)
  obtain ⟨LV,hLV⟩:∃ LV:Nat → List Val,∀ j,LV j = (getAll (unlittle s.data.toList) wd j).map (numV kind):=⟨_,fun _=>rfl⟩
  have HL0:=Lib.hid (show LV 0 = [] by rw [hLV];rfl)
  have HLl:=Lib.hid (show ∀ j,(LV j).length = j from fun j=>by rw [hLV,List.length_map,getAll_len])
  have HLs:=Lib.hid (show ∀ j,LV (j + 1) = LV j ++ [numV kind (X j)] from fun j=>by rw [hLV,hLV,getAll_succ,List.map_append,hX];rfl)
  rw [← hLV n]
  clear hX hLV hw64
  rcases hk with ⟨rfl,rfl⟩ | ⟨rfl,rfl⟩ | ⟨rfl,rfl⟩ | ⟨rfl,rfl⟩
  · exact absurd rfl h1
  focus
    have HK:=Lib.hid (known_ok 2 n w (by decide) (by decide) (by omega) (by omega))
    have HS:=Lib.hid (sizeE 2 4 w (.inl ⟨rfl,rfl⟩))
    have hd:((s.size:Int) != ((n:Int) * 32 + 7) / 8) = false:=by rw [bne_eq_false_iff_eq];omega
  rotate_left
  focus
    have HK:=Lib.hid (known_ok 3 n w (by decide) (by decide) (by omega) (by omega))
    have HS:=Lib.hid (sizeE 3 8 w (.inr (.inl ⟨rfl,rfl⟩)))
    have hd:((s.size:Int) != ((n:Int) * 64 + 7) / 8) = false:=by rw [bne_eq_false_iff_eq];omega
  rotate_left
  focus
    have HK:=Lib.hid (known_ok 5 n w (by decide) (by decide) (by omega) (by omega))
    have HS:=Lib.hid (sizeE 5 8 w (.inr (.inr ⟨rfl,rfl⟩)))
    have hd:((s.size:Int) != ((n:Int) * 64 + 7) / 8) = false:=by rw [bne_eq_false_iff_eq];omega
  rotate_left
  all_goals
    have Hb:=Lib.hid hb
    clear hb
    go_enter Tryz.func47,Tryz.ntmps47
    go_wp2_with fail
    refine HK.out.mono ?_;rintro e w1 ⟨rfl,rfl⟩
    go_wp2_with fail
    refine HS.out.mono ?_;rintro e w2 ⟨rfl,rfl⟩
    go_wp2_with fail
    go_loopw [1,9,41] (fun re u i wr=>∃ j:Nat,j ≤ n ∧ i = .int .i64 (j:Nat) ∧ re = .string s ∧ wr.ownsRow w2.heap.size 41 3 u (LV j).length ((LV j).flatMap valCells) ∧ Below w2.heap.size w2 wr) (fun _ _ i _=>n - (intOf i).toNat)
    case atStart=>exact ⟨0,Nat.zero_le _,rfl,rfl,by rw [HL0.out];exact World.ownsRow_nil _ _ _ _,Below.refl _ _⟩
    case round =>
      obtain ⟨j,hj,rfl,rfl,hown,hb⟩:=hrel
      have Hown:=Lib.hid hown;have Hbb:=Lib.hid hb
      clear hown hb
      by_cases hlt:j < n
      · have hlt':(j:Int) < (n:Int):=by omega
        have HGj:=Lib.hid (HG.out j hlt)
        have HSj:=Lib.hid (HLs.out j)
        have HXj:=Lib.hid (HXb.out j)
        have hll:=HLl.out j
        have hl2:(LV j).length ≤ 20000:=by omega
        have hbs:=Hbb.out.size
        have hbs1:w2.heap.size ≤ wr.heap.size + 1:=by omega
        have hll1:(LV (j + 1)).length = j + 1:=HLl.out (j + 1)
        have Hll1:=Lib.hid hll1
        clear hll1
        generalize X j = xx at *
        generalize LV j = Lj at *
        clear hll
        go_wp2_with (first
          | (refine wpList_alloc_row rfl 41 rfl iv _ _ hiv hzv rfl ?_)
          | (refine wpList_store_new rfl rfl 41 _ _ rfl rfl _ #[_,.int .i64 0,.string ⟨#[]⟩] rfl hszv rfl (valA_one ⟨_,0,⟨#[]⟩⟩) ?_))
        refine (HGj.out _).mono ?_;rintro e w3 ⟨rfl,rfl⟩
        go_wp2_with (first
          | (at_builtin;refine wpList_pushVal rfl _ _ rfl w2.heap.size _ Lj rfl (Hown.out.alloc _) _ _ rfl ?_ hl2 ?_ (numV 2 xx) _ ?_ ?_;(focus simp);(focus simpa using hbs1);(focus (refine num2_cells xx (HXj.out.1 ?_);trivial));intro v' w4 hown' hgrow' hb';have HO4:=Lib.hid hown';have HB4:=Lib.hid ((Hbb.out.alloc hbs _).trans hb');clear hown' hgrow' hb')
          | (at_builtin;refine wpList_pushVal rfl _ _ rfl w2.heap.size _ Lj rfl (Hown.out.alloc _) _ _ rfl ?_ hl2 ?_ (numV 3 xx) _ ?_ ?_;(focus simp);(focus simpa using hbs1);(focus (refine num35_cells 3 xx ?_ HXj.out.2;decide));intro v' w4 hown' hgrow' hb';have HO4:=Lib.hid hown';have HB4:=Lib.hid ((Hbb.out.alloc hbs _).trans hb');clear hown' hgrow' hb')
          | (at_builtin;refine wpList_pushVal rfl _ _ rfl w2.heap.size _ Lj rfl (Hown.out.alloc _) _ _ rfl ?_ hl2 ?_ (numV 5 xx) _ ?_ ?_;(focus simp);(focus simpa using hbs1);(focus (refine num35_cells 5 xx ?_ HXj.out.2;decide));intro v' w4 hown' hgrow' hb';have HO4:=Lib.hid hown';have HB4:=Lib.hid ((Hbb.out.alloc hbs _).trans hb');clear hown' hgrow' hb'))
        go_roundw
        case rel =>
          have hO5:=HO4.out
          rw [← HSj.out] at hO5
          exact ⟨j + 1,by omega,by go_num,rfl,hO5,HB4.out⟩
        case measure=>simp [intOf];omega
      · obtain rfl:j = n:=by omega
        rw [HLl.out j] at Hown
        obtain ⟨adu,capu,hu⟩:=bslice_form Hown.out
        subst hu
        go_wp2_with fail
        go_ret2
        exact ⟨⟨_,rfl,Hown.out⟩,Hbb.out⟩
end Go.Proofs.YtapiabmmfmfaeaaGreatDoor
/- The walk of enc.ReadPlain at truth values; ReadPlain whole. -/
namespace Go.Proofs.YtapiabmmfmfaeaaGreatDoor
set_option maxHeartbeats 4000000
set_option linter.unusedVariables false
open Go Go.RowKit Go.ChangeShapes
theorem num1_cells (xx:Nat) (h:xx < 2):(#[.int .i64 1,.int .i64 (wrap64 (xx:Int)),.string ⟨#[]⟩]:Array Value) = valA (numV 1 xx):=num35_cells 1 xx (by decide) (by omega)
theorem bool_rest (s:List UInt8) (n:Nat) (b:UInt8) (h:s.length = (n + 7) / 8) (h8:n % 8 ≠ 0) (hb:s[n / 8]? = some b):(unlittle s < 2 ^ n ↔ b.toNat / 2 ^ (n % 8) = 0):=by
 have hlen:n / 8 < s.length:=(List.getElem?_eq_some_iff.1 hb).1
 have e:s = s.take (n / 8) ++ [b]:=by
  have h1:=List.take_append_drop (n / 8) s
  have h2:s.drop (n / 8) = [b]:=by
   rw [List.drop_eq_getElem_cons hlen,(List.getElem?_eq_some_iff.1 hb).2,List.drop_of_length_le (by omega)]
  rw [← h2,h1]
 have ht:(s.take (n / 8)).length = n / 8:=by rw [List.length_take];omega
 have hlt:=unlittle_lt (s.take (n / 8))
 rw [e,unlittle_append]
 rw [ht] at hlt ⊢
 have hp:(2:Nat) ^ n = 256 ^ (n / 8) * 2 ^ (n % 8):=by rw [← pow256,← Nat.pow_add];congr 1;omega
 have hu:unlittle [b] = b.toNat:=by simp [unlittle]
 rw [hp,hu]
 have hpos:0 < 256 ^ (n / 8):=Nat.pow_pos (by decide)
 have hpos2:0 < 2 ^ (n % 8):=Nat.pow_pos (by decide)
 generalize 256 ^ (n / 8) = A at *
 generalize 2 ^ (n % 8) = C at *
 constructor
 ·intro hh
  refine Nat.div_eq_of_lt ?_
  rcases Nat.lt_or_ge b.toNat C with h' | h'
  ·exact h'
  ·have:=Nat.mul_le_mul_left A h'
   omega
 ·intro hh
  have:b.toNat < C:=by
   rcases Nat.lt_or_ge b.toNat C with h' | h'
   ·exact h'
   ·have:=Nat.div_pos h' hpos2;omega
  have h2:=Nat.mul_le_mul_left A (show b.toNat + 1 ≤ C from this)
  rw [Nat.mul_add,Nat.mul_one] at h2
  omega
theorem bool_rest0 (s:List UInt8) (n:Nat) (h:s.length = (n + 7) / 8) (h8:n % 8 = 0):unlittle s < 2 ^ n:=by
 have hlt:=unlittle_lt s
 rw [← pow256,show 8 * s.length = n by omega] at hlt
 exact hlt
set_option maxRecDepth 100000 in
theorem readPlain_bool (s:ByteArray) (n:Nat) (w:World) (T:TypeId) (x:Value) (hn:n ≤ 20000) (hs:s.size ≤ 1000000) (hev:w.cell? ⟨1,0,none⟩ = some (.iface T x)) (hb:s.size = (n + 7) / 8) :
    Calls Tryz.prog 47 #[.int .i64 1,.string s,.int .i64 (n:Nat)] w fun e w'=>RdRet (.iface T x) w.heap.size (readP 1 s.data.toList n) e w' ∧ Below w.heap.size w w':=by
  obtain ⟨iv,hiv,hzv,hsv⟩:=val_info
  have hszv:(Tryz.prog.info? 41).map (·.size) = some (valA ⟨0,0,⟨#[]⟩⟩).size:=by rw [hiv];simp [hsv,valA]
  have hsl:s.data.toList.length = s.size:=by simp
  have hsz:(1:Nat) < w.heap.size:=block_lt_of_cell hev
  have Hsz:=Lib.hid hsz;have Hev:=Lib.hid hev
  obtain ⟨X,hX⟩:∃ X:Nat → Nat,∀ j,X j = unlittle s.data.toList / 2 ^ (j * 1) % 2 ^ 1:=⟨_,fun _=>rfl⟩
  have HG:=Lib.hid (show ∀ j:Nat,j < n → ∀ w1,Calls Tryz.prog 76 #[.string s,.int .i64 (j:Int),.int .i64 1] w1 fun e w'=>e = .returned (.int .u64 (X j:Nat)) ∧ w' = w1 from fun j hj w1=>by
    rw [hX j,Nat.mul_one]
    exact get_any64 s j 1 w1 (by decide) (by omega) hs)
  have HXb:=Lib.hid (show ∀ j,X j < 2 from fun j=>by
    have h:=Nat.mod_lt (unlittle s.data.toList / 2 ^ (j * 1)) (Nat.pow_pos (n:=1) (by decide:0 < 2))
    rw [← hX j,Nat.pow_one] at h
    exact h)
  obtain ⟨LV,hLV⟩:∃ LV:Nat → List Val,∀ j,LV j = (getAll (unlittle s.data.toList) 1 j).map (numV 1):=⟨_,fun _=>rfl⟩
  have HL0:=Lib.hid (show LV 0 = [] by rw [hLV];rfl)
  have HLl:=Lib.hid (show ∀ j,(LV j).length = j from fun j=>by rw [hLV,List.length_map,getAll_len])
  have HLs:=Lib.hid (show ∀ j,LV (j + 1) = LV j ++ [numV 1 (X j)] from fun j=>by rw [hLV,hLV,getAll_succ,List.map_append,hX];rfl)
  have hl1:s.data.toList.length = (n * wdOf 1 + 7) / 8:=by rw [hsl,hb];show _ = (n * 1 + 7) / 8;rw [Nat.mul_one]
  have HR1:=Lib.hid (show unlittle s.data.toList < 2 ^ n → readP 1 s.data.toList n = some (LV n) from fun h=>by
    unfold readP
    rw [if_neg (by decide),if_pos ⟨hl1,fun _=>h⟩,hLV];rfl)
  have HR2:=Lib.hid (show ¬ unlittle s.data.toList < 2 ^ n → readP 1 s.data.toList n = none from fun h=>by
    unfold readP
    rw [if_neg (by decide),if_neg (fun hh=>h (hh.2 rfl))])
  have HB0:=Lib.hid (show n % 8 = 0 → unlittle s.data.toList < 2 ^ n from fun h=>bool_rest0 _ n (by rw [hsl,hb]) h)
  have HB1:=Lib.hid (show n % 8 ≠ 0 → ∀ (h:n / 8 < s.size),(unlittle s.data.toList < 2 ^ n ↔ s[n / 8].toNat / 2 ^ (n % 8) = 0) from fun h h'=>bool_rest _ n _ (by rw [hsl,hb]) h (by rw [List.getElem?_eq_getElem (by rw [hsl];exact h')];rfl))
  have HK:=Lib.hid (known_ok 1 n w (by decide) (by decide) (by omega) (by omega))
  have HS:=Lib.hid (size0 1 w (.inl rfl))
  have hd:((s.size:Int) != ((n:Int) + 7) / 8) = false:=by rw [bne_eq_false_iff_eq];omega
  have Hb:=Lib.hid hb
  clear hX hLV hl1 hsl hsz hev hb
  go_enter Tryz.func47,Tryz.ntmps47
  go_wp2_with fail
  refine HK.out.mono ?_;rintro e w1 ⟨rfl,rfl⟩
  go_wp2_with fail
  refine HS.out.mono ?_;rintro e w2 ⟨rfl,rfl⟩
  go_wp2_with fail
  go_loopw [1,9,41] (fun re u i wr=>∃ j:Nat,j ≤ n ∧ i = .int .i64 (j:Nat) ∧ re = .string s ∧ wr.ownsRow w2.heap.size 41 3 u (LV j).length ((LV j).flatMap valCells) ∧ Below w2.heap.size w2 wr) (fun _ _ i _=>n - (intOf i).toNat)
  case atStart=>exact ⟨0,Nat.zero_le _,rfl,rfl,by rw [HL0.out];exact World.ownsRow_nil _ _ _ _,Below.refl _ _⟩
  case round =>
    obtain ⟨j,hj,rfl,rfl,hown,hb⟩:=hrel
    have Hown:=Lib.hid hown;have Hbb:=Lib.hid hb
    clear hown hb
    by_cases hlt:j < n
    · have hlt':(j:Int) < (n:Int):=by omega
      have HGj:=Lib.hid (HG.out j hlt)
      have HSj:=Lib.hid (HLs.out j)
      have HXj:=Lib.hid (HXb.out j)
      have hll:=HLl.out j
      have hl2:(LV j).length ≤ 20000:=by omega
      have hbs:=Hbb.out.size
      have hbs1:w2.heap.size ≤ wr.heap.size + 1:=by omega
      generalize X j = xx at *
      generalize LV j = Lj at *
      clear hll
      go_wp2_with (first
        | (refine wpList_alloc_row rfl 41 rfl iv _ _ hiv hzv rfl ?_)
        | (refine wpList_store_new rfl rfl 41 _ _ rfl rfl _ #[_,.int .i64 0,.string ⟨#[]⟩] rfl hszv rfl (valA_one ⟨_,0,⟨#[]⟩⟩) ?_))
      refine (HGj.out _).mono ?_;rintro e w3 ⟨rfl,rfl⟩
      go_wp2_with (at_builtin;refine wpList_pushVal rfl _ _ rfl w2.heap.size _ Lj rfl (Hown.out.alloc _) _ _ rfl ?_ hl2 ?_ (numV 1 xx) _ ?_ ?_;(focus simp);(focus simpa using hbs1);(focus exact num1_cells xx HXj.out);intro v' w4 hown' hgrow' hb';have HO4:=Lib.hid hown';have HB4:=Lib.hid ((Hbb.out.alloc hbs _).trans hb');clear hown' hgrow' hb')
      go_roundw
      case rel =>
        have hO5:=HO4.out
        rw [← HSj.out] at hO5
        exact ⟨j + 1,by omega,by go_num,rfl,hO5,HB4.out⟩
      case measure=>simp [intOf];omega
    · obtain rfl:j = n:=by omega
      have hbj:=Hb.out
      obtain ⟨adu,capu,hu⟩:=bslice_form Hown.out
      subst hu
      by_cases h8:j % 8 = 0
      · have d8:decide ((0:Int) < (j:Int) % 8) = false:=by simp;omega
        have HR:=Lib.hid (HR1.out (HB0.out h8))
        go_wp2_with fail
        go_ret2
        exact ⟨RdRet.good HR.out Hown.out,Hbb.out⟩
      · have hq:j / 8 < s.size:=by omega
        have d8:decide ((0:Int) < (j:Int) % 8) = true:=by simp;omega
        have hqI:(j:Int) / 8 < (s.size:Int):=by omega
        have hq2:((j:Int) / 8).toNat = j / 8:=by omega
        have hq0:(0:Int) ≤ (j:Int) / 8:=by omega
        have HBB:=Lib.hid (HB1.out h8 hq)
        have hevr:=(Hbb.out.cell (p:=⟨1,0,none⟩) Hsz.out).trans Hev.out
        by_cases hz:s[j / 8].toNat / 2 ^ (j % 8) = 0
        · have HR:=Lib.hid (HR1.out (HBB.out.2 hz))
          have dz:((s[j / 8].toNat:Int) / 2 ^ (j % 8) != 0) = false:=by
            rw [show ((2:Int) ^ (j % 8)) = ((2 ^ (j % 8):Nat):Int) by simp,← Int.natCast_ediv,hz];rfl
          clear hz
          go_wp2_with fail
          go_ret2
          exact ⟨RdRet.good HR.out Hown.out,Hbb.out⟩
        · have HR:=Lib.hid (HR2.out (fun hh=>hz (HBB.out.1 hh)))
          have dz:((s[j / 8].toNat:Int) / 2 ^ (j % 8) != 0) = true:=by
            rw [show ((2:Int) ^ (j % 8)) = ((2 ^ (j % 8):Nat):Int) by simp,← Int.natCast_ediv,bne_iff_ne];omega
          clear hz
          go_wp2_with fail
          go_quiet (fail)
          go_wp2_with fail
          go_ret2
          exact ⟨RdRet.bad HR.out,below_drewN Hbb.out _⟩
theorem readPlain_any (kind:Int) (s:ByteArray) (n:Nat) (T:TypeId) (x:Value) (w:World) (h1:1 ≤ kind) (h5:kind ≤ 5) (hn:n ≤ 20000) (hs:s.size ≤ 1000000) (hev:w.cell? ⟨1,0,none⟩ = some (.iface T x)) :
  Calls Tryz.prog 47 #[.int .i64 kind,.string s,.int .i64 (n:Nat)] w fun e w'=>RdRet (.iface T x) w.heap.size (readP kind s.data.toList n) e w' ∧ Below w.heap.size w w':=by
 have hsl:s.data.toList.length = s.size:=by simp
 by_cases h4:kind = 4
 ·subst h4
  exact readPlain_texts s n T x w hn hs hev
 ·have hk:=wdOf_is h1 h5 h4
  by_cases hb:s.size = (n * wdOf kind + 7) / 8
  ·by_cases hk1:kind = 1
   ·subst hk1
    exact readPlain_bool s n w T x hn hs hev (by rw [hb];show (n * 1 + 7) / 8 = _;rw [Nat.mul_one])
   ·refine (readPlain_num kind _ hk hk1 s n w hn hs hb).mono ?_
    rintro e w' ⟨⟨u,rfl,ho⟩,hbw⟩
    refine ⟨RdRet.good (readP_num h4 hk1 (by rw [hsl];exact hb)) ?_,hbw⟩
    rw [List.length_map,getAll_len]
    exact ho
  ·refine (readPlain_short kind _ hk s n T x w hn hs hev hb).mono ?_
   rintro e w' ⟨rfl,hbw⟩
   exact ⟨RdRet.bad (readP_short h4 (by rw [hsl];exact hb)),hbw⟩
end Go.Proofs.YtapiabmmfmfaeaaGreatDoor
/- Chapter 3 in plain Lean: what values bytes are, by unlike ones and their places. -/
namespace Go.Proofs.YtapiabmmfmfaeaaGreatDoor
set_option maxHeartbeats 4000000
set_option linter.unusedVariables false
open Go
def zeroV:Val:=⟨0,0,⟨#[]⟩⟩
def readDi (kind:Int) (s:List UInt8) (n:Nat):Option (List Val) :=
 match readU s with
 | none=>none
 | some (many,u)=>if n < many then none else match readT (s.drop u) with
  | none=>none
  | some (t,m)=>match readP kind t many with
   | none=>none
   | some us=>match readR (placeW many) n ((s.drop u).drop m) with
    | none=>none
    | some (ps,k)=>if k = ((s.drop u).drop m).length ∧ (∀ p ∈ ps,p < us.length) ∧ sameB (unlikeV [] (ps.map fun p=>us.getD p zeroV)) us = true then some (ps.map fun p=>us.getD p zeroV) else none
theorem readP_inv {kind:Int} (h1:1 ≤ kind) (h5:kind ≤ 5) {s:List UInt8} {n:Nat} {l:List Val} (h:readP kind s n = some l) :
  plainB kind l = s ∧ l.length = n ∧ (∀ x ∈ l,x.Ok) ∧ ∀ x ∈ l,OkP kind x:=by
 unfold readP at h
 by_cases h4:kind = 4
 ·subst h4
  rw [if_pos rfl] at h
  exact readTs_inv n s l h
 ·rw [if_neg h4] at h
  split at h
  ·rename_i hc
   obtain rfl:=Option.some.inj h
   have hg:=getAll_lt (unlittle s) (wdOf kind) n
   have hn:numsOf (wdOf kind) ((getAll (unlittle s) (wdOf kind) n).map (numV kind)) = getAll (unlittle s) (wdOf kind) n:=by
    unfold numsOf
    rw [List.map_map]
    refine (List.map_congr_left fun x hx=>?_).trans (List.map_id' _)
    have hx':=hg x hx
    have hx2:(kind = 2 → x < 4294967296) ∧ x < 18446744073709551616:=by
     have e32:(2:Nat) ^ 32 = 4294967296:=by decide
     have e64:(2:Nat) ^ 64 = 18446744073709551616:=by decide
     unfold wdOf at hx'
     by_cases c1:kind = 1
     ·rw [if_pos c1,Nat.pow_one] at hx';omega
     ·rw [if_neg c1] at hx'
      by_cases c2:kind = 2
      ·rw [if_pos c2,e32] at hx';omega
      ·rw [if_neg c2,e64] at hx';omega
    show uN (numV kind x) % 2 ^ wdOf kind = x
    rw [uN_num kind x hx2.1 hx2.2,Nat.mod_eq_of_lt hx']
   refine ⟨?_,by rw [List.length_map,getAll_len],fun x hx=>?_,fun x hx=>?_⟩
   ·unfold plainB
    rw [if_neg h4,hn]
    refine (packed_getAll s _ n hc.1).2 ?_
    by_cases c1:kind = 1
    ·have:=hc.2 c1
     unfold wdOf
     rwa [if_pos c1,Nat.mul_one]
    ·have hlt:=unlittle_lt s
     have h8:n * wdOf kind = 8 * s.length:=by
      have h8:=hc.1
      unfold wdOf at h8 ⊢
      rw [if_neg c1] at h8 ⊢
      split at h8 <;> simp_all <;> omega
     rw [h8,pow256]
     exact hlt
   ·obtain ⟨y,hy,rfl⟩:=List.mem_map.1 hx
    exact (num_ok kind y h1 h5 h4 (hg y hy)).1
   ·obtain ⟨y,hy,rfl⟩:=List.mem_map.1 hx
    exact (num_ok kind y h1 h5 h4 (hg y hy)).2
  ·cases h
end Go.Proofs.YtapiabmmfmfaeaaGreatDoor
/- Chapter 3 in plain Lean: what values bytes are, by unlike ones and their places: case by case. -/
namespace Go.Proofs.YtapiabmmfmfaeaaGreatDoor
set_option maxHeartbeats 4000000
set_option linter.unusedVariables false
open Go
theorem readR_len2 (wd:Nat):∀ (n left:Nat) (s:List UInt8) (L:List Nat) (k:Nat),left = n → readR wd left s = some (L,k) → L.length = left:=by
 intro n
 induction n using Nat.strongRecOn with
 | _ n ih =>
  intro left s L k hn h
  by_cases h0:left = 0
  ·subst h0
   rw [readR_zero] at h
   injection h with h
   injection h with h1 h2
   subst h1;rfl
  ·have hl:0 < left:=by omega
   cases hU:readU s with
   | none=>rw [readR_none wd left s hl hU] at h;cases h
   | some y =>
    obtain ⟨g,kk⟩:=y
    by_cases hb:g < 2 ∨ left < g / 2
    ·rw [readR_bad wd left g kk s hl hU hb] at h;cases h
    ·by_cases hp:g % 2 = 0
     ·by_cases h3:(s.drop kk).length < sizeB wd ∨ 2 ^ wd ≤ unlittle ((s.drop kk).take (sizeB wd))
      ·rw [readR_even_bad wd left g kk s hl hU hb hp h3] at h;cases h
      ·rw [readR_even wd left g kk s hl hU hb hp h3] at h
       cases hr:readR wd (left - g / 2) (s.drop (kk + sizeB wd)) with
       | none=>rw [hr] at h;cases h
       | some x =>
        obtain ⟨M,m⟩:=x
        have:=ih (left - g / 2) (by omega) _ _ M m rfl hr
        rw [hr] at h
        injection h with h
        injection h with h1 h2
        rw [← h1,List.length_append,List.length_replicate,this]
        omega
     ·by_cases h3:(s.drop kk).length < g / 2 * wd ∨ left + 8 ≤ 8 * (g / 2) ∨ ¬ ∀ x ∈ (getAll (unlittle (s.drop kk)) wd (8 * (g / 2))).drop left,x = 0
      ·rw [readR_odd_bad wd left g kk s hl hU hb (by omega) h3] at h;cases h
      ·rw [readR_odd wd left g kk s hl hU hb (by omega) h3] at h
       cases hr:readR wd (left - 8 * (g / 2)) (s.drop (kk + g / 2 * wd)) with
       | none=>rw [hr] at h;cases h
       | some x =>
        obtain ⟨M,m⟩:=x
        have:=ih (left - 8 * (g / 2)) (by omega) _ _ M m rfl hr
        rw [hr] at h
        injection h with h
        injection h with h1 h2
        rw [← h1,List.length_append,List.length_take,getAll_len,this]
        omega
theorem readDi_1 {kind:Int} {s:List UInt8} {n:Nat} (h:readU s = none):readDi kind s n = none:=by unfold readDi;rw [h]
theorem readDi_2 {kind:Int} {s:List UInt8} {n many u:Nat} (h:readU s = some (many,u)) (h2:n < many):readDi kind s n = none:=by
 unfold readDi;rw [h];simp only [];rw [if_pos h2]
theorem readDi_3 {kind:Int} {s:List UInt8} {n many u:Nat} (h:readU s = some (many,u)) (h2:¬ n < many) (h3:readT (s.drop u) = none):readDi kind s n = none:=by
 unfold readDi;rw [h];simp only [];rw [if_neg h2,h3]
theorem readDi_4 {kind:Int} {s t:List UInt8} {n many u m:Nat} (h:readU s = some (many,u)) (h2:¬ n < many) (h3:readT (s.drop u) = some (t,m)) (h4:readP kind t many = none):readDi kind s n = none:=by
 unfold readDi;rw [h];simp only [];rw [if_neg h2,h3];simp only [];rw [h4]
theorem readDi_5 {kind:Int} {s t:List UInt8} {n many u m:Nat} {us:List Val} (h:readU s = some (many,u)) (h2:¬ n < many) (h3:readT (s.drop u) = some (t,m)) (h4:readP kind t many = some us) (h5:readR (placeW many) n (s.drop (u + m)) = none):readDi kind s n = none:=by
 unfold readDi;rw [h];simp only [];rw [if_neg h2,h3];simp only [];rw [h4];simp only [];rw [List.drop_drop,h5]
theorem readDi_6 {kind:Int} {s t:List UInt8} {n many u m k:Nat} {us:List Val} {ps:List Nat} (h:readU s = some (many,u)) (h2:¬ n < many) (h3:readT (s.drop u) = some (t,m)) (h4:readP kind t many = some us) (h5:readR (placeW many) n (s.drop (u + m)) = some (ps,k)) :
  readDi kind s n = if k = (s.drop (u + m)).length ∧ (∀ p ∈ ps,p < us.length) ∧ sameB (unlikeV [] (ps.map fun p=>us.getD p zeroV)) us = true then some (ps.map fun p=>us.getD p zeroV) else none:=by
 unfold readDi;rw [h];simp only [];rw [if_neg h2,h3];simp only [];rw [h4];simp only [];rw [List.drop_drop,h5]
theorem sameB_len:∀ {a b:List Val},a.length ≠ b.length → sameB a b = false:=by
 intro a b h
 cases hs:sameB a b with
 | false=>rfl
 | true=>exact absurd (congrArg List.length ((sameB_iff a b).1 hs)) h
theorem sameB_at {a b:List Val} {j:Nat} {x y:Val} (hx:a[j]? = some x) (hy:b[j]? = some y) (h:valEq x y = false):sameB a b = false:=by
 cases hs:sameB a b with
 | false=>rfl
 | true =>
  have e:=(sameB_iff a b).1 hs
  subst e
  have:=hx.symm.trans hy
  obtain rfl:=Option.some.inj this
  rw [(valEq_iff x x).2 rfl] at h
  cases h
theorem sameB_all {a b:List Val} (hl:a.length = b.length) (h:∀ (j:Nat) (x y:Val),a[j]? = some x → b[j]? = some y → x = y):sameB a b = true:=by
 refine (sameB_iff a b).2 (List.ext_getElem hl fun j h1 h2=>h j _ _ (List.getElem?_eq_getElem h1) (List.getElem?_eq_getElem h2))
end Go.Proofs.YtapiabmmfmfaeaaGreatDoor
/- Chapter 3 in plain Lean: what texts bytes are, by what they have in common. -/
namespace Go.Proofs.YtapiabmmfmfaeaaGreatDoor
set_option maxHeartbeats 4000000
set_option linter.unusedVariables false
open Go
def prefixP:List UInt8 → Nat → List UInt8 → Option (List (List UInt8))
 | _,0,_=>some []
 | last,n + 1,s=>match readU s with
  | none=>none
  | some (k,u)=>if last.length < k then none else match readT (s.drop u) with
   | none=>none
   | some (t,m)=>if 100 < k + t.length then none else (prefixP (last.take k ++ t) n ((s.drop u).drop m)).map ((last.take k ++ t) :: ·)
def readX (s:List UInt8) (n:Nat):Option (List (List UInt8)) :=
 match prefixP [] n s with
 | none=>none
 | some L=>if prefixB [] L = s then some L else none
theorem prefixP_inv:∀ (n:Nat) (last s:List UInt8) (L:List (List UInt8)),prefixP last n s = some L → L.length = n ∧ ∀ x ∈ L,x.length ≤ 100
 | 0,last,s,L,h=>by
  obtain rfl:=Option.some.inj h
  simp
 | n + 1,last,s,L,h=>by
  unfold prefixP at h
  split at h
  ·cases h
  ·rename_i k u hu
   split at h
   ·cases h
   ·rename_i hk
    split at h
    ·cases h
    ·rename_i t m ht
     split at h
     ·cases h
     ·rename_i h100
      cases hr:prefixP (last.take k ++ t) n ((s.drop u).drop m) with
      | none=>rw [hr] at h;cases h
      | some L' =>
       rw [hr] at h
       obtain rfl:=Option.some.inj h
       obtain ⟨h1,h2⟩:=prefixP_inv n _ _ L' hr
       refine ⟨by rw [List.length_cons,h1],fun x hx=>?_⟩
       rcases List.mem_cons.1 hx with rfl | hx
       ·rw [List.length_append,List.length_take];omega
       ·exact h2 x hx
theorem readX_inv {s:List UInt8} {n:Nat} {L:List (List UInt8)} (h:readX s n = some L):prefixB [] L = s ∧ L.length = n ∧ ∀ x ∈ L,x.length ≤ 100:=by
 unfold readX at h
 split at h
 ·cases h
 ·rename_i L' hp
  split at h
  ·rename_i he
   obtain rfl:=Option.some.inj h
   exact ⟨he,prefixP_inv n _ _ _ hp⟩
  ·cases h
end Go.Proofs.YtapiabmmfmfaeaaGreatDoor
/- The walk of enc.ReadPrefix. -/
namespace Go.Proofs.YtapiabmmfmfaeaaGreatDoor
set_option maxHeartbeats 4000000
set_option linter.unusedVariables false
open Go Go.RowKit Go.ChangeShapes
theorem info_strX:(Tryz.prog.info? 9).map (fun i=>(i.zero,i.size,i.bytes)) = some (some (.string ByteArray.empty),1,16):=by kernel_rfl
def XRet (ev:Value) (B:Nat) (r:Option (List (List UInt8))) (e:Ending) (w':World):Prop :=
 match r with
 | none=>e = .returned (.tuple #[.slice none 0 0,ev])
 | some L=>∃ u ls,e = .returned (.tuple #[u,.nilIface]) ∧ bytesL ls = L ∧ w'.ownsRow B 9 1 u ls.length (ls.map strV)
theorem XRet.bad {ev:Value} {B:Nat} {r:Option (List (List UInt8))} {w':World} (h:r = none):XRet ev B r (.returned (.tuple #[.slice none 0 0,ev])) w':=by rw [h];exact rfl
theorem readX_none {s:List UInt8} {n:Nat} (h:prefixP [] n s = none):readX s n = none:=by unfold readX;rw [h]
theorem prefixP_step {n k u m:Nat} {last s t:List UInt8} (h:readU s = some (k,u)) (hk:¬ last.length < k) (ht:readT (s.drop u) = some (t,m)) (h100:¬ 100 < k + t.length) :
  prefixP last (n + 1) s = (prefixP (last.take k ++ t) n ((s.drop u).drop m)).map ((last.take k ++ t) :: ·):=by
 rw [prefixP,h];simp only [];rw [if_neg hk,ht];simp only [];rw [if_neg h100]
set_option maxRecDepth 100000 in
theorem readPrefix_any (s:ByteArray) (n:Nat) (T:TypeId) (x:Value) (w:World) (hn:n ≤ 20000) (hs:s.size ≤ 200000) (hev:w.cell? ⟨1,0,none⟩ = some (.iface T x)) :
  Calls Tryz.prog 50 #[.string s,.int .i64 (n:Nat)] w fun e w'=>XRet (.iface T x) w.heap.size (readX s.data.toList n) e w' ∧ Below w.heap.size w w':=by
 obtain ⟨i0,hi,hz0,hz1,hz2⟩:=info_parts info_strX
 have hsz:(1:Nat) < w.heap.size:=block_lt_of_cell hev
 have Hsz:=Lib.hid hsz;have Hev:=Lib.hid hev
 clear hsz hev
 go_enter Tryz.func50,Tryz.ntmps50
 go_wp2_with fail
 go_loopw [6,7,8,25] (fun u re la i wr=>∃ (L:List ByteArray) (r:ByteArray) (last:List UInt8),L.length ≤ n ∧ i = .int .i64 (L.length:Nat) ∧ re = .string r ∧ la = .string ⟨last.toArray⟩ ∧ r.size ≤ s.size ∧ last.length ≤ 100 ∧
  wr.ownsRow w.heap.size 9 1 u L.length (L.map strV) ∧ (∀ y ∈ L,y.size ≤ 100) ∧ Below w.heap.size w wr ∧
  prefixP [] n s.data.toList = (prefixP last (n - L.length) r.data.toList).map (bytesL L ++ ·)) (fun _ _ _ i _=>n - (intOf i).toNat)
 case atStart=>exact ⟨[],s,[],Nat.zero_le _,rfl,rfl,rfl,Nat.le_refl _,Nat.zero_le _,World.ownsRow_nil _ _ _ _,by simp,Below.refl _ _,by simp [bytesL]⟩
 case round =>
  obtain ⟨L,r,last,hLn,rfl,rfl,rfl,hrs,hls,hown,hall,hb,hinv⟩:=hrel
  have hevr:=(hb.cell (p:=⟨1,0,none⟩) Hsz.out).trans Hev.out
  have Hinv:=Lib.hid hinv;have Hown:=Lib.hid hown;have Hall:=Lib.hid hall;have Hb:=Lib.hid hb
  have hrm:r.size ≤ maxLen:=by unfold maxLen;omega
  clear hinv hown hall hb
  by_cases hlt:L.length < n
  ·have hlt':(L.length:Int) < (n:Int):=by omega
   obtain ⟨lf,hlf⟩:∃ lf,n - L.length = lf + 1:=⟨n - L.length - 1,by omega⟩
   have Hlf:=Lib.hid hlf
   rw [hlf] at Hinv
   clear hlf
   cases hU:readU r.data.toList with
   | none =>
    have hc:=fun w1 hh=>readUvarint_none r (.iface T x) w1 hrm hh hU
    have Hc:=Lib.hid hc
    have HN:=Lib.hid (show prefixP last (lf + 1) r.data.toList = none by unfold prefixP;rw [hU])
    clear hc hU
    go_wp2_with fail
    refine (Hc.out _ hevr).mono ?_;rintro e w1 ⟨rfl,hb1⟩
    have hev1:=(hb1.cell (p:=⟨1,0,none⟩) (block_lt_of_cell hevr)).trans hevr
    go_wp2_with fail
    go_quiet (fail)
    go_wp2_with fail
    go_ret2
    refine ⟨XRet.bad (readX_none (by rw [Hinv.out,HN.out];rfl)),below_drewN (Hb.out.trans (hb1.mono Hb.out.size)) _⟩
   | some y =>
    obtain ⟨k,kk⟩:=y
    have hc:=fun w1 hh=>readUvarint_some r (.iface T x) w1 hrm hh hU
    have Hc:=Lib.hid hc
    obtain ⟨hl1,hl2,hl3,hl4⟩:=readU_lt hU
    have hrl:r.data.toList.length = r.size:=by simp
    rw [hrl] at hl3
    have HU:=Lib.hid hU
    clear hc hU hrl
    by_cases hkl:last.length < k
    ·have HN:=Lib.hid (show prefixP last (lf + 1) r.data.toList = none by unfold prefixP;rw [HU.out];simp only [];rw [if_pos hkl])
     have hki:(last.length:Int) < (k:Int):=by omega
     go_wp2_with fail
     refine (Hc.out _ hevr).mono ?_;rintro e w1 ⟨rfl,hb1⟩
     have hev1:=(hb1.cell (p:=⟨1,0,none⟩) (block_lt_of_cell hevr)).trans hevr
     go_wp2_with fail
     go_quiet (fail)
     go_wp2_with fail
     go_ret2
     refine ⟨XRet.bad (readX_none (by rw [Hinv.out,HN.out];rfl)),below_drewN (Hb.out.trans (hb1.mono Hb.out.size)) _⟩
    ·have hkl':k ≤ last.length:=by omega
     have Hkl:=Lib.hid hkl
     have hes:(r.extract kk r.size).size ≤ maxLen:=by simp;unfold maxLen;omega
     have he:=bext_list r kk
     clear hkl
     cases hT:readT (r.data.toList.drop kk) with
     | none =>
      have HN:=Lib.hid (show prefixP last (lf + 1) r.data.toList = none by unfold prefixP;rw [HU.out];simp only [];rw [if_neg Hkl.out,hT])
      have hct:=fun w1 hh=>readText_none (r.extract kk r.size) T x w1 hes hh (by rw [he];exact hT)
      have Hct:=Lib.hid hct
      clear hct hT he
      go_wp2_with fail
      refine (Hc.out _ hevr).mono ?_;rintro e w1 ⟨rfl,hb1⟩
      have hev1:=(hb1.cell (p:=⟨1,0,none⟩) (block_lt_of_cell hevr)).trans hevr
      have Hb1:=Lib.hid (Hb.out.trans (hb1.mono Hb.out.size))
      clear hb1
      go_wp2_with fail
      refine (Hct.out _ hev1).mono ?_;rintro e w2 ⟨rfl,hb2⟩
      have hev2:=(hb2.cell (p:=⟨1,0,none⟩) (block_lt_of_cell hev1)).trans hev1
      go_wp2_with fail
      go_quiet (fail)
      go_wp2_with fail
      go_ret2
      refine ⟨XRet.bad (readX_none (by rw [Hinv.out,HN.out];rfl)),below_drewN (Hb1.out.trans (hb2.mono Hb1.out.size)) _⟩
     | some y =>
      obtain ⟨t,m⟩:=y
      have hct:=fun w1 hh=>readText_some (r.extract kk r.size) T x w1 hes hh (by rw [he];exact hT)
      have Hct:=Lib.hid hct
      have htl:=(readT_inv hT).2
      have hml:=htl.2.2
      have htl2:=htl.2.1
      rw [List.length_drop] at hml
      have hrl:r.data.toList.length = r.size:=by simp
      rw [hrl] at hml
      have HT:=Lib.hid hT
      clear hct hT he htl hrl
      by_cases h100:100 < k + t.length
      ·have HN:=Lib.hid (show prefixP last (lf + 1) r.data.toList = none by unfold prefixP;rw [HU.out];simp only [];rw [if_neg Hkl.out,HT.out];simp only [];rw [if_pos h100])
       have h100':(100:Int) < (k:Int) + (t.length:Int):=by omega
       go_wp2_with fail
       refine (Hc.out _ hevr).mono ?_;rintro e w1 ⟨rfl,hb1⟩
       have hev1:=(hb1.cell (p:=⟨1,0,none⟩) (block_lt_of_cell hevr)).trans hevr
       have Hb1:=Lib.hid (Hb.out.trans (hb1.mono Hb.out.size))
       clear hb1
       go_wp2_with fail
       refine (Hct.out _ hev1).mono ?_;rintro e w2 ⟨rfl,hb2⟩
       have hev2:=(hb2.cell (p:=⟨1,0,none⟩) (block_lt_of_cell hev1)).trans hev1
       go_wp2_with fail
       go_quiet (fail)
       go_wp2_with fail
       go_ret2
       refine ⟨XRet.bad (readX_none (by rw [Hinv.out,HN.out];rfl)),below_drewN (Hb1.out.trans (hb2.mono Hb1.out.size)) _⟩
      ·have HN:=Lib.hid (show prefixP last (lf + 1) r.data.toList = (prefixP (last.take k ++ t) lf ((r.data.toList.drop kk).drop m)).map ((last.take k ++ t) :: ·) from prefixP_step HU.out Hkl.out HT.out h100)
       have h100':(k:Int) + (t.length:Int) ≤ 100:=by omega
       have h63:L.length + 1 ≤ maxLen:=by unfold maxLen;omega
       have h64:(L.length + 1) * 16 ≤ 140737488355328:=by omega
       have hkm:kk + m ≤ r.size:=by omega
       go_wp2_with fail
       refine (Hc.out _ hevr).mono ?_;rintro e w1 ⟨rfl,hb1⟩
       have hev1:=(hb1.cell (p:=⟨1,0,none⟩) (block_lt_of_cell hevr)).trans hevr
       have Hb1:=Lib.hid (Hb.out.trans (hb1.mono Hb.out.size))
       have Hown1:=Lib.hid (bown_below Hown.out hb1)
       clear hb1
       go_wp2_with fail
       refine (Hct.out _ hev1).mono ?_;rintro e w2 ⟨rfl,hb2⟩
       have Hb2:=Lib.hid (Hb1.out.trans (hb2.mono Hb1.out.size))
       have Hown2:=Lib.hid (bown_below Hown1.out hb2)
       have hbs2:=Hb2.out.size
       clear hb2 hev1
       go_wp2_with (at_builtin;refine wpList_push rfl _ _ 103 rfl w.heap.size 9 i0 (.string ByteArray.empty) 16 Tryz.underlying103 hi hz0 hz1 hz2 rfl strV (fun _=>rfl) _ _ rfl Hown2.out _ _ rfl h63 h64 hbs2 _ rfl ?_;intro v' w3 hown' hb' hnn;have Ho':=Lib.hid hown';have Hb3:=Lib.hid (Hb2.out.trans hb');clear hown' hb')
       go_roundw
       case rel =>
        have hE:(ByteArray.mk last.toArray).extract 0 k ++ ByteArray.mk t.toArray = ⟨(last.take k ++ t).toArray⟩:=by
         rw [ba_extract,ByteArray.mk_append_mk]
         simp
        have hl1:(L ++ [(ByteArray.mk last.toArray).extract 0 k ++ ByteArray.mk t.toArray]).length = L.length + 1:=by simp
        have hlt1:(last.take k ++ t).length ≤ 100:=by rw [List.length_append,List.length_take];omega
        refine ⟨_,r.extract (kk + m) r.size,last.take k ++ t,by rw [hl1];omega,by rw [hl1];rfl,rfl,by rw [hE],by simp;omega,hlt1,Ho'.out,?_,Hb3.out,?_⟩
        ·intro y hy
         rcases List.mem_append.1 hy with hy | hy
         ·exact Hall.out y hy
         ·obtain rfl:=List.mem_singleton.1 hy
          rw [hE];exact hlt1
        ·rw [Hinv.out,HN.out,hl1,show n - (L.length + 1) = lf by have:=Hlf.out;omega,bext_list,Option.map_map,List.drop_drop]
         congr 1
         funext y
         rw [hE]
         simp [bytesL]
       case measure=>simp [intOf];omega
  ·obtain rfl:L.length = n:=by omega
   rw [Nat.sub_self] at Hinv
   have hpa:prefixP [] L.length s.data.toList = some (bytesL L):=by rw [Hinv.out];simp [prefixP]
   have HPx:=Lib.hid (fun w1 hh=>prefix_ok u6 L w1 hh hn Hall.out)
   have HIs:=Lib.hid (IsStrs.of_own Hown.out)
   obtain ⟨adu,capu,rfl⟩:=bslice_form Hown.out
   have hra:readX s.data.toList L.length = if prefixB [] (bytesL L) = s.data.toList then some (bytesL L) else none:=by unfold readX;rw [hpa]
   have Hra:=Lib.hid hra
   clear hpa hra
   by_cases he:prefixB [] (bytesL L) = s.data.toList
   ·rw [if_pos he] at Hra
    have hneq:(prefixB [] (bytesL L) == s.toList) = true:=by rw [ByteArray.toList_eq,beq_iff_eq];exact he
    clear he
    go_wp2_with fail
    refine (HPx.out _ HIs.out).mono ?_;rintro e w1 ⟨rfl,hb1⟩
    have Ho1:=Lib.hid (bown_below Hown.out hb1)
    have Hb1:=Lib.hid (Hb.out.trans (hb1.mono Hb.out.size))
    clear hb1
    go_wp2_with fail
    go_ret2
    refine ⟨?_,Hb1.out⟩
    rw [Hra.out]
    exact ⟨_,L,rfl,rfl,Ho1.out⟩
   ·rw [if_neg he] at Hra
    have hneq:(prefixB [] (bytesL L) == s.toList) = false:=by rw [ByteArray.toList_eq,beq_eq_false_iff_ne];exact he
    clear he
    go_wp2_with fail
    refine (HPx.out _ HIs.out).mono ?_;rintro e w1 ⟨rfl,hb1⟩
    have hev1:=(hb1.cell (p:=⟨1,0,none⟩) (block_lt_of_cell hevr)).trans hevr
    have Hb1:=Lib.hid (Hb.out.trans (hb1.mono Hb.out.size))
    clear hb1
    go_wp2_with fail
    go_quiet (fail)
    go_wp2_with fail
    go_ret2
    exact ⟨XRet.bad Hra.out,below_drewN Hb1.out _⟩
end Go.Proofs.YtapiabmmfmfaeaaGreatDoor
/- Chapter 3 in plain Lean: what numbers bytes are, by their differences. -/
namespace Go.Proofs.YtapiabmmfmfaeaaGreatDoor
set_option maxHeartbeats 4000000
set_option linter.unusedVariables false
open Go Go.RowKit
def a64 (x y:Int):Int:=IntKind.i64.wrap (x + y)
theorem a64_in (x y:Int):-9223372036854775808 ≤ a64 x y ∧ a64 x y < 9223372036854775808:=by unfold a64;rw [IntKind.wrap_i64];omega
def adds (m:Int):Int → List Nat → List Int
 | _,[]=>[]
 | p,u :: us=>a64 p (m + (u:Int)) :: adds m (a64 p (m + (u:Int))) us
theorem adds_len (m:Int):∀ (us:List Nat) (p:Int),(adds m p us).length = us.length
 | [],_=>rfl
 | u :: us,p=>by rw [adds,List.length_cons,adds_len m us,List.length_cons]
theorem getLastD_cons' (a p:Int) (l:List Int):(a :: l).getLastD p = l.getLastD a:=by
 cases l <;> rfl
theorem adds_snoc (m:Int) (u:Nat):∀ (us:List Nat) (p:Int),adds m p (us ++ [u]) = adds m p us ++ [a64 ((adds m p us).getLastD p) (m + (u:Int))]
 | [],p=>rfl
 | a :: us,p=>by
  rw [List.cons_append,adds,adds_snoc m u us,adds,List.cons_append,getLastD_cons']
theorem adds_in (m:Int):∀ (us:List Nat) (p:Int),∀ x ∈ adds m p us,-9223372036854775808 ≤ x ∧ x < 9223372036854775808
 | [],_,x,h=>by simp [adds] at h
 | u :: us,p,x,h=>by
  rw [adds,List.mem_cons] at h
  rcases h with rfl | h
  ·exact a64_in _ _
  ·exact adds_in m us _ x h
def kB (k w:Nat):Nat:=(k * w + 7) / 8
def dParse (p:Int) (n:Nat) (s:List UInt8):Option (List Int) :=
 if h:n = 0 then some [] else match readV s with
 | none=>none
 | some (m,k)=>match s.drop k with
  | []=>none
  | c :: r=>if 64 < c.toNat ∨ r.length < kB (min 32 n) c.toNat then none else
   (dParse ((adds m p (getAll (unlittle r) c.toNat (min 32 n))).getLastD p) (n - min 32 n) (r.drop (kB (min 32 n) c.toNat))).map (adds m p (getAll (unlittle r) c.toNat (min 32 n)) ++ ·)
termination_by n
decreasing_by omega
theorem dParse_zero (p:Int) (s:List UInt8):dParse p 0 s = some []:=by rw [dParse,dif_pos rfl]
theorem dParse_none (p:Int) (n:Nat) (s:List UInt8) (h0:0 < n) (h:readV s = none):dParse p n s = none:=by rw [dParse,dif_neg (by omega),h]
theorem dParse_end (p:Int) (n:Nat) (s:List UInt8) {m:Int} {k:Nat} (h0:0 < n) (h:readV s = some (m,k)) (h1:s.drop k = []):dParse p n s = none:=by
 rw [dParse,dif_neg (by omega),h];simp only [];rw [h1]
theorem dParse_bad (p:Int) (n:Nat) (s:List UInt8) {m:Int} {k:Nat} {c:UInt8} {r:List UInt8} (h0:0 < n) (h:readV s = some (m,k)) (h1:s.drop k = c :: r) (h2:64 < c.toNat ∨ r.length < kB (min 32 n) c.toNat):dParse p n s = none:=by
 rw [dParse,dif_neg (by omega),h];simp only [];rw [h1];simp only [];rw [if_pos h2]
theorem dParse_step (p:Int) (n:Nat) (s:List UInt8) {m:Int} {k:Nat} {c:UInt8} {r:List UInt8} (h0:0 < n) (h:readV s = some (m,k)) (h1:s.drop k = c :: r) (h2:¬ (64 < c.toNat ∨ r.length < kB (min 32 n) c.toNat)) :
  dParse p n s = (dParse ((adds m p (getAll (unlittle r) c.toNat (min 32 n))).getLastD p) (n - min 32 n) (r.drop (kB (min 32 n) c.toNat))).map (adds m p (getAll (unlittle r) c.toNat (min 32 n)) ++ ·):=by
 rw [dParse,dif_neg (by omega),h];simp only [];rw [h1];simp only [];rw [if_neg h2]
def dAll (s:List UInt8) (n:Nat):Option (List Int) :=
 if n = 0 then some [] else match readV s with
 | none=>none
 | some (x,k)=>(dParse x (n - 1) (s.drop k)).map (x :: ·)
def numI (kind x:Int):Val:=⟨kind,x,⟨#[]⟩⟩
def readD (kind:Int) (s:List UInt8) (n:Nat):Option (List Val) :=
 match dAll s n with
 | none=>none
 | some L=>if (L.map (numI kind)).all (okB kind) && decide (deltaB L = s) then some (L.map (numI kind)) else none
theorem dParse_inv:∀ (N n:Nat) (p:Int) (s:List UInt8) (L:List Int),n ≤ N → dParse p n s = some L → L.length = n ∧ ∀ x ∈ L,-9223372036854775808 ≤ x ∧ x < 9223372036854775808:=by
 intro N
 induction N with
 | zero =>
  intro n p s L hn h
  obtain rfl:n = 0:=by omega
  rw [dParse_zero] at h
  obtain rfl:=Option.some.inj h
  simp
 | succ N ih =>
  intro n p s L hn h
  rcases Nat.eq_zero_or_pos n with rfl | h0
  ·rw [dParse_zero] at h
   obtain rfl:=Option.some.inj h
   simp
  ·cases hv:readV s with
   | none=>rw [dParse_none p n s h0 hv] at h;cases h
   | some x =>
    obtain ⟨m,k⟩:=x
    cases hd:s.drop k with
    | nil=>rw [dParse_end p n s h0 hv hd] at h;cases h
    | cons c r =>
     by_cases hb:64 < c.toNat ∨ r.length < kB (min 32 n) c.toNat
     ·rw [dParse_bad p n s h0 hv hd hb] at h;cases h
     ·rw [dParse_step p n s h0 hv hd hb] at h
      cases hr:dParse ((adds m p (getAll (unlittle r) c.toNat (min 32 n))).getLastD p) (n - min 32 n) (r.drop (kB (min 32 n) c.toNat)) with
      | none=>rw [hr] at h;cases h
      | some L' =>
       rw [hr] at h
       obtain rfl:=Option.some.inj h
       obtain ⟨h1,h2⟩:=ih _ _ _ _ (by omega) hr
       refine ⟨by rw [List.length_append,adds_len,getAll_len,h1];omega,fun x hx=>?_⟩
       rcases List.mem_append.1 hx with hx | hx
       ·exact adds_in _ _ _ x hx
       ·exact h2 x hx
theorem readV_in {s:List UInt8} {m:Int} {k:Nat} (h:readV s = some (m,k)):-9223372036854775808 ≤ m ∧ m < 9223372036854775808 ∧ 0 < k ∧ k ≤ s.length:=by
 unfold readV at h
 cases hu:readU s with
 | none=>rw [hu] at h;cases h
 | some x =>
  obtain ⟨u,k'⟩:=x
  rw [hu] at h
  simp only [Option.map_some,Option.some.injEq,Prod.mk.injEq] at h
  obtain ⟨rfl,rfl⟩:=h
  have h1:=readU_lt hu
  have h2:=unzig_lt h1.1
  omega
theorem dAll_inv (s:List UInt8) (n:Nat) (L:List Int) (h:dAll s n = some L):L.length = n ∧ ∀ x ∈ L,-9223372036854775808 ≤ x ∧ x < 9223372036854775808:=by
 unfold dAll at h
 split at h
 ·obtain rfl:=Option.some.inj h
  subst_vars;simp
 ·split at h
  ·cases h
  ·rename_i x k hv
   have hx:=readV_in hv
   cases hr:dParse x (n - 1) (s.drop k) with
   | none=>rw [hr] at h;cases h
   | some L' =>
    rw [hr] at h
    obtain rfl:=Option.some.inj h
    obtain ⟨h1,h2⟩:=dParse_inv _ _ _ _ _ (Nat.le_refl _) hr
    refine ⟨by rw [List.length_cons,h1];omega,fun y hy=>?_⟩
    rcases List.mem_cons.1 hy with rfl | hy
    ·exact ⟨hx.1,hx.2.1⟩
    ·exact h2 y hy
theorem numI_ok (kind x:Int) (hk:kind = 2 ∨ kind = 3) (h0:-9223372036854775808 ≤ x) (h1:x < 9223372036854775808):(numI kind x).Ok :=
 ⟨by show _ ≤ kind;omega,by show kind < _;omega,h0,h1,Nat.zero_le _⟩
theorem numsI_numI (kind:Int) (L:List Int):numsI (L.map (numI kind)) = L:=by
 unfold numsI
 rw [List.map_map]
 exact List.map_id' L
theorem readD_inv {kind:Int} (hk:kind = 2 ∨ kind = 3) {s:List UInt8} {n:Nat} {l:List Val} (h:readD kind s n = some l) :
  deltaB (numsI l) = s ∧ l.length = n ∧ (∀ x ∈ l,x.Ok) ∧ ∀ x ∈ l,OkP kind x:=by
 unfold readD at h
 cases ha:dAll s n with
 | none=>rw [ha] at h;cases h
 | some L =>
  rw [ha] at h
  simp only at h
  split at h
  ·rename_i hc
   obtain rfl:=Option.some.inj h
   rw [Bool.and_eq_true,decide_eq_true_eq,List.all_eq_true] at hc
   obtain ⟨h1,h2⟩:=dAll_inv s n L ha
   refine ⟨by rw [numsI_numI];exact hc.2,by rw [List.length_map,h1],fun x hx=>?_,fun x hx=>(okB_iff kind x).1 (hc.1 x hx)⟩
   obtain ⟨y,hy,rfl⟩:=List.mem_map.1 hx
   exact numI_ok kind y hk (h2 y hy).1 (h2 y hy).2
  ·cases h
end Go.Proofs.YtapiabmmfmfaeaaGreatDoor
/- The walk of enc.ReadDelta. -/
namespace Go.Proofs.YtapiabmmfmfaeaaGreatDoor
set_option maxHeartbeats 4000000
set_option linter.unusedVariables false
open Go Go.RowKit Go.ChangeShapes
def NextAt (br bn:Nat) (r:ByteArray) (now:Int) (w:World):Prop :=
 w.heap[br]? = some (.cells #[.string r] 9 (0,0)) ∧ w.heap[bn]? = some (.cells #[.int .i64 now] 2 (0,0))
theorem NextAt.below {br bn:Nat} {r:ByteArray} {now:Int} {w w':World} (h:NextAt br bn r now w) (hb:Below w.heap.size w w'):NextAt br bn r now w' :=
 ⟨(hb.block _ (Array.getElem?_eq_some_iff.1 h.1).1).trans h.1,(hb.block _ (Array.getElem?_eq_some_iff.1 h.2).1).trans h.2⟩
theorem NextAt.ne {br bn:Nat} {r:ByteArray} {now:Int} {w:World} (h:NextAt br bn r now w):br ≠ bn:=by
 rintro rfl
 have:=h.1.symm.trans h.2
 simp at this
theorem NextAt.drew {br bn:Nat} {r:ByteArray} {now:Int} {w:World} (h:NextAt br bn r now w):NextAt br bn r now w.drew:=h
theorem NextAt.drewN {br bn:Nat} {r:ByteArray} {now:Int} {w:World} (h:NextAt br bn r now w) (q:Nat):NextAt br bn r now (w.drewN q):=h.below (below_drewN (Below.refl w.heap.size w) q)
theorem NextAt.setR {br bn:Nat} {r:ByteArray} {now:Int} {w:World} (h:NextAt br bn r now w) (r':ByteArray):NextAt br bn r' now (w.setCell ⟨br,0,none⟩ (.string r')):=by
 refine ⟨?_,?_⟩
 ·rw [heap_setCell_same _ _ _ _ _ _ h.1];rfl
 ·rw [heap_setCell_other _ _ _ _ (fun e=>h.ne e.symm)];exact h.2
theorem NextAt.setN {br bn:Nat} {r:ByteArray} {now:Int} {w:World} (h:NextAt br bn r now w) (now':Int):NextAt br bn r now' (w.setCell ⟨bn,0,none⟩ (.int .i64 now')):=by
 refine ⟨?_,?_⟩
 ·rw [heap_setCell_other _ _ _ _ h.ne];exact h.1
 ·rw [heap_setCell_same _ _ _ _ _ _ h.2];rfl
theorem NextAt.cr {br bn:Nat} {r:ByteArray} {now:Int} {w:World} (h:NextAt br bn r now w):w.cell? ⟨br,0,none⟩ = some (.string r):=by rw [Lib.cell_of_heap h.1];rfl
theorem NextAt.cn {br bn:Nat} {r:ByteArray} {now:Int} {w:World} (h:NextAt br bn r now w):w.cell? ⟨bn,0,none⟩ = some (.int .i64 now):=by rw [Lib.cell_of_heap h.2];rfl
theorem NextAt.fr {br bn:Nat} {r:ByteArray} {now:Int} {w:World} (h:NextAt br bn r now w):w.frozen? ⟨br,0,none⟩ = false:=Lib.frozen_of_heap h.1 0
theorem NextAt.fn {br bn:Nat} {r:ByteArray} {now:Int} {w:World} (h:NextAt br bn r now w):w.frozen? ⟨bn,0,none⟩ = false:=Lib.frozen_of_heap h.2 0
def VKeep (w w':World):Prop:=∀ (B:Nat) (v:Value) (n:Nat) (xs:List Value),w.ownsRow B 41 3 v n xs → w'.ownsRow B 41 3 v n xs
theorem VKeep.trans {w w1 w2:World} (h:VKeep w w1) (k:VKeep w1 w2):VKeep w w2:=fun B v n xs hh=>k B v n xs (h B v n xs hh)
theorem VKeep.below {w w':World} (h:Below w.heap.size w w'):VKeep w w':=fun B v n xs hh=>bown_below hh h
theorem NextAt.keepR {br bn:Nat} {r:ByteArray} {now:Int} {w:World} (h:NextAt br bn r now w) (r':ByteArray):VKeep w (w.setCell ⟨br,0,none⟩ (.string r')):=fun B v n xs hh=>bown_set hh h.1 (by decide) _
theorem NextAt.keepN {br bn:Nat} {r:ByteArray} {now:Int} {w:World} (h:NextAt br bn r now w) (y:Value):VKeep w (w.setCell ⟨bn,0,none⟩ y):=fun B v n xs hh=>bown_set hh h.2 (by decide) _
set_option maxRecDepth 100000 in
theorem next_none (br bn:Nat) (r:ByteArray) (now:Int) (T:TypeId) (x:Value) (w:World) (h:NextAt br bn r now w) (hr:r.size ≤ maxLen) (hev:w.cell? ⟨1,0,none⟩ = some (.iface T x)) (hN:readV r.data.toList = none) :
  Calls Tryz.prog 80 #[.pointer (some ⟨br,0,none⟩),.pointer (some ⟨bn,0,none⟩)] w fun e w'=>e = .returned (.bool false) ∧ Below w.heap.size w w':=by
 have c1:=h.cr
 have HV:=Lib.hid (readVarint_none r (.iface T x) w hr hev hN)
 clear h hev hN
 go_enter Tryz.func80,Tryz.ntmps80
 go_wp2_with fail
 refine HV.out.mono ?_;rintro e w1 ⟨rfl,hb1⟩
 go_wp2_with fail
 go_ret
 exact ⟨rfl,hb1⟩
set_option maxRecDepth 100000 in
theorem next_some (B br bn:Nat) (r:ByteArray) (now:Int) (T:TypeId) (x:Value) (w:World) (hBr:B ≤ br) (hBn:B ≤ bn) (hBw:B ≤ w.heap.size) (h:NextAt br bn r now w) (hr:r.size ≤ maxLen) (hev:w.cell? ⟨1,0,none⟩ = some (.iface T x)) {m:Int} {k:Nat} (hN:readV r.data.toList = some (m,k)) :
  Calls Tryz.prog 80 #[.pointer (some ⟨br,0,none⟩),.pointer (some ⟨bn,0,none⟩)] w fun e w'=>e = .returned (.bool true) ∧ NextAt br bn (r.extract k r.size) m w' ∧ VKeep w w' ∧ Below B w w':=by
 have c1:=h.cr
 have HV:=Lib.hid (readVarint_some r (.iface T x) w hr hev hN)
 obtain ⟨_,_,_,hk⟩:=readV_in hN
 have hrl:r.data.toList.length = r.size:=by simp
 rw [hrl] at hk
 have hkI:(k:Int) ≤ (r.size:Int):=by omega
 have H:=Lib.hid h
 clear h hev hN hrl
 go_enter Tryz.func80,Tryz.ntmps80
 go_wp2_with fail
 refine HV.out.mono ?_;rintro e w1 ⟨rfl,hb1⟩
 have hN1:=H.out.below hb1
 have d1:=hN1.cr;have d2:=hN1.cn;have d3:=hN1.fr;have d4:=hN1.fn
 have hne:=hN1.ne
 have hne':bn ≠ br:=fun e=>hne e.symm
 have H1:=Lib.hid hN1;have Hb1:=Lib.hid hb1
 clear hN1 hb1 c1
 go_wp2_with fail
 go_region
 all_goals
  go_wp2_with fail
  go_ret
  refine ⟨rfl,(H1.out.setN m).setR _,?_,?_⟩
  ·exact (VKeep.below Hb1.out).trans ((H1.out.keepN _).trans (((H1.out.setN m).keepR _).trans fun B v n xs hh=>hh.drew))
  ·exact (((Hb1.out.mono hBw).setCell (p:=⟨bn,0,none⟩) hBn _).setCell (p:=⟨br,0,none⟩) hBr _).drew
theorem NextAt.push {br bn:Nat} {r:ByteArray} {now:Int} {w w':World} {o:Obj} {B n:Nat} {v:Value} {xs:List Value} (h:NextAt br bn r now w) (hg:(w.alloc o).grownBy w' v.ownBlock) (hown:w.ownsRow B 41 3 v n xs):NextAt br bn r now w':=by
 have l1:=(Array.getElem?_eq_some_iff.1 h.1).1
 have l2:=(Array.getElem?_eq_some_iff.1 h.2).1
 have n1:=bown_ne hown h.1 (by decide)
 have n2:=bown_ne hown h.2 (by decide)
 refine ⟨?_,?_⟩
 ·rw [hg.block br (by simp;omega) (fun e=>n1 e.symm),Lib.alloc_old w _ br l1];exact h.1
 ·rw [hg.block bn (by simp;omega) (fun e=>n2 e.symm),Lib.alloc_old w _ bn l2];exact h.2
theorem NextAt.fresh (s:ByteArray) (w:World):NextAt w.heap.size (w.heap.size + 1) s 0 ((w.alloc (.cells #[.string s] 9)).alloc (.cells #[.int .i64 0] 2)):=by
 refine ⟨?_,?_⟩
 ·rw [Lib.alloc_old _ _ _ (by simp)];exact heap_alloc_new w _
 ·simpa using heap_alloc_new (w.alloc (.cells #[.string s] 9)) (.cells #[.int .i64 0] 2)
theorem bdata_get {s:ByteArray} {k:Nat} (h:k < s.size):s.data.toList[k]? = some s[k]:=by
 rw [List.getElem?_eq_getElem (by simpa using h)];rfl
theorem readD_none {kind:Int} {s:List UInt8} {n:Nat} (h:dAll s n = none):readD kind s n = none:=by unfold readD;rw [h]
theorem readD_yes {kind:Int} {s:List UInt8} {n:Nat} {L:List Int} (h:dAll s n = some L) (hv:valsErr kind (L.map (numI kind)) = .nil) (hs:deltaB L = s):readD kind s n = some (L.map (numI kind)):=by
 unfold readD
 rw [h]
 simp only []
 rw [if_pos]
 rw [Bool.and_eq_true,decide_eq_true_eq,List.all_eq_true]
 exact ⟨fun x hx=>(okB_iff kind x).2 ((valsErr_nil hv).2.2.2 x hx),hs⟩
theorem readD_no {kind:Int} (hk:kind = 2 ∨ kind = 3) {s:List UInt8} {n:Nat} {L:List Int} (hn:n ≤ 20000) (h:dAll s n = some L) (hv:valsErr kind (L.map (numI kind)) ≠ .nil ∨ deltaB L ≠ s):readD kind s n = none:=by
 have hl:=(dAll_inv s n L h).1
 unfold readD
 rw [h]
 simp only []
 rw [if_neg]
 intro hh
 rw [Bool.and_eq_true,decide_eq_true_eq,List.all_eq_true] at hh
 rcases hv with hv | hv
 ·apply hv
  unfold valsErr
  rw [if_neg (by omega),if_neg (by rw [List.length_map];omega),(badAt_none kind _ 0).2 fun x hx=>(okB_iff kind x).1 (hh.1 x hx)]
 ·exact hv hh.2
theorem getLastD_app (a b:List Int) (d:Int):(a ++ b).getLastD d = b.getLastD (a.getLastD d):=by
 induction b generalizing a with
 | nil=>simp
 | cons x b ih =>
  have e:a ++ x :: b = (a ++ [x]) ++ b:=by simp
  rw [e,ih,getLastD_cons']
  congr 1
  simp
theorem num_cells' {kind z a:Int} (h:z = a):(#[.int .i64 kind,.int .i64 z,.string ⟨#[]⟩]:Array Value) = valA (numI kind a):=by rw [h];rfl
theorem adds_lastin (m p:Int) (hp:-9223372036854775808 ≤ p ∧ p < 9223372036854775808) (us:List Nat):-9223372036854775808 ≤ (adds m p us).getLastD p ∧ (adds m p us).getLastD p < 9223372036854775808:=by
 have h:=adds_in m us p
 rw [List.getLastD_eq_getLast?]
 cases hl:(adds m p us).getLast? with
 | none=>exact hp
 | some y=>exact h y (List.mem_of_getLast? hl)
theorem wrap64_u64 {a:Int} (h0:-9223372036854775808 ≤ a) (h1:a < 9223372036854775808):wrap64 (IntKind.u64.wrap a) = a:=by
 unfold wrap64;rw [IntKind.wrap_u64];omega
theorem last_at (kind:Int) (L:List Int) (q:Nat) (h:L.length = q + 1):(L.map (numI kind))[q]? = some (numI kind (L.getLastD 0)):=by
 rw [List.getElem?_map,List.getLastD_eq_getLast?,List.getLast?_eq_getElem?,h,Nat.add_sub_cancel,List.getElem?_eq_getElem (by omega)];rfl
theorem u64_add (p m:Int) (g:Nat):IntKind.u64.wrap (IntKind.u64.wrap p + IntKind.u64.wrap (IntKind.u64.wrap m + (g:Int))) = IntKind.u64.wrap (a64 p (m + (g:Int))):=by
 unfold a64;rw [IntKind.wrap_u64,IntKind.wrap_u64,IntKind.wrap_u64,IntKind.wrap_u64,IntKind.wrap_u64,IntKind.wrap_i64];omega
end Go.Proofs.YtapiabmmfmfaeaaGreatDoor
/- The walk of enc.ReadDelta where it reads no number. -/
namespace Go.Proofs.YtapiabmmfmfaeaaGreatDoor
set_option maxHeartbeats 4000000
set_option linter.unusedVariables false
open Go Go.RowKit Go.ChangeShapes
set_option maxRecDepth 100000 in
theorem readDelta_zero (kind:Int) (hk:kind = 2 ∨ kind = 3) (s:ByteArray) (T:TypeId) (x:Value) (w:World) (hev:w.cell? ⟨1,0,none⟩ = some (.iface T x)) :
    Calls Tryz.prog 49 #[.int .i64 kind,.string s,.int .i64 0] w fun e w'=>RdRet (.iface T x) w.heap.size (readD kind s.data.toList 0) e w' ∧ Below w.heap.size w w':=by
  have HK:=Lib.hid (known_ok kind 0 w (by omega) (by omega) (by omega) (by omega))
  have hbw:Below w.heap.size w ((w.alloc (.cells #[.string s] 9)).alloc (.cells #[.int .i64 0] 2)):=((Below.refl _ _).alloc (Nat.le_refl _) _).alloc (by simp) _
  have hev2:=(hbw.cell (p:=⟨1,0,none⟩) (block_lt_of_cell hev)).trans hev
  have Hbw:=Lib.hid hbw;have Hev2:=Lib.hid hev2
  have hA:dAll s.data.toList 0 = some []:=rfl
  have HD:=Lib.hid (fun w1=>delta_nil kind hk (.slice none 0 0) w1 (.inl ⟨rfl,none,0,rfl⟩))
  clear hbw hev2 hev
  by_cases h0:s.size = 0
  · obtain rfl:=empty_list h0
    have HR:=Lib.hid (show readD kind (⟨#[]⟩:ByteArray).data.toList 0 = some [] from rfl)
    clear h0 hA
    rcases hk with rfl | rfl
    all_goals
      go_enter Tryz.func49,Tryz.ntmps49
      go_wp2_with fail
      refine HK.out.mono ?_;rintro e w1 ⟨rfl,hw1⟩
      subst hw1
      go_wp2_with fail
      generalize (w1.alloc (.cells #[.string ⟨#[]⟩] 9)).alloc (.cells #[.int .i64 0] 2) = W2 at *
      go_loopw [9] (fun u wr=>u = .slice none 0 0 ∧ wr = W2) (fun u _=>0)
      case atStart=>exact ⟨rfl,rfl⟩
      case round =>
        obtain ⟨rfl,rfl⟩:=hrel
        go_wp2_with fail
        refine (HD.out _).mono ?_;rintro e w5 ⟨rfl,hb5⟩
        have Hb5:=Lib.hid (Hbw.out.trans (hb5.mono Hbw.out.size))
        clear hb5
        go_wp2_with fail
        go_ret2
        exact ⟨RdRet.good HR.out (World.ownsRow_nil _ _ _ _),Hb5.out⟩
  · have hne:¬ s.toList = []:=by
      intro e
      rw [ByteArray.toList_eq] at e
      exact h0 (by rw [← size_data,e];rfl)
    have hie:s.toList.isEmpty = false:=by rw [empty_beq',decide_eq_false_iff_not];exact h0
    have hbq:(([]:List UInt8) == s.toList) = false:=by rw [beq_eq_false_iff_ne];exact fun e=>hne e.symm
    have HR:=Lib.hid (show readD kind s.data.toList 0 = none by
      unfold readD
      rw [hA]
      simp only []
      rw [if_neg]
      intro hh
      rw [Bool.and_eq_true,decide_eq_true_eq] at hh
      exact hne (by rw [ByteArray.toList_eq];exact hh.2.symm))
    clear h0 hA
    rcases hk with rfl | rfl
    all_goals
      go_enter Tryz.func49,Tryz.ntmps49
      go_wp2_with fail
      refine HK.out.mono ?_;rintro e w1 ⟨rfl,hw1⟩
      subst hw1
      go_wp2_with fail
      generalize (w1.alloc (.cells #[.string s] 9)).alloc (.cells #[.int .i64 0] 2) = W2 at *
      go_loopw [9] (fun u wr=>u = .slice none 0 0 ∧ wr = W2) (fun u _=>0)
      case atStart=>exact ⟨rfl,rfl⟩
      case round =>
        obtain ⟨rfl,rfl⟩:=hrel
        go_wp2_with fail
        refine (HD.out _).mono ?_;rintro e w5 ⟨rfl,hb5⟩
        have hev5:=(hb5.cell (p:=⟨1,0,none⟩) (block_lt_of_cell Hev2.out)).trans Hev2.out
        have Hb5:=Lib.hid (Hbw.out.trans (hb5.mono Hbw.out.size))
        clear hb5
        go_wp2_with fail
        go_quiet (fail)
        go_wp2_with fail
        go_ret2
        exact ⟨RdRet.bad HR.out,below_drewN Hb5.out _⟩
end Go.Proofs.YtapiabmmfmfaeaaGreatDoor
