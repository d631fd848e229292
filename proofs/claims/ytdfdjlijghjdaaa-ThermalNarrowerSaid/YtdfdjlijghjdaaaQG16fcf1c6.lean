/- A part of the proof: no statement of its own. -/
import Derived.Test.YtdfdjlijghjdaaaQG3cc71537
set_option linter.unusedSimpArgs false
set_option linter.unusedVariables false
namespace Go.Proofs.Ytdfdjlijghjdaaa
namespace Abs
open Go Go.RowKit
section
variable {P : Program} {S : Sums} {C C' C1 : Cx} {w w' : World} {H hp : Heap}
theorem FnJ.focus {f : FuncId} {args : List AV} {js : List Nat} {res : AV} {h1 : Heap} (hnd : nodupB js = true) (hoa : okR.okRL (fun i => memN i js) args = true) (hoh : okSub js hp js = true)
  (hor : okR (fun _ => true) res = true) (ho1 : okRH (fun _ => true) h1 = true) {m jc : Nat} (hjm : js[m]? = some jc) (hml : m + 1 = js.length) (hjc : jc < hp.length)
  (h : FnJ P f (renA.renL (posD js) args) (subH js hp js) res h1 m) :
  FnJ P f args hp (renA (outN js hp.length) res) (putH js (outN js hp.length) h1 0 (mapH (at1 jc .top) hp) ++ newH (outN js hp.length) js.length h1) jc := by
 intro C w vs hO hH ha
 have hpos : ∀ i q, memN i js = true -> C.ρ i = some q -> (⟨fun k => match js[k]? with | some i => C.ρ i | none => none, C.I, fun _ => none⟩ : Cx).ρ (posD js i) = some q := fun i q hm hq => by
  simp only [pos_mem hm]; exact hq
 have hC0 : ∀ k q, (⟨fun k => match js[k]? with | some i => C.ρ i | none => none, C.I, fun _ => none⟩ : Cx).ρ k = some q -> ∃ i, js[k]? = some i /\ C.ρ i = some q := fun k q hq => by
  simp only at hq
  split at hq
  ·rename_i i hi; exact ⟨i, hi, hq⟩
  ·cases hq
 have hH0 : HR (⟨fun k => match js[k]? with | some i => C.ρ i | none => none, C.I, fun _ => none⟩ : Cx) (subH js hp js) w := by
  refine ⟨fun k q hq => ?_, fun k k' b c n b' c' n' hq hq' hne => ?_, fun k b c n hq => ?_, hH.ilt, fun b x h => by cases h⟩
  ·obtain ⟨i, hi, hq⟩ := hC0 k q hq
   rw [getB_sub js hp js k i hi]
   exact ren_brel hpos (fun _ h => h) (hH.live i q hq) (ok_sub js hp js k i hoh hi)
  ·obtain ⟨i, hi, hq⟩ := hC0 _ _ hq
   obtain ⟨i', hi', hq'⟩ := hC0 _ _ hq'
   exact hH.inj i i' _ _ _ _ _ _ hq hq' fun e => hne (by subst e; exact nodup_inj hnd hi hi')
  ·obtain ⟨i, hi, hq⟩ := hC0 _ _ hq
   exact hH.fresh _ _ _ _ hq
 have hm0 : (⟨fun k => match js[k]? with | some i => C.ρ i | none => none, C.I, fun _ => none⟩ : Cx).ρ m = C.ρ jc := by simp only [hjm]
 refine (h _ w vs (fun _ => rfl) hH0 (ren_relL hpos (fun _ h => h) ha hoa)).mono ?_
 rintro e w' ⟨v, C1, he, h2, h3, h4⟩
 rw [len_sub] at h4
 have hlt : ∀ {i : Nat} {p : Pl}, C.ρ i = some p -> i < hp.length := fun hi => hH.lt hi
 obtain ⟨C', hC'⟩ : ∃ C' : Cx, C' = ⟨fun i => if i < hp.length then (if i = jc then C1.ρ m else C.ρ i) else C1.ρ (i - hp.length + js.length), C1.I, C1.O⟩ := ⟨_, rfl⟩
 have hI' : C'.I = C1.I := by rw [hC']
 have hO' : C'.O = C1.O := by rw [hC']
 have hold : ∀ {i : Nat}, i < hp.length -> i ≠ jc -> C'.ρ i = C.ρ i := fun hi hne => by rw [hC']; simp [hi, hne]
 have hrow : C'.ρ jc = C1.ρ m := by rw [hC']; simp [hjc]
 have hnew : ∀ {i : Nat}, hp.length <= i -> C'.ρ i = C1.ρ (i - hp.length + js.length) := fun {i} hi => by rw [hC']; show (if i < hp.length then _ else _) = _; rw [if_neg (by omega)]
 have hn1 : ∀ {i : Nat}, (i = jc \/ hp.length <= i) -> ∃ k, C'.ρ i = C1.ρ k /\ (k = m \/ js.length <= k) /\ ((i = jc /\ k = m) \/ (hp.length <= i /\ k = i - hp.length + js.length)) := fun {i} hi => by
  rcases hi with rfl | hi
  ·exact ⟨m, hrow, .inl rfl, .inl ⟨rfl, rfl⟩⟩
  ·exact ⟨_, hnew hi, .inr (by omega), .inr ⟨hi, rfl⟩⟩
 have hρ1 : ∀ k i, js[k]? = some i -> k ≠ m -> C1.ρ k = C.ρ i := fun k i hi hk => by
  rw [h4.rho k (List.getElem?_eq_some_iff.1 hi).1 hk]; simp only [hi]
 have hjk : ∀ {k i : Nat}, js[k]? = some i -> k ≠ m -> i ≠ jc := fun hi hk e => hk (by subst e; exact nodup_inj hnd hi hjm)
 have hs : SinceJ jc hp.length C w C' w' := by
  refine ⟨hjc, h4.os, h4.tape, h4.output, h4.size, fun k hk hn => h4.keep k hk fun k' b c n hq => ?_, fun b hb => by rw [hI']; exact h4.imm b hb, fun b hb => ?_, fun i hi hne => hold hi hne, fun i b c n hi hq => ?_, fun b x hb => ?_⟩
  ·obtain ⟨i, _, hq⟩ := hC0 _ _ hq
   exact hn i b c n hq
  ·rw [hI'] at hb
   rcases h4.imm' b hb with h5 | h5 | ⟨c, n, h5⟩
   ·exact .inl h5
   ·exact .inr (.inl h5)
   ·exact .inr (.inr ⟨c, n, by rw [<- hm0]; exact h5⟩)
  ·obtain ⟨k, e1, e2, _⟩ := hn1 hi
   rw [e1] at hq
   rcases h4.own k b c n e2 hq with ⟨c', n', h5⟩ | h5
   ·exact .inl ⟨c', n', by rw [<- hm0]; exact h5⟩
   ·exact .inr h5
  ·rw [hO'] at hb
   rcases h4.sub b x hb with h5 | ⟨c, n, h5⟩
   ·exact .inl h5
   ·exact .inr ⟨c, n, by rw [<- hm0]; exact h5⟩
 have hout : ∀ k q, (fun _ : Nat => true) k = true -> C1.ρ k = some q -> C'.ρ (outN js hp.length k) = some q := fun k q _ hq => by
  unfold outN
  cases hk : js[k]? with
  | some i =>
    by_cases hkm : k = m
    ·subst hkm
     rw [hjm] at hk; injection hk with hk; subst hk
     rw [hrow]; exact hq
    ·rw [hρ1 k i hk hkm] at hq
     rw [hold (hlt hq) (hjk hk hkm)]; exact hq
  | none =>
    have := List.getElem?_eq_none_iff.1 hk
    show C'.ρ (hp.length + (k - js.length)) = some q
    rw [hnew (by omega), show hp.length + (k - js.length) - hp.length + js.length = k by omega]; exact hq
 have hlen := len_put js (outN js hp.length) h1 0 (mapH (at1 jc .top) hp)
 rw [len_mapH] at hlen
 obtain ⟨ht, hx⟩ := hs.turn hH
 refine ⟨v, C', he, ⟨fun i q hi => ?_, fun i j b c n b' c' n' hi hj hne => ?_, fun i b c n hi => ?_, fun b hb => h2.ilt b (by rw [hI'] at hb; exact hb), fun b x hb => ?_⟩, ren_rel hout (fun _ h => by rw [hI']; exact h) h3 hor, hs⟩
 ·by_cases hin : i < hp.length
  ·rw [getB_eq, List.getD_eq_getElem?_getD, List.getElem?_append_left (by omega), <- List.getD_eq_getElem?_getD, <- getB_eq, getB_put _ _ _ _ _ _ (by rw [len_mapH]; exact hin), Nat.zero_add]
   cases hm : memN i js with
   | true =>
     have hk := pos_mem hm
     have hq : C1.ρ (posD js i) = some q := by
      by_cases hij : i = jc
      ·subst hij
       have : posD js i = m := nodup_inj hnd hk hjm
       rw [this, <- hrow]; exact hi
      ·have hpm : posD js i ≠ m := fun e => hij (by rw [e, hjm] at hk; injection hk with hk; exact hk.symm)
       rw [hρ1 _ _ hk hpm, <- hold hin hij]; exact hi
     exact ren_brel hout (fun _ h => by rw [hI']; exact h) (h2.live (posD js i) q hq) (okRH_get ho1)
   | false =>
     have hij : i ≠ jc := fun e => by subst e; rw [mem_get hjm] at hm; cases hm
     have hq : C.ρ i = some q := by rw [<- hold hin hij]; exact hi
     rw [getB_mapH]
     refine ((ht.brel (fun b c n e => ?_) (fun b x hb => by rw [hO b] at hb; cases hb) (hH.live i q hq))).mono hx (fun _ _ _ _ => rfl) fun b x hb => ⟨hb, rfl⟩
     subst e
     refine h4.keep b (hH.fresh _ _ _ _ hq).1 fun k b' c' n' hq' e => ?_
     obtain ⟨i', hi', hq'⟩ := hC0 _ _ hq'
     subst e
     have : i ≠ i' := fun e => by subst e; rw [mem_get hi'] at hm; cases hm
     exact hH.inj _ _ _ _ _ _ _ _ hq hq' this rfl
  ·rw [getB_eq, List.getD_eq_getElem?_getD, List.getElem?_append_right (by omega), <- List.getD_eq_getElem?_getD, <- getB_eq, hlen, getB_new]
   exact ren_brel hout (fun _ h => by rw [hI']; exact h) (h2.live _ q (by rw [<- hnew (by omega)]; exact hi)) (okRH_get ho1)
 ·have two : ∀ {i j b c n b' c' n'}, i < hp.length -> i ≠ jc -> (j = jc \/ hp.length <= j) -> C'.ρ i = some (.at b c n) -> C'.ρ j = some (.at b' c' n') -> b ≠ b' := fun {i j b c n b' c' n'} hi hne hj h5 h6 => by
   rw [hold hi hne] at h5
   rcases hs.own j b' c' n' hj h6 with ⟨c2, n2, h7⟩ | h7
   ·exact hH.inj _ _ _ _ _ _ _ _ h5 h7 hne
   ·have := (hH.fresh _ _ _ _ h5).1; omega
  by_cases hi' : i = jc \/ hp.length <= i <;> by_cases hj' : j = jc \/ hp.length <= j
  ·obtain ⟨k, e1, _, e2⟩ := hn1 hi'
   obtain ⟨k', e1', _, e2'⟩ := hn1 hj'
   rw [e1] at hi; rw [e1'] at hj
   exact h2.inj _ _ _ _ _ _ _ _ hi hj (by omega)
  ·exact fun e => two (by omega) (by omega) hi' hj hi e.symm
  ·exact two (by omega) (by omega) hj' hi hj
  ·rw [hold (by omega) (by omega)] at hi hj
   exact hH.inj _ _ _ _ _ _ _ _ hi hj hne
 ·rw [hI']
  by_cases hi' : i = jc \/ hp.length <= i
  ·obtain ⟨k, e1, _⟩ := hn1 hi'
   rw [e1] at hi
   exact h2.fresh _ _ _ _ hi
  ·rw [hold (by omega) (by omega)] at hi
   have h5 := hH.fresh _ _ _ _ hi
   refine ⟨Nat.lt_of_lt_of_le h5.1 h4.size, fun hI => ?_⟩
   rcases h4.imm' b hI with h6 | h6 | ⟨c2, n2, h6⟩
   ·exact h5.2 h6
   ·omega
   ·rw [hm0] at h6
    exact hH.inj i jc _ _ _ _ _ _ hi h6 (by omega) rfl
 ·rw [hO'] at hb
  obtain ⟨s1, s2, s3, s4⟩ := h2.sub b x hb
  refine ⟨s1, by rw [hI']; exact s2, fun i b' c n hi => ?_, s4⟩
  by_cases hi' : i = jc \/ hp.length <= i
  ·obtain ⟨k, e1, _⟩ := hn1 hi'
   rw [e1] at hi
   exact s3 _ _ _ _ hi
  ·rw [hold (by omega) (by omega)] at hi
   have h5 := hH.fresh _ _ _ _ hi
   rcases h4.sub b x hb with h6 | ⟨c2, n2, h6⟩
   ·omega
   ·rw [hm0] at h6
    exact hH.inj i jc _ _ _ _ _ _ hi h6 (by omega)
theorem FnJ.weaken {f : FuncId} {args args' : List AV} {r : AV} {H' : Heap} {j : Nat} (h : FnJ P f args' H r H' j) (hw : ∀ (C : Cx) (w : World) (vs : List Value), RelL C w args vs -> RelL C w args' vs) : FnJ P f args H r H' j :=
 fun C w vs hO hH ha => h C w vs hO hH (hw C w vs ha)
theorem FnJ.weakenH {f : FuncId} {args : List AV} {H0 : Heap} {r : AV} {H' : Heap} {j : Nat} (h : FnJ P f args H0 r H' j) (hl : H0.length = H.length) (hw : ∀ (C : Cx) (w : World) (i : Nat) (q : Pl), BRel C w q (getB H i) -> BRel C w q (getB H0 i)) : FnJ P f args H r H' j :=
 fun C w vs hO hH ha => (h C w vs hO ⟨fun i q hi => hw C w i q (hH.live i q hi), hH.inj, hH.fresh, hH.ilt, hH.sub⟩ ha).mono fun _e _w' ⟨v, C', h1, h2, h3, h4⟩ => ⟨v, C', h1, h2, h3, hl ▸ h4⟩
def FnSatJ (P : Program) (S : Sums) (U : Nat) (I : Anns) (fn : Func) (args : List AV) (H : Heap) (r : AV) (H' : Heap) : Prop :=
 (wpFT P S U I fn args H).sat fun a hp => (leS S.lo [a] hp ⟨[r], H'⟩).sat fun _ _ => True
theorem FnJ.of (hS : SumsOK P S) (hm : P.follows .mixedOrders = true) {U : Nat} {I : Anns} {f : FuncId} {fn : Func} {c : Code} (hf : P.funcs[f]? = some fn) (hb : fn.body = some c) (hok : codeOK c = true) {args : List AV} {r : AV} {H' : Heap}
  (hlo : S.lo + 1 = H.length) (hng : ∀ t, notGd (getL args t)) (hn : args.length <= fn.ntmps) (h : FnSatJ P S U I fn args H r H') : FnJ P f args H r H' S.lo := by
 intro C w vs hO hH ha
 refine (calls_wpF hS hm hf hb hok (by omega) hH ha hng hn (wpFT_sat h)).mono ?_
 rintro e w' ⟨v, a, hp', C1, he, hle, h1, h2, h3, h4⟩
 obtain ⟨h5, h6, h7, h8⟩ := leS_sat hle h2 h1
 have h9 : Rel (C1.cut S.lo H') w' r v := by
  unfold leS at hle
  unfold leL at hle
  exact ((leA_sat hle).2 C1 w' h2 v h3).1
 have t := h4.trans h8
 have hj : ∀ {i b c n}, S.lo <= i -> C.ρ i = some (.at b c n) -> i = S.lo := fun hi hq => by have := hH.lt hq; omega
 refine ⟨v, _, he, h5, h9, by omega, t.os, t.tape, t.output, t.size, fun k hk hn => t.keep k hk hn (hO k), t.imm, fun b hb => ?_, fun i hi hne => t.rho i (by omega), fun i b c n hi hq => ?_, fun b x hb => ?_⟩
 ·rcases t.imm' b hb with h | (h | ⟨x, h⟩) | ⟨i, c, n, hi, hq⟩
  ·exact .inl h
  ·exact .inr (.inl h)
  ·rw [hO b] at h; cases h
  ·obtain rfl := hj hi hq
   exact .inr (.inr ⟨c, n, hq⟩)
 ·rcases t.own i b c n (by omega) hq with ⟨j, c', n', hj', hq'⟩ | h | ⟨x, h⟩
  ·obtain rfl := hj hj' hq'
   exact .inl ⟨c', n', hq'⟩
  ·exact .inr h
  ·rw [hO b] at h; cases h
 ·rcases t.sub b x hb with ⟨y, h⟩ | h | ⟨i, c, n, hi, hq⟩
  ·rw [hO b] at h; cases h
  ·exact .inl h
  ·obtain rfl := hj hi hq
   exact .inr ⟨c, n, hq⟩
end
noncomputable section
def isRowB : Blk -> Bool
 | .row _ _ _ _ => true
 | _ => false
def rowsN (hp : Heap) : List Nat -> List Nat
 | [] => []
 | j :: l => (match isRowB (getB hp j) with | true => j :: rowsN hp l | false => rowsN hp l)
def restN (hp : Heap) (r : List Nat) : List Nat -> List Nat
 | [] => r
 | j :: l => (match isRowB (getB hp j) with | true => restN hp r l | false => j :: restN hp r l)
def lastN : List Nat -> Nat
 | [] => 0
 | j :: l => (match l with | [] => j | _ => lastN l)
def mkSumJ (obs : List OB) (shs : List Sh) (sp : SpecF obs shs) : Summ2 := fun args hp =>
 forceN (addJ [] (refsA_refsLN args)) fun j1 => forceN (addJ j1 (refsH hp j1)) fun j2 => forceN (restN hp (rowsN hp j2) j2) fun js =>
 match nodupB js && okR_okRLN (fun i => memN i js) args && okSub js hp js && okHB obs (subH js hp js) && okShLN shs (renA_renLN (posD js) args) && (Nat.blt 0 js.length && Nat.blt (lastN js) hp.length) with
 | true => decHK obs (subH js hp js) fun o => decKLN shs (renA_renLN (posD js) args) fun x =>
   (match okRN (fun _ => true) (sp.res o x) && okRH (fun _ => true) (sp.after o x) with
   | true => some ⟨appP (canHB obs (subH js hp js)) (appP (canShLN shs (renA_renLN (posD js) args)) [⟨fun z : DatH obs × DatL shs => sp.pre z.1 z.2, (o, x)⟩]),
     renAN (outN js hp.length) (sp.res o x), putH js (outN js hp.length) (sp.after o x) 0 (mapH (at1 (lastN js) .top) hp) ++ newH (outN js hp.length) js.length (sp.after o x), some (lastN js)⟩
   | false => none)
 | false => none
end
section
variable {P : Program} {S : Sums}
theorem lastN_get : ∀ {js : List Nat}, 0 < js.length -> js[js.length - 1]? = some (lastN js)
 | [], h => by simp at h
 | [j], _ => rfl
 | j :: k :: l, _ => by
   have := lastN_get (js := k :: l) (by simp)
   simpa [lastN] using this
def FnSpecJ (P : Program) (f : FuncId) (obs : List OB) (shs : List Sh) (sp : SpecF obs shs) : Prop :=
 ∀ o x, sp.pre o x -> FnJ P f (encL shs x) (encH obs o) (sp.res o x) (sp.after o x) (obs.length - 1)
theorem mkSumJ_ok {f : FuncId} {obs : List OB} {shs : List Sh} {sp : SpecF obs shs} (h : FnSpecJ P f obs shs sp) : Summ2OK P f (mkSumJ obs shs sp) := by
 intro args hp pre res hp' mv hm hpre
 unfold mkSumJ at hm
 simp only [okShLN_eq, decKLN_eq, canShLN_eq, okR_okRLN_eq, okRN_eq, renA_renLN_eq, renAN_eq, refsA_refsLN_eq] at hm
 rw [forceN_eq, forceN_eq, forceN_eq] at hm
 generalize restN hp _ _ = js at hm
 split at hm
 ·rename_i hok
  simp only [Bool.and_eq_true] at hok
  obtain ⟨⟨⟨⟨⟨h1, h2⟩, h3⟩, h4⟩, h5⟩, hjl, hjc⟩ := hok
  have hjl : 0 < js.length := by simpa [Nat.blt_eq] using hjl
  have hjc : lastN js < hp.length := by simpa [Nat.blt_eq] using hjc
  have hlen : obs.length = js.length := by
   have := len_encH h4
   rw [encH_len, len_sub] at this
   exact this
  rw [decHK_eq h4, decKL_eq h5] at hm
  split at hm
  ·rename_i h6
   simp only [Bool.and_eq_true] at h6
   injection hm with hm; injection hm with e1 e2 e3 e4
   subst e1 e2 e3 e4
   obtain ⟨h7, h8⟩ := appP_mem hpre
   obtain ⟨h9, h10⟩ := appP_mem h8
   have := h _ _ (h10 _ (List.mem_singleton.2 rfl))
   rw [hlen] at this
   refine FnJ.focus h1 h2 h3 h6.1 h6.2 (lastN_get hjl) (by omega) hjc ?_
   exact (this.weakenH (len_encH h4) fun C w i q => enc_decH h4 h7 i).weaken fun C w vs ha => encL_dec (can_shL h5 h9) ha
  ·cases hm
 ·cases hm
theorem FnSpecJ.of {one : List (Nat × Summ)} {two : List (Nat × Summ2)} {lo : Nat} {eqs : List (Nat × List (Option IntKind))} {its : List (Nat × Iter)} {imm : List Nat} (hS : SumsOK P ⟨one, two, lo, eqs, its, imm⟩) (hm : P.follows .mixedOrders = true) {obs : List OB} {shs : List Sh} {U : Nat} {I : DatH obs -> DatL shs -> Anns} {f : FuncId} {fn : Func} {c : Code} (hf : P.funcs[f]? = some fn) (hb : fn.body = some c) (hok : codeOK c = true) {sp : SpecF obs shs}
  (hany : noAny shs = true) (hn : shs.length <= fn.ntmps) (ho : 0 < obs.length) (h : ∀ o x, sp.pre o x -> FnSatJ P ⟨one, two, obs.length - 1, eqs, its, imm⟩ U (I o x) fn (encL shs x) (encH obs o) (sp.res o x) (sp.after o x)) : FnSpecJ P f obs shs sp :=
 fun o x hx => FnJ.of (hS.setLo (obs.length - 1)) hm hf hb hok (by rw [encH_len]; show obs.length - 1 + 1 = _; omega) (encL_ng hany) (by rw [encL_len]; exact hn) (h o x hx)
end
end Abs
end Go.Proofs.Ytdfdjlijghjdaaa

namespace Go.Proofs.Ytdfdjlijghjdaaa
namespace Abs
open Go Go.RowKit
@[reducible] def ndCells : List Sh := [.int .i64, spansSh, .int .i64]
structure Nd where
 s : Int
 b : Bx
 v : Int
@[irreducible] def Nd.slot (x : Nd) : Int := x.s
@[irreducible] def Nd.box (x : Nd) : Bx := x.b
@[irreducible] def Nd.val (x : Nd) : Int := x.v
@[simp] theorem Nd.slot_mk (s : Int) (b : Bx) (v : Int) : (Nd.mk s b v).slot = s := by unfold Nd.slot; rfl
@[simp] theorem Nd.box_mk (s : Int) (b : Bx) (v : Int) : (Nd.mk s b v).box = b := by unfold Nd.box; rfl
@[simp] theorem Nd.val_mk (s : Int) (b : Bx) (v : Int) : (Nd.mk s b v).val = v := by unfold Nd.val; rfl
abbrev NdD := Int × (Nat × (Nat -> Int × Int × Unit)) × Int × Unit
@[reducible] def ndD (x : Nd) : NdD := (x.slot, (x.box.len, fun k => (x.box.lo k, x.box.hi k, ())), x.val, ())
@[irreducible] def ndOf (x : NdD) : Nd := ⟨x.1, bxOf x.2.1, x.2.2.1⟩
@[simp] theorem ndOf_mk (x : Nd) : ndOf (x.slot, (x.box.len, fun k => (x.box.lo k, x.box.hi k, ())), x.val, ()) = x := by unfold ndOf Nd.slot Nd.box Nd.val; simp
@[simp] theorem ndOf_D (x : Nd) : ndOf (ndD x) = x := ndOf_mk x
theorem nd_ex (x : DatL ndCells) : ∃ y : Nd, x = ndD y := ⟨ndOf x, by unfold ndD ndOf Nd.slot Nd.box Nd.val bxOf Bx.len Bx.lo Bx.hi; rfl⟩
theorem nds_ex (x : Nat -> DatL ndCells) : ∃ y : Nat -> Nd, x = fun k => ndD (y k) := ⟨fun k => ndOf (x k), by funext k; show x k = ndD (ndOf (x k)); obtain ⟨y, h⟩ := nd_ex (x k); rw [h, ndOf_D]⟩
@[irreducible] def kLo (b : Bx) (j : Nat) : Int := if j < b.len then b.lo j else 0
@[irreducible] def kHi (b : Bx) (j : Nat) : Int := if j < b.len then b.hi j else 0
@[simp] theorem cpI_lo (b : Bx) (j : Nat) : cpI b.len j (b.lo j) 0 = kLo b j := by unfold cpI kLo; rfl
@[simp] theorem cpI_hi (b : Bx) (j : Nat) : cpI b.len j (b.hi j) 0 = kHi b j := by unfold cpI kHi; rfl
@[reducible] def kyL (s : Int) (b : Bx) : List AV := [.si .i64 s, .si .i64 (kLo b 0), .si .i64 (kHi b 0), .si .i64 (kLo b 1), .si .i64 (kHi b 1), .si .i64 (kLo b 2), .si .i64 (kHi b 2)]
def keyS : Spec [.int .i64, spansSh] := ⟨fun (_, b, _) => b.1 <= maxLen, fun (s, b, _) => .agg (kyL s (bxOf b))⟩
set_option maxRecDepth 100000 in
theorem key_ok : FnSpec Try.prog 33 _ keyS := by
 refine FnSpec.of SM1_ok mixed (U := 0) (I := fun _ => []) Try.func33 rfl (by kernel_rfl) rfl rfl (by decide +kernel) ?_
 rintro ⟨(s : Int), b, ⟨⟩⟩ hpre
 obtain ⟨b, rfl⟩ := bx_ex b
 have hpre : b.len <= maxLen := hpre
 unfold FnSat
 conv => arg 2; reduce
 simp [keyS]
@[irreducible] def kyE (y : Nd) (s : Int) (b : Bx) : Bool := decide (s = y.slot) && (decide (kLo b 0 = kLo y.box 0) && (decide (kHi b 0 = kHi y.box 0) && (decide (kLo b 1 = kLo y.box 1) && (decide (kHi b 1 = kHi y.box 1) && (decide (kLo b 2 = kLo y.box 2) && decide (kHi b 2 = kHi y.box 2))))))
@[irreducible] def fdN (nd : Nat -> Nd) (s : Int) (b : Bx) (n : Nat) : Nat := firstN (fun k => kyE (nd k) s b) n
@[irreducible] def fdB (nd : Nat -> Nd) (s : Int) (b : Bx) (n : Nat) : Bool := decide (fdN nd s b n < n)
@[irreducible] def fdV (nd : Nat -> Nd) (s : Int) (b : Bx) (n : Nat) : Int := if fdN nd s b n < n then (fdN nd s b n : Int) else 0
@[reducible] def ixL (y : Nd) (k : Nat) : List AV := [.si .i64 y.slot, .si .i64 (kLo y.box 0), .si .i64 (kHi y.box 0), .si .i64 (kLo y.box 1), .si .i64 (kHi y.box 1), .si .i64 (kLo y.box 2), .si .i64 (kHi y.box 2), .si .i64 (icast k)]
theorem keyQ_ix (nd : Nat -> Nd) (s : Int) (b : Bx) : keyQ (fun k => ixL (nd k) k) 7 (kyL s b) = fun k => kyE (nd k) s b := by
 funext k
 unfold keyQ kyE
 simp [takeL, eqCells, eqC, eqA, eqI, kindOf, intOf]
 rfl
theorem fst_first (q : Nat -> Bool) (n : Nat) : fstN q n = firstN q n := (firstN_uniq (fst_le q n) (fun j hj => fst_not j hj) (fun h => fst_lt h)).symm
@[simp] theorem lkB_ix (nd : Nat -> Nd) (s : Int) (b : Bx) (n : Nat) : lkB n (keyQ (fun k => ixL (nd k) k) 7 (kyL s b)) = fdB nd s b n := by
 unfold lkB fdB fdN
 rw [keyQ_ix, fst_first, Bool.eq_iff_iff, Nat.blt_eq, decide_eq_true_iff]
@[simp] theorem lkV_ix (nd : Nat -> Nd) (s : Int) (b : Bx) (n : Nat) : lkV n (keyQ (fun k => ixL (nd k) k) 7 (kyL s b)) (valQ (fun k => ixL (nd k) k) 7) = fdV nd s b n := by
 unfold lkV fdV fdN
 rw [keyQ_ix, fst_first]
 by_cases h : firstN (fun k => kyE (nd k) s b) n < n
 ·rw [if_pos h, show Nat.blt (firstN (fun k => kyE (nd k) s b) n) n = true by rw [Nat.blt_eq]; exact h]
  unfold valQ
  simp [getL, intOf]
 ·rw [if_neg h]
  have : Nat.blt (firstN (fun k => kyE (nd k) s b) n) n = false := by
   cases hb : Nat.blt (firstN (fun k => kyE (nd k) s b) n) n with
   | false => rfl
   | true => exact absurd (by rwa [Nat.blt_eq] at hb) h
  rw [this]
theorem icast_eq' (k : Nat) : icast k = (k : Int) := by unfold icast; rfl
@[simp] theorem lkB_ix' (nd : Nat -> Nd) (s : Int) (b : Bx) (n : Nat) : lkB n (keyQ (fun k => [.si .i64 (nd k).slot, .si .i64 (kLo (nd k).box 0), .si .i64 (kHi (nd k).box 0), .si .i64 (kLo (nd k).box 1), .si .i64 (kHi (nd k).box 1), .si .i64 (kLo (nd k).box 2), .si .i64 (kHi (nd k).box 2), .si .i64 (k : Int)]) 7 (kyL s b)) = fdB nd s b n := by
 have := lkB_ix nd s b n
 simp only [ixL, icast_eq'] at this
 exact this
@[simp] theorem lkV_ix' (nd : Nat -> Nd) (s : Int) (b : Bx) (n : Nat) : lkV n (keyQ (fun k => [.si .i64 (nd k).slot, .si .i64 (kLo (nd k).box 0), .si .i64 (kHi (nd k).box 0), .si .i64 (kLo (nd k).box 1), .si .i64 (kHi (nd k).box 1), .si .i64 (kLo (nd k).box 2), .si .i64 (kHi (nd k).box 2), .si .i64 (k : Int)]) 7 (kyL s b))
  (valQ (fun k => [.si .i64 (nd k).slot, .si .i64 (kLo (nd k).box 0), .si .i64 (kHi (nd k).box 0), .si .i64 (kLo (nd k).box 1), .si .i64 (kHi (nd k).box 1), .si .i64 (kLo (nd k).box 2), .si .i64 (kHi (nd k).box 2), .si .i64 (k : Int)]) 7) = fdV nd s b n := by
 have := lkV_ix nd s b n
 simp only [ixL, icast_eq'] at this
 exact this
@[simp] theorem ky_ok (a b c d e f g h : Int) : okKs [some .i64, some .i64, some .i64, some .i64, some .i64, some .i64, some .i64] (takeL [.si .i64 a, .si .i64 b, .si .i64 c, .si .i64 d, .si .i64 e, .si .i64 f, .si .i64 g, .si .i64 h] 7) = true := rfl
@[simp] theorem ky_val (a b c d e f g h : Int) : getL [.si .i64 a, .si .i64 b, .si .i64 c, .si .i64 d, .si .i64 e, .si .i64 f, .si .i64 g, .si .i64 h] 7 = .si .i64 h := rfl
@[irreducible] def adN (nd : Nat -> Nd) (n : Nat) (x : Nd) : Nat := if fdB nd x.slot x.box n = true then n else n + 1
@[irreducible] def adE (nd : Nat -> Nd) (n : Nat) (x : Nd) (k : Nat) : Nd := if k < n then nd k else x
theorem adN_no {nd : Nat -> Nd} {n : Nat} {x : Nd} (h : fdB nd x.slot x.box n = false) : adN nd n x = n + 1 := by unfold adN; simp [h]
theorem adN_yes {nd : Nat -> Nd} {n : Nat} {x : Nd} (h : fdB nd x.slot x.box n = true) : adN nd n x = n := by unfold adN; simp [h]
theorem adE_lt {nd : Nat -> Nd} {n : Nat} {x : Nd} {k : Nat} (h : k < n) : adE nd n x k = nd k := by unfold adE; simp [h]
theorem adE_at {nd : Nat -> Nd} {n : Nat} {x : Nd} : adE nd n x n = x := by unfold adE; simp
@[reducible] def kyCells : List Sh := [.int .i64, .int .i64, .int .i64, .int .i64, .int .i64, .int .i64, .int .i64, .int .i64]
@[reducible] def ixD (y : Nd) (k : Nat) : DatL kyCells := (y.slot, kLo y.box 0, kHi y.box 0, kLo y.box 1, kHi y.box 1, kLo y.box 2, kHi y.box 2, icast k, ())
@[reducible] def sysCs : List Sh := [spansSh, spansSh, .slice 3 modeCells, .slice 1 [spansSh]]
@[reducible] def grSh (r m : Nat) : List Sh := [spansSh, spansSh, .slice 3 modeCells, .slice 1 [spansSh], .rowr r, .mpr m]
@[reducible] def grL (s : Sys) (r m : Nat) : List AV := [.slc (.sym s.lim.len) 2 (fun k => [.si .i64 (s.lim.lo k), .si .i64 (s.lim.hi k)]), .slc (.sym s.st.len) 2 (fun k => [.si .i64 (s.st.lo k), .si .i64 (s.st.hi k)]),
 .slc (.sym s.nmd) 3 (fun k => [.si .i64 (s.md k).cost, .slc (.sym (s.md k).nsh) 1 (fun j => [.si .i64 ((s.md k).sh j)]), .slc (.sym (s.md k).nfl) 3 (fun j => [.si .i64 ((s.md k).ff j), .si .i64 ((s.md k).ft j), .si .i64 ((s.md k).fp j)])]),
 .slc (.sym s.nld) 1 (fun k => [.slc (.sym (s.ld k).len) 2 (fun j => [.si .i64 ((s.ld k).lo j), .si .i64 ((s.ld k).hi j)])]), .row r, .mp m]
@[reducible] def ndL (y : Nd) : List AV := [.si .i64 y.slot, .slc (.sym y.box.len) 2 (fun k => [.si .i64 (y.box.lo k), .si .i64 (y.box.hi k)]), .si .i64 y.val]
abbrev GrD := (Nat × (Nat -> Int × Int × Unit)) × (Nat × (Nat -> Int × Int × Unit)) × (Nat × (Nat -> MoD)) × (Nat × (Nat -> (Nat × (Nat -> Int × Int × Unit)) × Unit)) × Unit × Unit × Unit
@[irreducible] def grOf (g : GrD) : Sys := sysOf (g.1, g.2.1, g.2.2.1, g.2.2.2.1, ())
@[reducible] def grD (s : Sys) : GrD := ((sysD s).1, (sysD s).2.1, (sysD s).2.2.1, (sysD s).2.2.2.1, (), (), ())
@[simp] theorem grOf_D (s : Sys) : grOf (grD s) = s := by
 unfold grOf grD
 exact sysOf_D s
@[simp] theorem grOf_mk (s : Sys) : grOf ((s.lim.len, fun k => (s.lim.lo k, s.lim.hi k, ())), (s.st.len, fun k => (s.st.lo k, s.st.hi k, ())),
  (s.nmd, fun k => ((s.md k).cost, ((s.md k).nsh, fun j => ((s.md k).sh j, ())), ((s.md k).nfl, fun j => ((s.md k).ff j, (s.md k).ft j, (s.md k).fp j, ())), ())),
  (s.nld, fun k => (((s.ld k).len, fun j => ((s.ld k).lo j, (s.ld k).hi j, ())), ())), (), (), ()) = s := grOf_D s
theorem gr_ex {r m : Nat} (g : DatL (grSh r m)) : ∃ s : Sys, g = grD s := by
 obtain ⟨g1, g2, g3, g4, ⟨⟩, ⟨⟩, ⟨⟩⟩ := g
 obtain ⟨s, hs⟩ := sys_ex (g1, g2, g3, g4, ())
 refine ⟨s, ?_⟩
 unfold grD
 rw [<- hs]
@[reducible] def adO : List OB := [.cells 64 (grSh 2 1), .tab 7 kyCells, .row 31 3 ndCells]
@[reducible] def grH (s : Sys) (n : Nat) (nd : Nat -> Nd) : Heap := [.cells 64 (grL s 2 1), .tab (.sym n) 7 (fun k => ixL (nd k) k), .row 31 3 (.sym n) (fun k => ndL (nd k))]
def adF : SpecF adO [.own 0 0, .agg ndCells] := ⟨fun (_, (m, te), (n, el), _) (_, x, _) => n <= 6000 /\ (ndOf x).box.len <= maxLen /\ m = n /\ te = fun k => ixD (ndOf (el k)) k, fun _ _ => .tup [],
 fun (g, _, (n, el), _) (_, x, _) => grH (grOf g) (adN (fun k => ndOf (el k)) n (ndOf x)) (adE (fun k => ndOf (el k)) n (ndOf x))⟩
def keyKs : List (Option IntKind) := [some .i64, some .i64, some .i64, some .i64, some .i64, some .i64, some .i64]
def eqsG : List (Nat × List (Option IntKind)) := [(69, keyKs), (48, spanKs)]
theorem eqsG_ok : ∀ t ks, findS eqsG t = some ks -> EqOK Try.prog t ks := by
 intro t ks h
 unfold eqsG at h
 simp only [findS] at h
 split at h
 ·rename_i e
  obtain rfl := Nat.eq_of_beq_eq_true e
  injection h with h; subst h
  exact EqOK.of 5 (by decide) (by kernel_rfl) (by kernel_rfl) (by kernel_rfl)
 ·split at h
  ·rename_i e
   obtain rfl := Nat.eq_of_beq_eq_true e
   injection h with h; subst h
   exact EqOK.of 3 (by decide) (by kernel_rfl) (by kernel_rfl) (by kernel_rfl)
  ·cases h
noncomputable def SYa0 : Sums := ⟨SM1.one, SM1.two, SM1.lo, eqsG, SM1.its, [31]⟩
theorem SYa0_ok : SumsOK Try.prog SYa0 := (SM1_ok.setEqs eqsG_ok).setImm _
noncomputable def SYa1 : Sums := ⟨(33, mkSum _ keyS) :: SYa0.one, SYa0.two, SYa0.lo, SYa0.eqs, SYa0.its, SYa0.imm⟩
theorem SYa1_ok : SumsOK Try.prog SYa1 := (SYa0_ok.cons Try.func33 (by kernel_rfl) (by kernel_rfl) key_ok)
end Abs
end Go.Proofs.Ytdfdjlijghjdaaa

namespace Go.Proofs.Ytdfdjlijghjdaaa
namespace Abs
open Go Go.RowKit
set_option maxRecDepth 100000 in
theorem add_ok : FnSpecJ Try.prog 32 _ _ adF := by
 refine FnSpecJ.of SYa1_ok mixed (U := 0) (I := fun _ _ => []) Try.func32 rfl (by kernel_rfl) (sp := adF) rfl (by decide +kernel) (by decide) ?_
 rintro ⟨g, ⟨m, te⟩, ⟨n, el⟩, ⟨⟩⟩ ⟨⟨⟩, x, ⟨⟩⟩ ⟨hn, hx, rfl, rfl⟩
 obtain ⟨x, rfl⟩ := nd_ex x
 obtain ⟨nd, rfl⟩ := nds_ex el
 obtain ⟨s, rfl⟩ := gr_ex g
 simp only [ndOf_D] at hx hn ⊢
 unfold FnSatJ
 conv => arg 2; reduce
 simp [adF, keyS, encH, encB, ElEq, aliveB, getB, goneB, maxRow, and_assoc]
 have en : (fun k => nd k) = nd := rfl
 refine ⟨hx, fun h => ?_, fun h => ?_⟩
 ·rw [en, adN_no h]
  refine ⟨h, by omega, rfl, fun j hj => ?_, rfl, fun j hj => ?_⟩
  ·rw [catE_eq]
   by_cases e : j < m
   ·rw [if_pos e, adE_lt e]; rfl
   ·obtain rfl : j = m := by omega
    rw [if_neg e, adE_at]; rfl
  ·rw [catE_eq]
   by_cases e : j < m
   ·rw [if_pos e, adE_lt e]; rfl
   ·obtain rfl : j = m := by omega
    rw [if_neg e, adE_at, Nat.sub_self]; rfl
 ·rw [en, adN_yes h]
  refine ⟨rfl, fun j hj => ?_, rfl, fun j hj => ?_⟩
  ·rw [adE_lt hj]; exact ⟨rfl, rfl, rfl, rfl, rfl, rfl, rfl⟩
  ·rw [adE_lt hj]; exact ⟨rfl, rfl, rfl, rfl⟩
end Abs
end Go.Proofs.Ytdfdjlijghjdaaa

namespace Go.Proofs.Ytdfdjlijghjdaaa
namespace Abs
open Go Go.RowKit
def cntP (p : Nat -> Bool) : Nat -> Nat
 | 0 => 0
 | n + 1 => cntP p n + (if p n = true then 1 else 0)
theorem cntP_zero (p : Nat -> Bool) : cntP p 0 = 0 := rfl
theorem cntP_succ (p : Nat -> Bool) (n : Nat) : cntP p (n + 1) = cntP p n + (if p n = true then 1 else 0) := rfl
attribute [irreducible] cntP
theorem cntP_yes {p : Nat -> Bool} {n : Nat} (h : p n = true) : cntP p (n + 1) = cntP p n + 1 := by rw [cntP_succ, if_pos h]
theorem cntP_no {p : Nat -> Bool} {n : Nat} (h : p n = false) : cntP p (n + 1) = cntP p n := by rw [cntP_succ, h]; simp
theorem cntP_mono {p : Nat -> Bool} {m : Nat} : ∀ {n : Nat}, m <= n -> cntP p m <= cntP p n
 | 0, h => by obtain rfl : m = 0 := by omega
              exact Nat.le_refl _
 | n + 1, h => by
   rcases Nat.lt_or_ge m (n + 1) with h1 | h1
   ·have := cntP_mono (p := p) (show m <= n by omega)
    rw [cntP_succ]; omega
   ·obtain rfl : m = n + 1 := by omega
    exact Nat.le_refl _
@[irreducible] def selN (p : Nat -> Bool) (n j : Nat) : Nat := firstN (fun g => decide (cntP p (g + 1) = j + 1)) n
theorem selN_at {p : Nat -> Bool} {n i : Nat} (hi : i < n) (h : p i = true) : selN p n (cntP p i) = i := by
 unfold selN
 refine firstN_uniq (by omega) (fun j hj => ?_) (fun _ => by simp [cntP_yes h])
 have := cntP_mono (p := p) (show j + 1 <= i by omega)
 simp; omega
theorem selN_ex {p : Nat -> Bool} : ∀ {n j : Nat}, j < cntP p n -> ∃ i, i < n /\ p i = true /\ cntP p i = j
 | 0, j, h => by rw [cntP_zero] at h; omega
 | n + 1, j, h => by
   by_cases hj : j < cntP p n
   ·obtain ⟨i, h1, h2, h3⟩ := selN_ex hj
    exact ⟨i, by omega, h2, h3⟩
   ·cases hp : p n with
    | true => rw [cntP_yes hp] at h; exact ⟨n, by omega, hp, by omega⟩
    | false => rw [cntP_no hp] at h; omega
theorem selN_spec {p : Nat -> Bool} {n j : Nat} (h : j < cntP p n) : selN p n j < n /\ p (selN p n j) = true /\ cntP p (selN p n j) = j := by
 obtain ⟨i, h1, h2, h3⟩ := selN_ex h
 subst h3
 rw [selN_at h1 h2]
 exact ⟨h1, h2, rfl⟩
theorem cntP_lt {p : Nat -> Bool} {n i : Nat} (hi : i < n) (h : p i = true) : cntP p i < cntP p n := by
 have := cntP_mono (p := p) (show i + 1 <= n by omega)
 rw [cntP_yes h] at this; omega
@[irreducible] def wyB (s : Sys) (y : Nd) (k : Nat) : Bool := inV s.lim (adV s y.slot k y.box)
@[irreducible] def wyN (s : Sys) (y : Nd) : Nat := if y.slot < s.nld then cntP (wyB s y) s.nmd else 0
@[irreducible] def wyM (s : Sys) (y : Nd) (j : Nat) : Nat := selN (wyB s y) s.nmd j
structure WyOK (s : Sys) (y : Nd) : Prop where
 ch : checkB s = true
 sl : 0 <= y.slot
 ln : y.box.len = s.lim.len
 nr : nearV y.box 1073741824 = true
@[reducible] def wySh : List Sh := [.ptr ndCells, .ptr [.ptr sysCs]]
def wyI : SpecI wySh := ⟨fun (x, (g, _), _) => SysMax (sysOf g) /\ WyOK (sysOf g) (ndOf x), fun (x, (g, _), _) => wyN (sysOf g) (ndOf x),
 fun (x, (g, _), _) j => [.si .i64 (icast (wyM (sysOf g) (ndOf x) j)), .slc (.sym (ndOf x).box.len) 2 (fun k => [.si .i64 ((adV (sysOf g) (ndOf x).slot (icast (wyM (sysOf g) (ndOf x) j)) (ndOf x).box).lo k), .si .i64 ((adV (sysOf g) (ndOf x).slot (icast (wyM (sysOf g) (ndOf x) j)) (ndOf x).box).hi k)])]⟩
noncomputable def wyA (_Y : Value) : DatL wySh -> List AV -> Heap -> AK := fun (x, (g, _), _) fr hp =>
 ⟨⟨Nat, fun i => ⟨frI [.k 3, .t 17, .k 1, .s (.si .i64 (icast i)), .t 26] fr, hp⟩, Nat × Nat, fun i => (i, g.2.2.1.1), fun (i, n) => i <= n, fun i => nsub g.2.2.1.1 i⟩, fun i => cntP (wyB (sysOf g) (ndOf x)) i⟩
noncomputable def SYc0 : Sums := ⟨SYa1.one, (32, mkSumJ _ _ adF) :: SYa1.two, SYa1.lo, SYa1.eqs, SYa1.its, SYa1.imm⟩
theorem SYc0_ok : SumsOK Try.prog SYc0 := SYa1_ok.addTwo Try.func32 (by kernel_rfl) (by kernel_rfl) (mkSumJ_ok add_ok)
set_option maxRecDepth 100000 in
theorem ways_it : IterOK2 Try.prog 56 (mkIt wySh wyI) := by
 refine IterOK2.of SYc0_ok mixed rfl Try.func56 rfl rfl (by kernel_rfl) rfl (by decide +kernel) (I := wyA) ?_
 rintro Y ⟨x, ⟨g, ⟨⟩⟩, ⟨⟩⟩ ⟨hm, hw⟩
 obtain ⟨x, rfl⟩ := nd_ex x
 obtain ⟨s, rfl⟩ := sys_ex g
 conv => arg 2; reduce
 simp [wyA, unitA, ElEq, insS, advS, and_assoc]
 have hm : SysMax s := by rwa [sysOf_D] at hm
 have hw : WyOK s x := by rwa [sysOf_D, ndOf_D] at hw
 have c := checkB_iff.1 hw.ch
 have hN : x.slot < s.nld -> wyN s x = cntP (wyB s x) s.nmd := fun h => by unfold wyN; rw [if_pos h]
 refine ⟨fun h => ?_, fun h => ⟨⟨0, by rw [cntP_zero], rfl, by omega⟩, fun g hg => ⟨fun hlt => ?_, fun hge => ?_⟩⟩⟩
 ·unfold wyN; rw [if_neg (by omega)]
 ·refine ⟨adOK_of hw.ch hw.sl h (by omega) (by omega) hw.ln hw.nr, by rw [hw.ln]; exact Nat.le_refl _, by unfold maxLen; have := hw.ln; omega, c.2.2.2.2.2.1, fun hi => ?_, fun hi => ?_⟩
  ·have hb : wyB s x g = true := by unfold wyB; exact hi
   have hM : wyM s x (cntP (wyB s x) g) = g := by unfold wyM; exact selN_at hlt hb
   rw [hM, hN h]
   exact ⟨cntP_lt hlt hb, rfl, fun _ _ => ⟨rfl, rfl⟩, by omega, by omega, g + 1, cntP_yes hb, by omega, by omega, by omega⟩
  ·have hb : wyB s x g = false := by unfold wyB; exact hi
   exact ⟨by omega, by omega, g + 1, cntP_no hb, by omega, by omega, by omega⟩
 ·obtain rfl : g = s.nmd := by omega
  exact (hN h).symm
end Abs
end Go.Proofs.Ytdfdjlijghjdaaa

namespace Go.Proofs.Ytdfdjlijghjdaaa
namespace Abs
open Go Go.RowKit
theorem fdB_iff {nd : Nat -> Nd} {s : Int} {b : Bx} {n : Nat} : fdB nd s b n = true ↔ fdN nd s b n < n := by unfold fdB; simp
theorem fdV_of {nd : Nat -> Nd} {s : Int} {b : Bx} {n : Nat} (h : fdB nd s b n = true) : fdV nd s b n = (fdN nd s b n : Int) := by unfold fdV; rw [if_pos (fdB_iff.1 h)]
theorem adN_le (nd : Nat -> Nd) (n : Nat) (x : Nd) : n <= adN nd n x /\ adN nd n x <= n + 1 := by unfold adN; split <;> omega
theorem wyM_spec {s : Sys} {y : Nd} {j : Nat} (h : j < wyN s y) : y.slot < s.nld /\ wyM s y j < s.nmd /\ wyB s y (wyM s y j) = true := by
 unfold wyN at h
 split at h
 ·rename_i hs
  unfold wyM
  have := selN_spec h
  exact ⟨hs, this.1, this.2.1⟩
 ·omega
end Abs
end Go.Proofs.Ytdfdjlijghjdaaa

namespace Go.Proofs.Ytdfdjlijghjdaaa
namespace Abs
open Go Go.RowKit
noncomputable section
def slK : VC -> Option Sum2
 | .need p k => (match slK k with | some ⟨ps, r, h, mv⟩ => some ⟨p :: ps, r, h, mv⟩ | none => none)
 | .out r hp => some ⟨[], r, hp, none⟩
 | _ => none
def slKP : {g : VC -> Option Sum2 // slK = g} := ⟨_, by delta slK; rfl⟩
def slKN : VC -> Option Sum2 := slKP.1
theorem slKN_eq : slKN = slK := slKP.2.symm
def ngB : AV -> Bool
 | .gd _ _ => false
 | _ => true
def ngL : List AV -> Bool
 | [] => true
 | a :: l => (match ngB a with | true => ngL l | false => false)
def lenV : List AV -> Nat
 | [] => 0
 | _ :: l => lenV l + 1
def inlS (P : Program) (S : Sums) (U : Nat) (fn : Func) : Summ2 := fun args hp =>
 match ngL args, Nat.ble (lenV args) fn.ntmps with
 | true, true => slKN (wpFT P ⟨S.one, S.two, hp.length, S.eqs, S.its, S.imm⟩ U [] fn args hp)
 | _, _ => none
end
theorem slK_sat : ∀ {v : VC} {pre : List Cd} {res : AV} {hp : Heap} {mv : Option Nat}, slK v = some ⟨pre, res, hp, mv⟩ -> (∀ p ∈ pre, p.ok) -> mv = none /\ v.sat fun r h => r = res /\ h = hp := by
 intro v
 induction v with
 | need p k ih =>
   intro pre res hp mv h hp'
   simp only [slK] at h
   split at h
   ·rename_i ps r h' mv' e
    injection h with h; injection h with h1 h2 h3 h4
    subst h1 h2 h3 h4
    have := ih e fun q hq => hp' q (List.mem_cons_of_mem _ hq)
    exact ⟨this.1, hp' _ (List.mem_cons_self ..), this.2⟩
   ·cases h
 | out r hp =>
   intro pre res hp0 mv h _
   simp only [slK] at h
   injection h with h; injection h with h1 h2 h3 h4
   exact ⟨h4.symm, h2, h3⟩
 | fail => intro pre res hp mv h; simp [slK] at h
 | branch b t e _ _ => intro pre res hp mv h; simp [slK] at h
 | done => intro pre res hp mv h; simp [slK] at h
 | loop d e b _ _ => intro pre res hp mv h; simp [slK] at h
 | ex d m k _ => intro pre res hp mv h; simp [slK] at h
theorem ngL_spec : ∀ {l : List AV}, ngL l = true -> ∀ t, notGd (getL l t)
 | [], _, t => by simp only [getL]; trivial
 | a :: l, h, 0 => by
   simp only [ngL] at h
   simp only [getL]
   split at h
   ·rename_i ha
    cases a <;> first | (simp [ngB] at ha; done) | trivial
   ·cases h
 | a :: l, h, t + 1 => by
   simp only [ngL] at h
   simp only [getL]
   split at h
   ·exact ngL_spec h t
   ·cases h
theorem lenV_eq : ∀ l : List AV, lenV l = l.length
 | [] => rfl
 | _ :: l => by simp [lenV, lenV_eq l]
theorem inlS_ok {P : Program} {S : Sums} (hS : SumsOK P S) (hm : P.follows .mixedOrders = true) {U : Nat} {f : FuncId} {fn : Func} {c : Code} (hf : P.funcs[f]? = some fn) (hb : fn.body = some c) (hok : codeOK c = true) : Summ2OK P f (inlS P S U fn) := by
 intro args hp pre res hp' mv h hpre
 unfold inlS at h
 rw [slKN_eq] at h
 split at h
 ·rename_i h1 h2
  obtain ⟨rfl, hsat⟩ := slK_sat h hpre
  intro C w vs hO hH ha
  have hS' : SumsOK P ⟨S.one, S.two, hp.length, S.eqs, S.its, S.imm⟩ := ⟨hS.one, hS.two, hS.eqs, hS.bodyOne, hS.bodyTwo, hS.its⟩
  refine (calls_wpF hS' hm hf hb hok (Nat.le_refl _) hH ha (ngL_spec h1) (by rw [lenV_eq] at h2; exact Nat.le_of_ble_eq_true h2) (wpFT_sat hsat)).mono ?_
  rintro e w' ⟨v, a, hp2, C1, he, ⟨rfl, rfl⟩, h3, h4, h5, h6⟩
  refine ⟨v, C1, he, h4, h5, (Since.refl (fun i hi => ?_) hO).step h6⟩
  cases hc : C.ρ i with
  | none => rfl
  | some p => have := hH.lt hc; omega
 ·cases h
end Abs
end Go.Proofs.Ytdfdjlijghjdaaa

namespace Go.Proofs.Ytdfdjlijghjdaaa
namespace Abs
open Go Go.RowKit
noncomputable def SYd1 : Sums := ⟨SYc0.one, SYc0.two, SYc0.lo, SYc0.eqs, (itsKey 56, mkIt wySh wyI) :: SYc0.its, SYc0.imm⟩
theorem SYd1_ok : SumsOK Try.prog SYd1 := SYc0_ok.addIt2 Try.func56 (by kernel_rfl) (by kernel_rfl) ways_it
noncomputable def SYd2 : Sums := ⟨SYd1.one, (35, inlS Try.prog SYd1 0 Try.f35) :: SYd1.two, SYd1.lo, SYd1.eqs, SYd1.its, SYd1.imm⟩
theorem SYd2_ok : SumsOK Try.prog SYd2 := SYd1_ok.addTwo Try.func35 (by kernel_rfl) (by kernel_rfl) (inlS_ok SYd1_ok mixed Try.func35 rfl (by kernel_rfl))
noncomputable def unA : List AV -> Heap -> Ann := fun _ _ => ⟨Unit, fun _ => ⟨[], []⟩, Unit, fun _ => (), fun _ => True, fun _ => 0⟩
end Abs
end Go.Proofs.Ytdfdjlijghjdaaa

namespace Go.Proofs.Ytdfdjlijghjdaaa
namespace Abs
open Go Go.RowKit
theorem kyE_box {y : Nd} {s : Int} {b : Bx} {m : Nat} (h1 : y.box.len = m) (h2 : b.len = m) (h3 : m <= 3) : kyE y s b = (decide (y.slot = s) && eqBx y.box b) := by
 rw [Bool.eq_iff_iff]
 unfold kyE
 simp only [Bool.and_eq_true, decide_eq_true_eq, eqBx_iff]
 unfold kLo kHi
 constructor
 ·rintro ⟨e, a0, b0, a1, b1, a2, b2⟩
  refine ⟨e.symm, by omega, fun k hk => ?_⟩
  have : k = 0 \/ k = 1 \/ k = 2 := by omega
  rcases this with rfl | rfl | rfl
  ·rw [if_pos (by omega), if_pos (by omega)] at a0 b0; exact ⟨a0.symm, b0.symm⟩
  ·rw [if_pos (by omega), if_pos (by omega)] at a1 b1; exact ⟨a1.symm, b1.symm⟩
  ·rw [if_pos (by omega), if_pos (by omega)] at a2 b2; exact ⟨a2.symm, b2.symm⟩
 ·rintro ⟨e, hl, hk⟩
  have key : ∀ j, (if j < b.len then b.lo j else 0) = (if j < y.box.len then y.box.lo j else 0) /\ (if j < b.len then b.hi j else 0) = (if j < y.box.len then y.box.hi j else 0) := fun j => by
   rw [hl]
   by_cases hj : j < b.len
   ·simp only [if_pos hj]
    exact ⟨(hk j (by omega)).1.symm, (hk j (by omega)).2.symm⟩
   ·simp only [if_neg hj]; exact ⟨trivial, trivial⟩
  exact ⟨e.symm, (key 0).1, (key 0).2, (key 1).1, (key 1).2, (key 2).1, (key 2).2⟩
noncomputable def SYf0 : Sums := ⟨SYd2.one, SYd2.two, SYd2.lo, SYd2.eqs, SYd2.its, SYd2.imm⟩
theorem SYf0_ok : SumsOK Try.prog SYf0 := SYd2_ok
end Abs
end Go.Proofs.Ytdfdjlijghjdaaa

namespace Go.Proofs.Ytdfdjlijghjdaaa
namespace Abs
open Go Go.RowKit
@[irreducible] def wyP (s : Sys) (y : Nd) (k : Nat) : Bool := decide (y.slot < s.nld) && wyB s y k
theorem wyP_iff {s : Sys} {y : Nd} {k : Nat} : wyP s y k = true ↔ y.slot < s.nld /\ wyB s y k = true := by unfold wyP; simp
@[irreducible] def posW (s : Sys) (y : Nd) (j : Nat) : Nat := if j < wyN s y then wyM s y j else s.nmd
theorem posW_lt {s : Sys} {y : Nd} {j : Nat} (h : j < wyN s y) : posW s y j = wyM s y j := by unfold posW; rw [if_pos h]
theorem posW_end {s : Sys} {y : Nd} {j : Nat} (h : wyN s y <= j) : posW s y j = s.nmd := by unfold posW; rw [if_neg (by omega)]
theorem still {α : Type} {F : Nat -> α} {p : Nat -> Bool} {a n : Nat} (h : ∀ k, k < n -> p k = false -> F (k + 1) = F k) : ∀ {b : Nat}, a <= b -> b <= n -> (∀ k, a <= k -> k < b -> p k = false) -> F b = F a
 | 0, hab, _, _ => by obtain rfl : a = 0 := by omega
                      rfl
 | b + 1, hab, hb, hp => by
   rcases Nat.lt_or_ge a (b + 1) with h1 | h1
   ·rw [h b (by omega) (hp b (by omega) (by omega))]
    exact still h (by omega) (by omega) fun k h2 h3 => hp k h2 (by omega)
   ·obtain rfl : a = b + 1 := by omega
    rfl
theorem wyN_cnt {s : Sys} {y : Nd} (h : y.slot < s.nld) : wyN s y = cntP (wyB s y) s.nmd := by unfold wyN; rw [if_pos h]
theorem wyM_cnt {s : Sys} {y : Nd} {j : Nat} (h : j < wyN s y) : cntP (wyB s y) (wyM s y j) = j := by
 have hs := (wyM_spec h).1
 rw [wyN_cnt hs] at h
 unfold wyM
 exact (selN_spec h).2.2
theorem no_between {s : Sys} {y : Nd} {a j : Nat} (hs : y.slot < s.nld) (ha : cntP (wyB s y) a = j) {k : Nat} (h1 : a <= k) (h2 : k < posW s y j) : wyB s y k = false := by
 cases hb : wyB s y k with
 | false => rfl
 | true =>
   have hk := cntP_mono (p := wyB s y) h1
   by_cases hj : j < wyN s y
   ·rw [posW_lt hj] at h2
    have := cntP_mono (p := wyB s y) (show k + 1 <= wyM s y j by omega)
    rw [cntP_yes hb, wyM_cnt hj] at this
    omega
   ·rw [posW_end (by omega)] at h2
    have := cntP_mono (p := wyB s y) (show k + 1 <= s.nmd by omega)
    rw [cntP_yes hb, <- wyN_cnt hs] at this
    omega
theorem posW_le {s : Sys} {y : Nd} (j : Nat) : posW s y j <= s.nmd := by
 by_cases hj : j < wyN s y
 ·rw [posW_lt hj]; have := (wyM_spec hj).2.1; omega
 ·rw [posW_end (by omega)]; exact Nat.le_refl _
theorem pos_zero {α : Type} {F : Nat -> α} {s : Sys} {y : Nd} (h : ∀ k, k < s.nmd -> wyP s y k = false -> F (k + 1) = F k) : F (posW s y 0) = F 0 := by
 refine still (p := wyP s y) h (Nat.zero_le _) (posW_le 0) fun k _ h2 => ?_
 unfold wyP
 by_cases hs : y.slot < s.nld
 ·rw [no_between hs (cntP_zero _) (Nat.zero_le _) h2]; simp
 ·simp [hs]
theorem pos_succ {α : Type} {F : Nat -> α} {s : Sys} {y : Nd} {j : Nat} (h : ∀ k, k < s.nmd -> wyP s y k = false -> F (k + 1) = F k) (hj : j < wyN s y) : F (posW s y (j + 1)) = F (wyM s y j + 1) := by
 have hw := wyM_spec hj
 have hc : cntP (wyB s y) (wyM s y j + 1) = j + 1 := by rw [cntP_yes hw.2.2, wyM_cnt hj]
 refine still (p := wyP s y) h ?_ (posW_le _) fun k h1 h2 => ?_
 ·by_cases hj' : j + 1 < wyN s y
  ·rw [posW_lt hj']
   rcases Nat.lt_or_ge (wyM s y j) (wyM s y (j + 1)) with h1 | h1
   ·exact h1
   ·have := cntP_mono (p := wyB s y) h1
    rw [wyM_cnt hj, wyM_cnt hj'] at this; omega
  ·rw [posW_end (by omega)]; exact hw.2.1
 ·unfold wyP
  rw [no_between hw.1 hc h1 h2]; simp
@[irreducible] def nxD (s : Sys) (y : Nd) (k : Nat) : Nd := ⟨y.slot + 1, adV s y.slot k y.box, 0⟩
@[simp] theorem nxD_slot (s : Sys) (y : Nd) (k : Nat) : (nxD s y k).slot = y.slot + 1 := by unfold nxD; simp
@[simp] theorem nxD_box (s : Sys) (y : Nd) (k : Nat) : (nxD s y k).box = adV s y.slot k y.box := by unfold nxD; simp
@[simp] theorem nxD_val (s : Sys) (y : Nd) (k : Nat) : (nxD s y k).val = 0 := by unfold nxD; simp
abbrev Gs := Nat × (Nat -> Nd)
@[irreducible] def adG (P : Gs) (x : Nd) : Gs := (adN P.2 P.1 x, adE P.2 P.1 x)
theorem adG_1 (P : Gs) (x : Nd) : (adG P x).1 = adN P.2 P.1 x := by unfold adG; rfl
theorem adG_2 (P : Gs) (x : Nd) : (adG P x).2 = adE P.2 P.1 x := by unfold adG; rfl
def fkG (s : Sys) (y : Nd) (P : Gs) : Nat -> Gs
 | 0 => P
 | k + 1 => if wyP s y k = true then adG (fkG s y P k) (nxD s y k) else fkG s y P k
theorem fkG_zero (s : Sys) (y : Nd) (P : Gs) : fkG s y P 0 = P := rfl
theorem fkG_no {s : Sys} {y : Nd} {P : Gs} {k : Nat} (h : wyP s y k = false) : fkG s y P (k + 1) = fkG s y P k := by rw [fkG, h]; simp
theorem fkG_yes {s : Sys} {y : Nd} {P : Gs} {k : Nat} (h : wyP s y k = true) : fkG s y P (k + 1) = adG (fkG s y P k) (nxD s y k) := by rw [fkG, if_pos h]
attribute [irreducible] fkG
def exG (s : Sys) : Nat -> Gs
 | 0 => (1, fun _ => ⟨0, s.st, 0⟩)
 | i + 1 => fkG s ((exG s i).2 i) (exG s i) s.nmd
theorem exG_zero (s : Sys) : exG s 0 = (1, fun _ => ⟨0, s.st, 0⟩) := rfl
theorem exG_succ (s : Sys) (i : Nat) : exG s (i + 1) = fkG s ((exG s i).2 i) (exG s i) s.nmd := rfl
attribute [irreducible] exG
@[irreducible] def exN (s : Sys) : Nat := firstN (fun i => decide ((exG s i).1 <= i) || decide (5000 < (exG s i).1)) 5001
def mnF (p : Nat -> Bool) (c v : Nat -> Int) : Nat -> Int
 | 0 => 1125899906842624
 | k + 1 => if p k = true /\ v k < 1125899906842624 then min (mnF p c v k) (c k + v k) else mnF p c v k
theorem mnF_zero (p : Nat -> Bool) (c v : Nat -> Int) : mnF p c v 0 = 1125899906842624 := rfl
theorem mnF_succ (p : Nat -> Bool) (c v : Nat -> Int) (k : Nat) : mnF p c v (k + 1) = if p k = true /\ v k < 1125899906842624 then min (mnF p c v k) (c k + v k) else mnF p c v k := rfl
attribute [irreducible] mnF
def vlD (s : Sys) : Nat -> Nd -> Int
 | 0, _ => 0
 | m + 1, y => mnF (wyP s y) (fun k => (s.md k).cost) (fun k => vlD s m (nxD s y k)) s.nmd
theorem vlD_zero (s : Sys) (y : Nd) : vlD s 0 y = 0 := rfl
theorem vlD_succ (s : Sys) (m : Nat) (y : Nd) : vlD s (m + 1) y = mnF (wyP s y) (fun k => (s.md k).cost) (fun k => vlD s m (nxD s y k)) s.nmd := rfl
attribute [irreducible] vlD
theorem mnF_bnd {p : Nat -> Bool} {c v : Nat -> Int} {n : Nat} (h : ∀ k, k < n -> p k = true -> 0 <= c k /\ 0 <= v k) : ∀ {k : Nat}, k <= n -> 0 <= mnF p c v k /\ mnF p c v k <= 1125899906842624
 | 0, _ => by rw [mnF_zero]; omega
 | k + 1, hk => by
   have ih := mnF_bnd h (k := k) (by omega)
   rw [mnF_succ]
   split
   ·rename_i hp
    have := h k (by omega) hp.1
    omega
   ·exact ih
theorem vlD_bnd {s : Sys} (hc : checkB s = true) : ∀ {m : Nat} {y : Nd}, 0 <= vlD s m y /\ vlD s m y <= 1125899906842624
 | 0, y => by rw [vlD_zero]; omega
 | m + 1, y => by
   rw [vlD_succ]
   refine mnF_bnd (n := s.nmd) (fun k hk _ => ⟨?_, (vlD_bnd hc).1⟩) (Nat.le_refl _)
   exact (modeB_iff.1 ((checkB_iff.1 hc).2.2.2.2.2.2.2.2.2.2 k hk)).1
@[irreducible] def vlN (s : Sys) (y : Nd) : Int := vlD s ((s.nld : Int) - y.slot).toNat y
theorem vlN_end {s : Sys} {y : Nd} (h : y.slot = s.nld) : vlN s y = 0 := by
 unfold vlN
 rw [h, show ((s.nld : Int) - s.nld).toNat = 0 by omega, vlD_zero]
theorem vlN_step {s : Sys} {y : Nd} (h : y.slot < s.nld) : vlN s y = mnF (wyP s y) (fun k => (s.md k).cost) (fun k => vlN s (nxD s y k)) s.nmd := by
 unfold vlN
 rw [show ((s.nld : Int) - y.slot).toNat = ((s.nld : Int) - (y.slot + 1)).toNat + 1 by omega, vlD_succ]
 simp only [nxD_slot]
theorem vlN_bnd {s : Sys} (hc : checkB s = true) (y : Nd) : 0 <= vlN s y /\ vlN s y <= 1125899906842624 := by unfold vlN; exact vlD_bnd hc
theorem nxV_congr {m : Mo} {n : Nat} (h : modeB m (n : Int) = true) (hn : n <= 3) {t t' w : Nat -> Int} (ht : ∀ k, k < n -> t k = t' k) {i : Nat} (hi : i < n) : nxV m t w i = nxV m t' w i := by
 have h1 := nxV_mono h hn (t := t) (t' := t') (w := w) (w' := w) (fun k hk => by have := ht k hk; omega) (fun k _ => Int.le_refl _) hi
 have h2 := nxV_mono h hn (t := t') (t' := t) (w := w) (w' := w) (fun k hk => by have := ht k hk; omega) (fun k _ => Int.le_refl _) hi
 omega
theorem adV_congr {s : Sys} {y y' : Nd} {k : Nat} (hc : checkB s = true) (hk : k < s.nmd) (hs : y.slot = y'.slot) (hl : y.box.len = s.lim.len) (hb : eqBx y.box y'.box = true) : eqBx (adV s y.slot k y.box) (adV s y'.slot k y'.box) = true := by
 have c := checkB_iff.1 hc
 have hmd := c.2.2.2.2.2.2.2.2.2.2 k hk
 obtain ⟨h1, h2⟩ := eqBx_iff.1 hb
 refine eqBx_iff.2 ⟨by rw [adV_len, adV_len]; exact h1, fun j hj => ?_⟩
 rw [adV_len] at hj
 rw [adV_lo, adV_lo, adV_hi, adV_hi, hs]
 rw [show ((k : Int)).toNat = k by omega]
 exact ⟨nxV_congr hmd c.2.1 (fun i hi => (h2 i (by omega)).1) (by omega), nxV_congr hmd c.2.1 (fun i hi => (h2 i (by omega)).2) (by omega)⟩
theorem inV_congr {l b b' : Bx} (h : eqBx b b' = true) : inV l b = inV l b' := by
 obtain ⟨h1, h2⟩ := eqBx_iff.1 h
 rw [Bool.eq_iff_iff, inV_iff, inV_iff]
 constructor
 ·intro hh k hk
  have a := hh k (by omega)
  have b := h2 k (by omega)
  omega
 ·intro hh k hk
  have a := hh k (by omega)
  have b := h2 k (by omega)
  omega
theorem wyP_congr {s : Sys} {y y' : Nd} {k : Nat} (hc : checkB s = true) (hk : k < s.nmd) (hs : y.slot = y'.slot) (hl : y.box.len = s.lim.len) (hb : eqBx y.box y'.box = true) : wyP s y k = wyP s y' k := by
 unfold wyP wyB
 rw [inV_congr (adV_congr hc hk hs hl hb), hs]
theorem mnF_congr {p p' : Nat -> Bool} {c v v' : Nat -> Int} {n : Nat} (h : ∀ k, k < n -> p k = p' k /\ v k = v' k) : ∀ {k : Nat}, k <= n -> mnF p c v k = mnF p' c v' k
 | 0, _ => by rw [mnF_zero, mnF_zero]
 | k + 1, hk => by
   have := h k (by omega)
   rw [mnF_succ, mnF_succ, mnF_congr h (k := k) (by omega), this.1, this.2]
theorem vlD_congr {s : Sys} (hc : checkB s = true) : ∀ {m : Nat} {y y' : Nd}, y.slot = y'.slot -> y.box.len = s.lim.len -> eqBx y.box y'.box = true -> vlD s m y = vlD s m y'
 | 0, y, y', _, _, _ => by rw [vlD_zero, vlD_zero]
 | m + 1, y, y', hs, hl, hb => by
   rw [vlD_succ, vlD_succ]
   refine mnF_congr (n := s.nmd) (fun k hk => ⟨wyP_congr hc hk hs hl hb, ?_⟩) (Nat.le_refl _)
   exact vlD_congr hc (by simp [hs]) (by simp [hl]) (by simpa using adV_congr hc hk hs hl hb)
theorem vlN_congr {s : Sys} (hc : checkB s = true) {y y' : Nd} (hs : y.slot = y'.slot) (hl : y.box.len = s.lim.len) (hb : eqBx y.box y'.box = true) : vlN s y = vlN s y' := by
 unfold vlN
 rw [hs]; exact vlD_congr hc hs hl hb
@[irreducible] def erV (y : Nd) : Nd := ⟨y.slot, y.box, 0⟩
@[simp] theorem erV_slot (y : Nd) : (erV y).slot = y.slot := by unfold erV; simp
@[simp] theorem erV_box (y : Nd) : (erV y).box = y.box := by unfold erV; simp
theorem wyB_er (s : Sys) (y : Nd) : wyB s (erV y) = wyB s y := by funext k; unfold wyB; simp
theorem wyP_er (s : Sys) (y : Nd) : wyP s (erV y) = wyP s y := by funext k; unfold wyP; simp [wyB_er]
theorem wyN_er (s : Sys) (y : Nd) : wyN s (erV y) = wyN s y := by unfold wyN; simp [wyB_er]
theorem wyM_er (s : Sys) (y : Nd) : wyM s (erV y) = wyM s y := by funext k; unfold wyM; simp [wyB_er]
theorem posW_er (s : Sys) (y : Nd) : posW s (erV y) = posW s y := by funext k; unfold posW; simp [wyN_er, wyM_er]
theorem nxD_er (s : Sys) (y : Nd) : nxD s (erV y) = nxD s y := by funext k; unfold nxD; simp
theorem kyE_er (y : Nd) (s : Int) (b : Bx) : kyE (erV y) s b = kyE y s b := by unfold kyE; simp
theorem fdN_er (nd : Nat -> Nd) (s : Int) (b : Bx) (n : Nat) : fdN (fun k => erV (nd k)) s b n = fdN nd s b n := by unfold fdN; simp only [kyE_er]
theorem vlD_er (s : Sys) : ∀ (m : Nat) (y : Nd), vlD s m (erV y) = vlD s m y
 | 0, y => by rw [vlD_zero, vlD_zero]
 | m + 1, y => by rw [vlD_succ, vlD_succ, wyP_er, nxD_er]
theorem vlN_er (s : Sys) (y : Nd) : vlN s (erV y) = vlN s y := by unfold vlN; rw [vlD_er]; simp
def knR (s : Sys) (nd : Nat -> Nd) (n : Nat) : Nat -> (Nat -> Bool) -> Nat -> Nat -> Bool
 | 0, kn, _ => kn
 | m + 1, kn, i => if kn i = true \/ (nd i).slot = s.nld then kn else Nat.rec (motive := fun _ => Nat -> Bool) (fun k => kn k || decide (k = i)) (fun k F => if wyP s (nd i) k = true then knR s nd n m F (fdN nd ((nd i).slot + 1) (adV s (nd i).slot k (nd i).box) n) else F) s.nmd
@[irreducible] def knF (s : Sys) (nd : Nat -> Nd) (n m : Nat) (kn : Nat -> Bool) (i : Nat) (k : Nat) : Nat -> Bool :=
 Nat.rec (motive := fun _ => Nat -> Bool) (fun k => kn k || decide (k = i)) (fun k F => if wyP s (nd i) k = true then knR s nd n m F (fdN nd ((nd i).slot + 1) (adV s (nd i).slot k (nd i).box) n) else F) k
theorem knR_zero (s : Sys) (nd : Nat -> Nd) (n : Nat) (kn : Nat -> Bool) (i : Nat) : knR s nd n 0 kn i = kn := rfl
theorem knR_succ (s : Sys) (nd : Nat -> Nd) (n m : Nat) (kn : Nat -> Bool) (i : Nat) : knR s nd n (m + 1) kn i = if kn i = true \/ (nd i).slot = s.nld then kn else knF s nd n m kn i s.nmd := by unfold knF; rfl
theorem knF_zero (s : Sys) (nd : Nat -> Nd) (n m : Nat) (kn : Nat -> Bool) (i : Nat) : knF s nd n m kn i 0 = fun k => kn k || decide (k = i) := by unfold knF; rfl
theorem knF_succ (s : Sys) (nd : Nat -> Nd) (n m : Nat) (kn : Nat -> Bool) (i k : Nat) : knF s nd n m kn i (k + 1) = if wyP s (nd i) k = true then knR s nd n m (knF s nd n m kn i k) (fdN nd ((nd i).slot + 1) (adV s (nd i).slot k (nd i).box) n) else knF s nd n m kn i k := by unfold knF; rfl
attribute [irreducible] knR
theorem knR_mono {s : Sys} {nd : Nat -> Nd} {n : Nat} : ∀ {m : Nat} {kn : Nat -> Bool} {i k : Nat}, kn k = true -> knR s nd n m kn i k = true
 | 0, kn, i, k, h => by rw [knR_zero]; exact h
 | m + 1, kn, i, k, h => by
   rw [knR_succ]
   split
   ·exact h
   ·have key : ∀ q, knF s nd n m kn i q k = true := by
     intro q
     induction q with
     | zero => rw [knF_zero]; simp [h]
     | succ q ih =>
       rw [knF_succ]
       split
       ·exact knR_mono ih
       ·exact ih
    exact key _
theorem knF_mono {s : Sys} {nd : Nat -> Nd} {n m : Nat} {kn : Nat -> Bool} {i k q : Nat} (h : kn k = true) : knF s nd n m kn i q k = true := by
 induction q with
 | zero => rw [knF_zero]; simp [h]
 | succ q ih =>
   rw [knF_succ]
   split
   ·exact knR_mono ih
   ·exact ih
theorem knF_self {s : Sys} {nd : Nat -> Nd} {n m : Nat} {kn : Nat -> Bool} {i q : Nat} : knF s nd n m kn i q i = true := by
 induction q with
 | zero => rw [knF_zero]; simp
 | succ q ih =>
   rw [knF_succ]
   split
   ·exact knR_mono ih
   ·exact ih
theorem knR_self {s : Sys} {nd : Nat -> Nd} {n m : Nat} {kn : Nat -> Bool} {i : Nat} (h : (nd i).slot ≠ s.nld) : knR s nd n (m + 1) kn i i = true := by
 rw [knR_succ]
 split
 ·rename_i h1; exact h1.resolve_right h
 ·exact knF_self
theorem knF_no {s : Sys} {nd : Nat -> Nd} {n m : Nat} {kn : Nat -> Bool} {i k : Nat} (h : wyP s (nd i) k = false) : knF s nd n m kn i (k + 1) = knF s nd n m kn i k := by rw [knF_succ, h]; simp
theorem knF_yes {s : Sys} {nd : Nat -> Nd} {n m : Nat} {kn : Nat -> Bool} {i k : Nat} (h : wyP s (nd i) k = true) : knF s nd n m kn i (k + 1) = knR s nd n m (knF s nd n m kn i k) (fdN nd ((nd i).slot + 1) (adV s (nd i).slot k (nd i).box) n) := by rw [knF_succ, if_pos h]
theorem mnF_no {p : Nat -> Bool} {c v : Nat -> Int} {k : Nat} (h : p k = false) : mnF p c v (k + 1) = mnF p c v k := by rw [mnF_succ, h]; simp
end Abs
end Go.Proofs.Ytdfdjlijghjdaaa

namespace Go.Proofs.Ytdfdjlijghjdaaa
namespace Abs
open Go Go.RowKit
noncomputable section
def mkSumT (obs : List OB) (shs : List Sh) (sp : SpecF obs shs) : Summ2 := fun args hp =>
 forceN (addJ [] (refsA_refsLN args)) fun j1 => forceN (addJ j1 (refsH hp j1)) fun j2 => forceN (addJ j2 (refsH hp j2)) fun js =>
 match nodupB js && okR_okRLN (fun i => memN i js) args && okSub js hp js && okHB obs (subH js hp js) && okShLN shs (renA_renLN (posD js) args) with
 | true => decHK obs (subH js hp js) fun o => decKLN shs (renA_renLN (posD js) args) fun x =>
   (match okRN (fun _ => true) (sp.res o x) && okRH (fun _ => true) (sp.after o x) with
   | true => some ⟨appP (canHB obs (subH js hp js)) (appP (canShLN shs (renA_renLN (posD js) args)) [⟨fun z : DatH obs × DatL shs => sp.pre z.1 z.2, (o, x)⟩]),
     renAN (outN js hp.length) (sp.res o x), putH js (outN js hp.length) (sp.after o x) 0 hp ++ newH (outN js hp.length) js.length (sp.after o x), none⟩
   | false => none)
 | false => none
end
theorem mkSumT_ok {P : Program} {f : FuncId} {obs : List OB} {shs : List Sh} {sp : SpecF obs shs} (h : FnSpecF P f obs shs sp) : Summ2OK P f (mkSumT obs shs sp) := by
 intro args hp pre res hp' mv hm hpre
 unfold mkSumT at hm
 simp only [okShLN_eq, decKLN_eq, canShLN_eq, okR_okRLN_eq, okRN_eq, renA_renLN_eq, renAN_eq, refsA_refsLN_eq] at hm
 rw [forceN_eq, forceN_eq, forceN_eq] at hm
 generalize addJ (addJ (addJ [] (refsA.refsL args)) (refsH hp (addJ [] (refsA.refsL args)))) _ = js at hm
 split at hm
 ·rename_i hok
  simp only [Bool.and_eq_true] at hok
  obtain ⟨⟨⟨⟨h1, h2⟩, h3⟩, h4⟩, h5⟩ := hok
  rw [decHK_eq h4, decKL_eq h5] at hm
  split at hm
  ·rename_i h6
   simp only [Bool.and_eq_true] at h6
   injection hm with hm; injection hm with e1 e2 e3 e4
   subst e1 e2 e3 e4
   obtain ⟨h7, h8⟩ := appP_mem hpre
   obtain ⟨h9, h10⟩ := appP_mem h8
   have := h _ _ (h10 _ (List.mem_singleton.2 rfl))
   refine Fn.focus h1 h2 h3 h6.1 h6.2 ?_
   exact (this.weakenH (len_encH h4) fun C w i q => enc_decH h4 h7 i).weaken fun C w vs ha => encL_dec (can_shL h5 h9) ha
  ·cases hm
 ·cases hm
@[simp] theorem ndOf_gen (s : Int) (b : Bx) (v : Int) : ndOf (s, (b.len, fun k => (b.lo k, b.hi k, ())), v, ()) = Nd.mk s b v := by unfold ndOf; simp
@[simp] theorem nd_eta (y : Nd) : Nd.mk y.slot y.box y.val = y := by unfold Nd.slot Nd.box Nd.val; rfl
theorem nd_er (y : Nd) (v : Int) : erV (Nd.mk y.slot y.box v) = erV y := by unfold erV; simp
@[simp] theorem wyM_v (s : Sys) (y : Nd) (v : Int) : wyM s (Nd.mk y.slot y.box v) = wyM s y := by rw [<- wyM_er, nd_er, wyM_er]
@[simp] theorem wyN_v (s : Sys) (y : Nd) (v : Int) : wyN s (Nd.mk y.slot y.box v) = wyN s y := by rw [<- wyN_er, nd_er, wyN_er]
@[simp] theorem wyP_v (s : Sys) (y : Nd) (v : Int) : wyP s (Nd.mk y.slot y.box v) = wyP s y := by rw [<- wyP_er, nd_er, wyP_er]
@[simp] theorem nxD_v (s : Sys) (y : Nd) (v : Int) : nxD s (Nd.mk y.slot y.box v) = nxD s y := by rw [<- nxD_er, nd_er, nxD_er]
@[simp] theorem posW_v (s : Sys) (y : Nd) (v : Int) : posW s (Nd.mk y.slot y.box v) = posW s y := by rw [<- posW_er, nd_er, posW_er]
@[simp] theorem vlN_v (s : Sys) (y : Nd) (v : Int) : vlN s (Nd.mk y.slot y.box v) = vlN s y := by rw [<- vlN_er, nd_er, vlN_er]
theorem WyOK.v {s : Sys} {y : Nd} (h : WyOK s y) (v : Int) : WyOK s (Nd.mk y.slot y.box v) := ⟨h.ch, by simpa using h.sl, by simpa using h.ln, by simpa using h.nr⟩
@[irreducible] def knW (s : Sys) (nd : Nat -> Nd) (kn kn' : Nat -> Bool) (k : Nat) : Nd := if kn' k = true /\ kn k = false then ⟨(nd k).slot, (nd k).box, vlN s (nd k)⟩ else nd k
@[simp] theorem knW_slot (s : Sys) (nd : Nat -> Nd) (kn kn' : Nat -> Bool) (k : Nat) : (knW s nd kn kn' k).slot = (nd k).slot := by unfold knW; split <;> simp
@[simp] theorem knW_box (s : Sys) (nd : Nat -> Nd) (kn kn' : Nat -> Bool) (k : Nat) : (knW s nd kn kn' k).box = (nd k).box := by unfold knW; split <;> simp
@[irreducible] def knU (s : Sys) (nd : Nat -> Nd) (kn kn' : Nat -> Bool) (i : Nat) (v : Int) (k : Nat) : Nd := if k = i then ⟨(nd k).slot, (nd k).box, v⟩ else knW s nd kn kn' k
@[simp] theorem knU_slot (s : Sys) (nd : Nat -> Nd) (kn kn' : Nat -> Bool) (i : Nat) (v : Int) (k : Nat) : (knU s nd kn kn' i v k).slot = (nd k).slot := by unfold knU; split <;> simp
@[simp] theorem knU_box (s : Sys) (nd : Nat -> Nd) (kn kn' : Nat -> Bool) (i : Nat) (v : Int) (k : Nat) : (knU s nd kn kn' i v k).box = (nd k).box := by unfold knU; split <;> simp
structure GrOK (s : Sys) (n : Nat) (nd : Nat -> Nd) : Prop where
 ch : checkB s = true
 mx : SysMax s
 n5 : n <= 6000
 wy : ∀ k, k < n -> WyOK s (nd k) /\ (nd k).slot <= s.nld
 cl : ∀ k, k < n -> ∀ m, m < s.nmd -> wyP s (nd k) m = true -> fdB nd ((nd k).slot + 1) (adV s (nd k).slot m (nd k).box) n = true
structure VaOK (s : Sys) (m n : Nat) (nd : Nat -> Nd) (kn : Nat -> Bool) (i : Int) : Prop where
 gr : GrOK s n nd
 i0 : 0 <= i
 i1 : i < n
 fu : (s.nld : Int) < (nd (nat i)).slot + m
 kv : ∀ k, k < n -> (nd (nat i)).slot <= (nd k).slot -> kn k = true -> (nd k).val = vlN s (nd k)
 ev : ∀ k, k < n -> (nd k).slot = s.nld -> (nd k).val = 0
@[reducible] def valSh : List Sh := [.int .i64, .own 0 0, .own 1 0, .own 2 0, .own 3 0]
@[reducible] def valO : List OB := [.cells 61 [.own 4 0], .cells 97 [.rowr 5], .cells 26 sysCs, .cells 101 [.fn 62 [] [.own 0 0, .own 1 0, .own 2 0, .own 3 0]],
 .cells 64 (grSh 6 7), .row 4 1 [.bool], .row 31 3 ndCells, .tab 7 kyCells]
@[reducible] def syL (s : Sys) : List AV := [.slc (.sym s.lim.len) 2 (fun k => [.si .i64 (s.lim.lo k), .si .i64 (s.lim.hi k)]), .slc (.sym s.st.len) 2 (fun k => [.si .i64 (s.st.lo k), .si .i64 (s.st.hi k)]),
 .slc (.sym s.nmd) 3 (fun k => [.si .i64 (s.md k).cost, .slc (.sym (s.md k).nsh) 1 (fun j => [.si .i64 ((s.md k).sh j)]), .slc (.sym (s.md k).nfl) 3 (fun j => [.si .i64 ((s.md k).ff j), .si .i64 ((s.md k).ft j), .si .i64 ((s.md k).fp j)])]),
 .slc (.sym s.nld) 1 (fun k => [.slc (.sym (s.ld k).len) 2 (fun j => [.si .i64 ((s.ld k).lo j), .si .i64 ((s.ld k).hi j)])])]
@[reducible] def valH (s : Sys) (n : Nat) (nd : Nat -> Nd) (kn : Nat -> Bool) : Heap := [.cells 61 [.own 4 0], .cells 97 [.row 5], .cells 26 (syL s),
 .cells 101 [.fn (.func 62) [] [.own 0 0, .own 1 0, .own 2 0, .own 3 0]], .cells 64 (grL s 6 7), .row 4 1 (.sym n) (fun k => [.sb (kn k)]), .row 31 3 (.sym n) (fun k => ndL (nd k)), .tab (.sym n) 7 (fun k => ixL (nd k) k)]
def valF (f : Nat) : SpecF valO valSh := ⟨fun (_, _, sb, _, g, (nk, ke), (n, el), (m, te), _) ((i : Int), _) => nk = n /\ m = n /\ (∀ k, k < n -> te k = ixD (ndOf (el k)) k) /\ grOf g = sysOf sb /\ VaOK (sysOf sb) f n (fun k => ndOf (el k)) (fun k => (ke k).1) i,
 fun (_, _, sb, _, _, _, (_, el), _, _) ((i : Int), _) => .si .i64 (vlN (sysOf sb) (ndOf (el (nat i)))),
 fun (_, _, sb, _, _, (_, ke), (n, el), _, _) ((i : Int), _) => valH (sysOf sb) n (knW (sysOf sb) (fun k => ndOf (el k)) (fun k => (ke k).1) (knR (sysOf sb) (fun k => ndOf (el k)) n f (fun k => (ke k).1) (nat i))) (knR (sysOf sb) (fun k => ndOf (el k)) n f (fun k => (ke k).1) (nat i))⟩
def valG (f : Nat) : SpecF valO valSh := ⟨fun (a, b, sb, c, g, kk, (n, el), (m, te), d) x => (te = fun k => ixD (ndOf (el k)) k) /\ (valF f).pre (a, b, sb, c, g, kk, (n, el), (m, te), d) x, (valF f).res, (valF f).after⟩
theorem val_weak {P : Program} {g : FuncId} {f : Nat} (h : FnSpecF P g _ _ (valG f)) : FnSpecF P g _ _ (valF f) := by
 rintro ⟨a, b, sb, c, gr, ⟨nk, ke⟩, ⟨n, el⟩, ⟨m, te⟩, d⟩ x hx
 have hm : m = n := hx.2.1
 have ht : ∀ k, k < n -> te k = ixD (ndOf (el k)) k := hx.2.2.1
 subst hm
 refine (h (a, b, sb, c, gr, (nk, ke), (m, el), (m, fun k => ixD (ndOf (el k)) k), d) x ⟨rfl, hx.1, rfl, fun _ _ => rfl, hx.2.2.2⟩).weakenH rfl fun C w i q hr => ?_
 have key : ∀ q, BRel C w q (.tab (.sym m) 7 (fun k => encL kyCells (te k))) -> BRel C w q (.tab (.sym m) 7 (fun k => encL kyCells (ixD (ndOf (el k)) k))) := fun q hr => by
  cases q with
  | nil => exact hr.elim
  | «at» b c n =>
    obtain ⟨es, ck, vs, h1, h2, h3⟩ := hr
    refine ⟨es, ck, vs, h1, h2, fun k hk => ?_⟩
    have h4 := h3 k hk
    change RelL C w (encL kyCells (te k)) (vs k) /\ okL (encL kyCells (te k)) = true /\ _ at h4
    rw [ht k hk] at h4
    exact h4
 match i with
 | 0 => exact hr
 | 1 => exact hr
 | 2 => exact hr
 | 3 => exact hr
 | 4 => exact hr
 | 5 => exact hr
 | 6 => exact hr
 | 7 => exact key q hr
 | i + 8 => exact hr
noncomputable def valI (f : Nat) : DatH valO -> DatL valSh -> Anns := fun (_, _, sb, _, _, (_, ke), (n, el), _, _) ((i : Int), _) => [
 (7, [], fun fr hp => ⟨Nat, fun j => ⟨frI [.k 8, .t 3, .k 35, .t 34] fr,
     setB (setB hp 5 (.row 4 1 (.sym n) (fun k => [.sb (knF (sysOf sb) (fun k => ndOf (el k)) n f (fun k => (ke k).1) (nat i) (posW (sysOf sb) (ndOf (el (nat i))) j) k)])))
      6 (.row 31 3 (.sym n) (fun k => ndL (knU (sysOf sb) (fun k => ndOf (el k)) (fun k => (ke k).1) (knF (sysOf sb) (fun k => ndOf (el k)) n f (fun k => (ke k).1) (nat i) (posW (sysOf sb) (ndOf (el (nat i))) j)) (nat i)
        (mnF (wyP (sysOf sb) (ndOf (el (nat i)))) (fun k => ((sysOf sb).md k).cost) (fun k => vlN (sysOf sb) (nxD (sysOf sb) (ndOf (el (nat i))) k)) (posW (sysOf sb) (ndOf (el (nat i))) j)) k)))⟩,
  Nat × Nat, fun j => (j, wyN (sysOf sb) (ndOf (el (nat i)))), fun (j, n) => j <= n, fun j => j⟩)]
noncomputable def SYh (f : Nat) : Sums := ⟨SYd2.one, (62, mkSumT _ _ (valF f)) :: SYd2.two, SYd2.lo, SYd2.eqs, SYd2.its, SYd2.imm⟩
theorem SYh_ok {f : Nat} (h : FnSpecF Try.prog 62 _ _ (valF f)) : SumsOK Try.prog (SYh f) := SYd2_ok.addTwo Try.func62 (by kernel_rfl) (by kernel_rfl) (mkSumT_ok h)
end Abs
end Go.Proofs.Ytdfdjlijghjdaaa

namespace Go.Proofs.Ytdfdjlijghjdaaa
namespace Abs
open Go Go.RowKit
theorem fdB_ex {nd : Nat -> Nd} {s : Int} {b : Bx} {n : Nat} : fdB nd s b n = true ↔ ∃ k, k < n /\ kyE (nd k) s b = true := by
 rw [fdB_iff]
 unfold fdN
 constructor
 ·intro h
  exact ⟨_, h, firstN_is (fun k => kyE (nd k) s b) n h⟩
 ·rintro ⟨k, hk, hb⟩
  rcases Nat.lt_or_ge (firstN (fun k => kyE (nd k) s b) n) n with h | h
  ·exact h
  ·have := firstN_not (fun k => kyE (nd k) s b) n k (by omega)
   rw [hb] at this; cases this
theorem kyE_self (x : Nd) : kyE x x.slot x.box = true := by unfold kyE; simp
theorem adG_le (P : Gs) (x : Nd) : P.1 <= (adG P x).1 /\ (adG P x).1 <= P.1 + 1 := by rw [adG_1]; exact adN_le _ _ _
theorem adG_keep {P : Gs} {x : Nd} {k : Nat} (h : k < P.1) : (adG P x).2 k = P.2 k := by rw [adG_2]; exact adE_lt h
theorem adG_all {P : Gs} {x : Nd} {Q : Nd -> Prop} (h : ∀ k, k < P.1 -> Q (P.2 k)) (hx : Q x) : ∀ k, k < (adG P x).1 -> Q ((adG P x).2 k) := fun k hk => by
 by_cases e : k < P.1
 ·rw [adG_keep e]; exact h k e
 ·have := (adG_le P x).2
  obtain rfl : k = P.1 := by omega
  rw [adG_2, adE_at]; exact hx
theorem adG_fd {P : Gs} {x : Nd} {s : Int} {b : Bx} (h : fdB P.2 s b P.1 = true) : fdB (adG P x).2 s b (adG P x).1 = true := by
 obtain ⟨k, hk, hb⟩ := fdB_ex.1 h
 exact fdB_ex.2 ⟨k, by have := (adG_le P x).1; omega, by rw [adG_keep hk]; exact hb⟩
theorem adG_new (P : Gs) (x : Nd) : fdB (adG P x).2 x.slot x.box (adG P x).1 = true := by
 cases hd : fdB P.2 x.slot x.box P.1 with
 | true => exact adG_fd hd
 | false =>
   have h1 : (adG P x).1 = P.1 + 1 := by rw [adG_1]; exact adN_no hd
   exact fdB_ex.2 ⟨P.1, by omega, by rw [adG_2, adE_at]; exact kyE_self x⟩
structure NdOK (s : Sys) (y : Nd) : Prop where
 s0 : 0 <= y.slot
 s1 : y.slot <= s.nld
 ln : y.box.len = s.lim.len
 ins : inV s.lim y.box = true
 v0 : y.val = 0
theorem NdOK.wy {s : Sys} {y : Nd} (hc : checkB s = true) (h : NdOK s y) : WyOK s y := ⟨hc, h.s0, h.ln, near_wide (near_of_in hc h.ln h.ins)⟩
theorem NdOK.next {s : Sys} {y : Nd} {k : Nat} (h : NdOK s y) (hw : wyP s y k = true) : NdOK s (nxD s y k) := by
 obtain ⟨h1, h2⟩ := wyP_iff.1 hw
 unfold wyB at h2
 have := h.s0
 exact ⟨by rw [nxD_slot]; omega, by rw [nxD_slot]; omega, by rw [nxD_box, adV_len]; exact h.ln, by rw [nxD_box]; exact h2, nxD_val _ _ _⟩
theorem fkG_le {s : Sys} {y : Nd} {P : Gs} : ∀ k, P.1 <= (fkG s y P k).1 /\ (fkG s y P k).1 <= P.1 + k
 | 0 => by rw [fkG_zero]; omega
 | k + 1 => by
   have ih := fkG_le (s := s) (y := y) (P := P) k
   cases hw : wyP s y k with
   | false => rw [fkG_no hw]; omega
   | true => rw [fkG_yes hw]; have := adG_le (fkG s y P k) (nxD s y k); omega
theorem fkG_keep {s : Sys} {y : Nd} {P : Gs} {j : Nat} (hj : j < P.1) : ∀ k, (fkG s y P k).2 j = P.2 j
 | 0 => by rw [fkG_zero]
 | k + 1 => by
   cases hw : wyP s y k with
   | false => rw [fkG_no hw]; exact fkG_keep hj k
   | true => rw [fkG_yes hw, adG_keep (by have := (fkG_le (s := s) (y := y) (P := P) k).1; omega)]; exact fkG_keep hj k
theorem fkG_nd {s : Sys} {y : Nd} {P : Gs} (hy : NdOK s y) (h : ∀ k, k < P.1 -> NdOK s (P.2 k)) : ∀ k j, j < (fkG s y P k).1 -> NdOK s ((fkG s y P k).2 j)
 | 0 => by rw [fkG_zero]; exact h
 | k + 1 => by
   cases hw : wyP s y k with
   | false => rw [fkG_no hw]; exact fkG_nd hy h k
   | true => rw [fkG_yes hw]; exact adG_all (fkG_nd hy h k) (hy.next hw)
theorem fkG_fd {s : Sys} {y : Nd} {P : Gs} {sl : Int} {b : Bx} (h : fdB P.2 sl b P.1 = true) : ∀ k, fdB (fkG s y P k).2 sl b (fkG s y P k).1 = true
 | 0 => by rw [fkG_zero]; exact h
 | k + 1 => by
   cases hw : wyP s y k with
   | false => rw [fkG_no hw]; exact fkG_fd h k
   | true => rw [fkG_yes hw]; exact adG_fd (fkG_fd h k)
theorem fkG_cl {s : Sys} {y : Nd} {P : Gs} : ∀ k m, m < k -> wyP s y m = true -> fdB (fkG s y P k).2 (y.slot + 1) (adV s y.slot m y.box) (fkG s y P k).1 = true
 | 0, m, h, _ => by omega
 | k + 1, m, h, hw => by
   by_cases e : m = k
   ·subst e
    rw [fkG_yes hw]
    have := adG_new (fkG s y P m) (nxD s y m)
    rwa [nxD_slot, nxD_box] at this
   ·have ih := fkG_cl (s := s) (y := y) (P := P) k m (by omega) hw
    cases hk : wyP s y k with
    | false => rw [fkG_no hk]; exact ih
    | true => rw [fkG_yes hk]; exact adG_fd ih
structure ExOK (s : Sys) (i : Nat) (P : Gs) : Prop where
 i0 : i <= P.1
 p1 : 1 <= P.1
 st : P.2 0 = ⟨0, s.st, 0⟩
 nd : ∀ k, k < P.1 -> NdOK s (P.2 k)
 cl : ∀ k, k < i -> ∀ m, m < s.nmd -> wyP s (P.2 k) m = true -> fdB P.2 ((P.2 k).slot + 1) (adV s (P.2 k).slot m (P.2 k).box) P.1 = true
theorem exG_ok0 {s : Sys} (hc : checkB s = true) : ExOK s 0 (exG s 0) := by
 have c := checkB_iff.1 hc
 rw [exG_zero]
 refine ⟨Nat.zero_le _, Nat.le_refl _, rfl, fun k _ => ⟨by simp, by simp, by simp [c.2.2.2.2.2.2.1], by simp [c.2.2.2.2.2.2.2.2.1], by simp⟩, fun k hk => by omega⟩
theorem ExOK.next {s : Sys} {i : Nat} {P : Gs} (h : ExOK s i P) (hi : i < P.1) : ExOK s (i + 1) (fkG s (P.2 i) P s.nmd) := by
 have hle := fkG_le (s := s) (y := P.2 i) (P := P) s.nmd
 refine ⟨by omega, by have := h.p1; omega, by rw [fkG_keep (by have := h.p1; omega)]; exact h.st, fkG_nd (h.nd i hi) h.nd s.nmd, fun k hk m hm hw => ?_⟩
 have e : (fkG s (P.2 i) P s.nmd).2 k = P.2 k := fkG_keep (by omega) _
 rw [e] at hw ⊢
 by_cases hki : k = i
 ·subst hki
  exact fkG_cl s.nmd m hm hw
 ·exact fkG_fd (h.cl k (by omega) m hm hw) _
theorem exG_ok {s : Sys} (hc : checkB s = true) : ∀ {i : Nat}, (∀ j, j < i -> j < (exG s j).1) -> ExOK s i (exG s i)
 | 0, _ => exG_ok0 hc
 | i + 1, h => by
   rw [exG_succ]
   exact (exG_ok hc (i := i) fun j hj => h j (by omega)).next (h i (by omega))
theorem exN_at {s : Sys} {i : Nat} (hi : i <= 5001) (h : ∀ j, j < i -> j < (exG s j).1 /\ (exG s j).1 <= 5000) (he : i < 5001 -> (exG s i).1 <= i \/ 5000 < (exG s i).1) : exN s = i := by
 unfold exN
 refine firstN_uniq hi (fun j hj => ?_) (fun hlt => ?_)
 ·have := h j hj
  simp; omega
 ·have := he hlt
  simp; omega
@[irreducible] def exE (s : Sys) : Int := if checkB s = true then (if (exG s (exN s)).1 <= 5000 then 0 else 6) else 2
theorem exE_0 {s : Sys} : exE s = 0 ↔ checkB s = true /\ (exG s (exN s)).1 <= 5000 := by
 unfold exE
 cases checkB s <;> by_cases h : (exG s (exN s)).1 <= 5000 <;> simp [h]
theorem ExOK.gr {s : Sys} {P : Gs} (hc : checkB s = true) (hm : SysMax s) (hn : P.1 <= 5000) (h : ExOK s P.1 P) : GrOK s P.1 P.2 :=
 ⟨hc, hm, by omega, fun k hk => ⟨(h.nd k hk).wy hc, (h.nd k hk).s1⟩, h.cl⟩
def SamN (nd nd' : Nat -> Nd) : Prop := ∀ k, (nd k).slot = (nd' k).slot /\ (nd k).box = (nd' k).box
theorem SamN.er {nd nd' : Nat -> Nd} (h : SamN nd nd') (k : Nat) : erV (nd k) = erV (nd' k) := by unfold erV; rw [(h k).1, (h k).2]
theorem SamN.fdN {nd nd' : Nat -> Nd} (h : SamN nd nd') (s : Int) (b : Bx) (n : Nat) : fdN nd s b n = Abs.fdN nd' s b n := by
 rw [<- fdN_er nd, <- fdN_er nd']
 simp only [h.er]
theorem SamN.fdB {nd nd' : Nat -> Nd} (h : SamN nd nd') (s : Int) (b : Bx) (n : Nat) : fdB nd s b n = Abs.fdB nd' s b n := by unfold Abs.fdB; rw [h.fdN]
theorem SamN.wyP {nd nd' : Nat -> Nd} (h : SamN nd nd') (s : Sys) (k : Nat) : wyP s (nd k) = Abs.wyP s (nd' k) := by rw [<- wyP_er, h.er, wyP_er]
theorem SamN.vlN {nd nd' : Nat -> Nd} (h : SamN nd nd') (s : Sys) (k : Nat) : vlN s (nd k) = Abs.vlN s (nd' k) := by rw [<- vlN_er, h.er, vlN_er]
theorem knR_same {s : Sys} {nd nd' : Nat -> Nd} {n : Nat} (h : SamN nd nd') : ∀ {m : Nat} {kn : Nat -> Bool} {i : Nat}, knR s nd n m kn i = knR s nd' n m kn i
 | 0, kn, i => by rw [knR_zero, knR_zero]
 | m + 1, kn, i => by
   have key : ∀ q, knF s nd n m kn i q = knF s nd' n m kn i q := by
    intro q
    induction q with
    | zero => rw [knF_zero, knF_zero]
    | succ q ih => rw [knF_succ, knF_succ, h.wyP, ih, h.fdN, (h i).1, (h i).2, knR_same h]
   rw [knR_succ, knR_succ, key, (h i).1]
theorem GrOK.same {s : Sys} {n : Nat} {nd nd' : Nat -> Nd} (h : SamN nd nd') (g : GrOK s n nd) : GrOK s n nd' := by
 refine ⟨g.ch, g.mx, g.n5, fun k hk => ?_, fun k hk m hm hw => ?_⟩
 ·obtain ⟨⟨a, b, c, d⟩, e⟩ := g.wy k hk
  rw [(h k).1] at b e
  rw [(h k).2] at c d
  exact ⟨⟨a, b, c, d⟩, e⟩
 ·rw [<- h.wyP] at hw
  have := g.cl k hk m hm hw
  rw [h.fdB, (h k).1, (h k).2] at this
  exact this
theorem knU_self (s : Sys) (nd : Nat -> Nd) (kn kn' : Nat -> Bool) (i : Nat) (v : Int) : (knU s nd kn kn' i v i).val = v := by unfold knU; simp
theorem knU_ne {s : Sys} {nd : Nat -> Nd} {kn kn' : Nat -> Bool} {i k : Nat} {v : Int} (h : k ≠ i) : knU s nd kn kn' i v k = knW s nd kn kn' k := by unfold knU; simp [h]
theorem knW_new {s : Sys} {nd : Nat -> Nd} {kn kn' : Nat -> Bool} {k : Nat} (h1 : kn' k = true) (h2 : kn k = false) : (knW s nd kn kn' k).val = vlN s (nd k) := by unfold knW; simp [h1, h2]
theorem knW_old {s : Sys} {nd : Nat -> Nd} {kn kn' : Nat -> Bool} {k : Nat} (h : kn' k = false \/ kn k = true) : knW s nd kn kn' k = nd k := by
 unfold knW
 rcases h with h | h <;> simp [h]
theorem knU_sam (s : Sys) (nd : Nat -> Nd) (kn kn' : Nat -> Bool) (i : Nat) (v : Int) : SamN (knU s nd kn kn' i v) nd := fun k => ⟨knU_slot _ _ _ _ _ _ _, knU_box _ _ _ _ _ _ _⟩
theorem knU_eta (s : Sys) (nd : Nat -> Nd) (kn kn' : Nat -> Bool) (i : Nat) (v : Int) : (fun k => Nd.mk (nd k).slot (nd k).box (knU s nd kn kn' i v k).val) = knU s nd kn kn' i v := by
 funext k
 have := nd_eta (knU s nd kn kn' i v k)
 rwa [knU_slot, knU_box] at this
end Abs
end Go.Proofs.Ytdfdjlijghjdaaa

namespace Go.Proofs.Ytdfdjlijghjdaaa
namespace Abs
open Go Go.RowKit
set_option maxRecDepth 100000 in
set_option maxHeartbeats 4000000 in
theorem val_step {f : Nat} (h : FnSpecF Try.prog 62 _ _ (valF f)) : FnSpecF Try.prog 62 _ _ (valF (f + 1)) := by
 refine val_weak (FnSpecF.of (SYh_ok h) mixed (U := 0) (I := valI f) Try.func62 rfl (by kernel_rfl) (sp := valG (f + 1)) rfl (by decide +kernel) ?_)
 clear h
 rintro ⟨⟨⟨⟩, ⟨⟩⟩, ⟨⟨⟩, ⟨⟩⟩, sb, v, g, ⟨nk, ke⟩, ⟨n, el⟩, ⟨m, te⟩, ⟨⟩⟩ ⟨(i : Int), ⟨⟩, ⟨⟩, ⟨⟩, ⟨⟩, ⟨⟩⟩ ⟨rfl, rfl, rfl, -, hgs, hV⟩
 obtain ⟨s, rfl⟩ := sys_ex sb
 obtain ⟨s', rfl⟩ := gr_ex g
 obtain ⟨nd, rfl⟩ := nds_ex el
 obtain ⟨⟨⟨⟩, ⟨⟨⟩, ⟨⟩, ⟨⟩, ⟨⟩, ⟨⟩⟩⟩, ⟨⟩⟩ := v
 obtain ⟨kn, rfl⟩ : ∃ kn : Nat -> Bool, ke = fun k => (kn k, ()) := ⟨fun k => (ke k).1, rfl⟩
 simp only [sysOf_D, grOf_D, ndOf_D] at hgs hV ⊢
 subst hgs
 obtain ⟨i, rfl⟩ : ∃ k : Nat, i = icast k := ⟨i.toNat, by rw [icast_eq']; have := hV.i0; omega⟩
 unfold FnSat
 conv => arg 2; reduce
 simp [valF, valG, valI, keyS, wyI, unA, unitA, encH, encB, ElEq, aliveB, goneB, getB, maxRow, IntItems, IntItem, ownIn, ownIn.ownInL, fnEq, and_assoc]
 have en : (fun k => nd k) = nd := rfl
 have ek : (fun k => kn k) = kn := rfl
 rw [en, ek] at hV
 simp only [en, ek, knU_eta]
 obtain ⟨hgr, _, hi, hfu, hkv, hev⟩ := hV
 have hn : nat (icast i) = i := by unfold nat; rw [icast_eq']; omega
 rw [hn] at hfu hkv
 rw [icast_eq'] at hi
 have hi : i < m := by omega
 obtain ⟨hwy, hsl⟩ := hgr.wy i hi
 have hc := hgr.ch
 have c1 := checkB_iff.1 hc
 refine ⟨hi, fun h => ?_, fun h1 h2 => ?_⟩
 ·have hkr : knR s' nd m (f + 1) kn i = kn := by rw [knR_succ, if_pos h]
  refine ⟨?_, fun j _ => by rw [hkr], fun j _ => ?_⟩
  ·rcases h with h | h
   ·exact hkv i hi (Int.le_refl _) h
   ·rw [vlN_end h]; exact hev i hi h
  ·rw [hkr]
   cases hk : kn j with
   | true => rw [knW_old (.inr hk)]
   | false => rw [knW_old (.inl hk)]
 have hs : (nd i).slot < s'.nld := by omega
 have zK : knF s' nd m f kn i (posW s' (nd i) 0) = fun k => kn k || decide (k = i) := by
  rw [pos_zero (F := knF s' nd m f kn i) (fun k _ hw => knF_no hw), knF_zero]
 have zV : mnF (wyP s' (nd i)) (fun k => (s'.md k).cost) (fun k => vlN s' (nxD s' (nd i) k)) (posW s' (nd i) 0) = 1125899906842624 := by
  rw [pos_zero (F := mnF (wyP s' (nd i)) (fun k => (s'.md k).cost) (fun k => vlN s' (nxD s' (nd i) k))) (fun k _ hw => mnF_no hw), mnF_zero]
 refine ⟨hi, hgr.mx, hwy.v _, fun j _ => by rw [zK]; exact Bool.or_comm _ _, fun j _ => ?_, fun g hg => ⟨fun hlt => ?_, fun hge => ?_⟩⟩
 ·rw [zK, zV]
  by_cases e : j = i
  ·subst e; rw [if_pos rfl, knU_self]
  ·rw [if_neg e, knU_ne e]
   cases hk : kn j with
   | true => rw [knW_old (.inr hk)]
   | false => rw [knW_old (.inl (by simp [hk, e]))]
 ·obtain ⟨q1, q2, q3⟩ := wyM_spec hlt
  have hwp : wyP s' (nd i) (wyM s' (nd i) g) = true := wyP_iff.2 ⟨q1, q3⟩
  have hfd := hgr.cl i hi _ q2 hwp
  have ht := fdB_iff.1 hfd
  have ett : (fdV nd ((nd i).slot + 1) (adV s' (nd i).slot (wyM s' (nd i) g) (nd i).box) m).toNat = fdN nd ((nd i).slot + 1) (adV s' (nd i).slot (wyM s' (nd i) g) (nd i).box) m := by rw [fdV_of hfd]; omega
  have ett' : nat (fdV nd ((nd i).slot + 1) (adV s' (nd i).slot (wyM s' (nd i) g) (nd i).box) m) = fdN nd ((nd i).slot + 1) (adV s' (nd i).slot (wyM s' (nd i) g) (nd i).box) m := by unfold nat; exact ett
  have hky : kyE (nd (fdN nd ((nd i).slot + 1) (adV s' (nd i).slot (wyM s' (nd i) g) (nd i).box) m)) ((nd i).slot + 1) (adV s' (nd i).slot (wyM s' (nd i) g) (nd i).box) = true := by
   unfold fdN at ht ⊢
   exact firstN_is (fun k => kyE (nd k) ((nd i).slot + 1) (adV s' (nd i).slot (wyM s' (nd i) g) (nd i).box)) m ht
  have sK : knF s' nd m f kn i (posW s' (nd i) (g + 1)) = knR s' nd m f (knF s' nd m f kn i (posW s' (nd i) g)) (fdN nd ((nd i).slot + 1) (adV s' (nd i).slot (wyM s' (nd i) g) (nd i).box) m) := by
   rw [pos_succ (F := knF s' nd m f kn i) (fun k _ hw => knF_no hw) hlt, knF_yes hwp, posW_lt hlt]
  have sV : mnF (wyP s' (nd i)) (fun k => (s'.md k).cost) (fun k => vlN s' (nxD s' (nd i) k)) (posW s' (nd i) (g + 1)) = if vlN s' (nxD s' (nd i) (wyM s' (nd i) g)) < 1125899906842624 then min (mnF (wyP s' (nd i)) (fun k => (s'.md k).cost) (fun k => vlN s' (nxD s' (nd i) k)) (posW s' (nd i) g)) ((s'.md (wyM s' (nd i) g)).cost + vlN s' (nxD s' (nd i) (wyM s' (nd i) g))) else mnF (wyP s' (nd i)) (fun k => (s'.md k).cost) (fun k => vlN s' (nxD s' (nd i) k)) (posW s' (nd i) g) := by
   rw [pos_succ (F := mnF (wyP s' (nd i)) (fun k => (s'.md k).cost) (fun k => vlN s' (nxD s' (nd i) k))) (fun k _ hw => mnF_no hw) hlt, mnF_succ, posW_lt hlt]
   simp [hwp]
  have hself : knF s' nd m f kn i (posW s' (nd i) g) i = true := knF_self
  have hmono : ∀ k, kn k = true -> knF s' nd m f kn i (posW s' (nd i) g) k = true := fun k h => knF_mono h
  have efd : fdV nd ((nd i).slot + 1) (adV s' (nd i).slot (wyM s' (nd i) g) (nd i).box) m = (fdN nd ((nd i).slot + 1) (adV s' (nd i).slot (wyM s' (nd i) g) (nd i).box) m : Int) := fdV_of hfd
  rw [ett, sK, sV, efd]
  clear ett ett' efd
  generalize fdN nd ((nd i).slot + 1) (adV s' (nd i).slot (wyM s' (nd i) g) (nd i).box) m = t at *
  generalize knF s' nd m f kn i (posW s' (nd i) g) = K at *
  generalize mnF (wyP s' (nd i)) (fun k => (s'.md k).cost) (fun k => vlN s' (nxD s' (nd i) k)) (posW s' (nd i) g) = V at *
  have hsam := knU_sam s' nd kn K i V
  have htw := hgr.wy t ht
  have htb : (nd t).slot = (nd i).slot + 1 /\ eqBx (nd t).box (adV s' (nd i).slot (wyM s' (nd i) g) (nd i).box) = true := by
   rw [kyE_box htw.1.ln (by rw [adV_len]; exact hwy.ln) c1.2.1] at hky
   simpa using hky
  have hvt : vlN s' (nd t) = vlN s' (nxD s' (nd i) (wyM s' (nd i) g)) := vlN_congr hc (by rw [nxD_slot]; exact htb.1) htw.1.ln (by rw [nxD_box]; exact htb.2)
  have hvb := vlN_bnd hc (nd t)
  have q4 := modeB_iff.1 (c1.2.2.2.2.2.2.2.2.2.2 _ q2)
  rw [knR_same hsam, <- hvt]
  have hold : ∀ j, j ≠ i -> (knW s' (knU s' nd kn K i V) K (knR s' nd m f K t) j).val = (knW s' nd kn (knR s' nd m f K t) j).val := fun j e => by
   cases hk' : knR s' nd m f K t j with
   | false =>
     have hK : K j = false := by
      cases hk : K j with
      | false => rfl
      | true => rw [knR_mono hk] at hk'; cases hk'
     rw [knW_old (.inl hk'), knW_old (.inl hk'), knU_ne e, knW_old (.inl hK)]
   | true =>
     cases hk : K j with
     | true =>
       rw [knW_old (.inr hk), knU_ne e]
       cases hkn : kn j with
       | true => rw [knW_old (.inr hkn), knW_old (.inr hkn)]
       | false => rw [knW_new hk hkn, knW_new hk' hkn]
     | false =>
       have hkn : kn j = false := by
        cases hkn : kn j with
        | false => rfl
        | true => rw [hmono j hkn] at hk; cases hk
       rw [knW_new hk' hk, knW_new hk' hkn, hsam.vlN]
  refine ⟨by have := hwy.sl; omega, by omega, by have := hwy.ln; unfold maxLen; omega, ⟨hgr.same fun k => ⟨(hsam k).1.symm, (hsam k).2.symm⟩, ?_, ?_, ?_, fun k hk hsk hK => ?_, fun k hk hsk => ?_⟩, fun hv => ⟨q2, by omega, by omega, fun _ _ => rfl, fun j hj => ?_, by omega⟩, fun hv => ⟨fun _ _ => rfl, fun j hj => ?_, by omega⟩⟩
  ·exact Int.natCast_nonneg _
  ·exact Int.ofNat_lt.2 ht
  ·have hnt : nat (t : Int) = t := by unfold nat; omega
   rw [hnt, knU_slot, htb.1]
   have : ((f + 1 : Nat) : Int) = (f : Int) + 1 := by omega
   omega
  ·have hnt : nat (t : Int) = t := by unfold nat; omega
   rw [hnt, knU_slot, knU_slot, htb.1] at hsk
   have e : k ≠ i := fun e => by subst e; omega
   rw [hsam.vlN, knU_ne e]
   cases hkn : kn k with
   | true => rw [knW_old (.inr hkn)]; exact hkv k hk (by omega) hkn
   | false => exact knW_new hK hkn
  ·rw [knU_slot] at hsk
   have e : k ≠ i := fun e => by subst e; omega
   rw [knU_ne e]
   cases hkn : kn k with
   | true => rw [knW_old (.inr hkn)]; exact hev k hk hsk
   | false =>
     cases hK : K k with
     | true => rw [knW_new hK hkn]; exact vlN_end hsk
     | false => rw [knW_old (.inl hK)]; exact hev k hk hsk
  ·by_cases e : j = i
   ·subst e; rw [if_pos rfl, if_pos hv, knU_self, knW_old (.inr hself), knU_self]
   ·rw [if_neg e, hold j e, knU_ne e]
  ·by_cases e : j = i
   ·subst e; rw [knW_old (.inr hself), knU_self, knU_self, if_neg (by omega)]
   ·rw [hold j e, knU_ne e]
 ·have eg : posW s' (nd i) g = s'.nmd := posW_end hge
  have hkr : knR s' nd m (f + 1) kn i = knF s' nd m f kn i s'.nmd := by rw [knR_succ, if_neg (by rw [h1]; simpa using h2)]
  rw [eg, hkr]
  refine ⟨by rw [knU_self, vlN_step hs], fun j _ => rfl, fun j _ => ?_⟩
  by_cases e : j = i
  ·subst e; rw [knU_self, knW_new knF_self h1, vlN_step hs]
  ·rw [knU_ne e]
theorem val_ok : ∀ f, FnSpecF Try.prog 62 _ _ (valF f)
 | 0 => by
   rintro o x ⟨_, _, _, _, hV⟩
   exfalso
   have h1 := hV.fu
   have h2 := (hV.gr.wy (nat x.1) (by have := hV.i1; have := hV.i0; unfold nat; omega)).2
   omega
 | f + 1 => val_step (val_ok f)
end Abs
end Go.Proofs.Ytdfdjlijghjdaaa

namespace Go.Proofs.Ytdfdjlijghjdaaa
namespace Abs
open Go Go.RowKit
def adW : SpecF adO [.own 0 0, .agg ndCells] := ⟨fun (_, (m, te), (n, el), _) (_, x, _) => n <= 6000 /\ (ndOf x).box.len <= maxLen /\ m = n /\ ∀ k, k < n -> te k = ixD (ndOf (el k)) k, adF.res, adF.after⟩
theorem addW_ok : FnSpecJ Try.prog 32 _ _ adW := by
 rintro ⟨g, ⟨m, te⟩, ⟨n, el⟩, d⟩ x ⟨h1, h2, h3, ht⟩
 have h3 : m = n := h3
 subst h3
 have ht : ∀ k, k < m -> te k = ixD (ndOf (el k)) k := ht
 refine (add_ok (g, (m, fun k => ixD (ndOf (el k)) k), (m, el), d) x ⟨h1, h2, rfl, rfl⟩).weakenH rfl fun C w i q hr => ?_
 have key : ∀ q, BRel C w q (.tab (.sym m) 7 (fun k => encL kyCells (te k))) -> BRel C w q (.tab (.sym m) 7 (fun k => encL kyCells (ixD (ndOf (el k)) k))) := fun q hr => by
  cases q with
  | nil => exact hr.elim
  | «at» b c n =>
    obtain ⟨es, ck, vs, h1, h2, h3⟩ := hr
    refine ⟨es, ck, vs, h1, h2, fun k hk => ?_⟩
    have h4 := h3 k hk
    change RelL C w (encL kyCells (te k)) (vs k) /\ okL (encL kyCells (te k)) = true /\ _ at h4
    rw [ht k hk] at h4
    exact h4
 match i with
 | 0 => exact hr
 | 1 => exact key q hr
 | 2 => exact hr
 | i + 3 => exact hr
def alK (s : Sys) (nd : Nat -> Nd) (n : Nat) : Nat -> Nat -> Bool
 | 0 => fun _ => false
 | i + 1 => knR s nd n 49 (alK s nd n i) i
theorem alK_zero (s : Sys) (nd : Nat -> Nd) (n : Nat) : alK s nd n 0 = fun _ => false := rfl
theorem alK_succ (s : Sys) (nd : Nat -> Nd) (n i : Nat) : alK s nd n (i + 1) = knR s nd n 49 (alK s nd n i) i := rfl
attribute [irreducible] alK
theorem alK_mono {s : Sys} {nd : Nat -> Nd} {n i k : Nat} (h : alK s nd n i k = true) : alK s nd n (i + 1) k = true := by rw [alK_succ]; exact knR_mono h
theorem alK_all {s : Sys} {nd : Nat -> Nd} {n : Nat} : ∀ {i k : Nat}, k < i -> (nd k).slot ≠ s.nld -> alK s nd n i k = true
 | 0, k, h, _ => by omega
 | i + 1, k, h, hs => by
   by_cases e : k = i
   ·subst e; rw [alK_succ]; exact knR_self hs
   ·exact alK_mono (alK_all (by omega) hs)
@[irreducible] def grN (s : Sys) : Nat := (exG s (exN s)).1
@[irreducible] def grV (s : Sys) (k : Nat) : Nd := ⟨((exG s (exN s)).2 k).slot, ((exG s (exN s)).2 k).box, vlN s ((exG s (exN s)).2 k)⟩
@[simp] theorem ndOf_adV (sl : Int) (s : Sys) (x y : Int) (b : Bx) (v : Int) : ndOf (sl, (b.len, fun k => ((adV s x y b).lo k, (adV s x y b).hi k, ())), v, ()) = Nd.mk sl (adV s x y b) v := by
 have := ndOf_gen sl (adV s x y b) v
 rwa [adV_len] at this
theorem nxD_eq (s : Sys) (y : Nd) (k : Nat) : nxD s y k = Nd.mk (y.slot + 1) (adV s y.slot k y.box) 0 := by unfold nxD; rfl
theorem adE_ge {nd : Nat -> Nd} {n : Nat} {x : Nd} {k : Nat} (h : n <= k) : adE nd n x k = x := by unfold adE; rw [if_neg (by omega)]
theorem adN_nil (nd : Nat -> Nd) (x : Nd) : adN nd 0 x = 1 := by
 refine adN_no ?_
 cases h : fdB nd x.slot x.box 0 with
 | false => rfl
 | true => have := fdB_iff.1 h; omega
theorem knW_sam (s : Sys) (nd : Nat -> Nd) (kn kn' : Nat -> Bool) : SamN (knW s nd kn kn') nd := fun k => ⟨knW_slot _ _ _ _ _, knW_box _ _ _ _ _⟩
theorem knW_eta (s : Sys) (nd : Nat -> Nd) (kn kn' : Nat -> Bool) : (fun k => Nd.mk (nd k).slot (nd k).box (knW s nd kn kn' k).val) = knW s nd kn kn' := by
 funext k
 have := nd_eta (knW s nd kn kn' k)
 rwa [knW_slot, knW_box] at this
theorem grV_slot (s : Sys) (k : Nat) : (grV s k).slot = ((exG s (exN s)).2 k).slot := by unfold grV; simp
theorem grV_box (s : Sys) (k : Nat) : (grV s k).box = ((exG s (exN s)).2 k).box := by unfold grV; simp
theorem grV_val (s : Sys) (k : Nat) : (grV s k).val = vlN s ((exG s (exN s)).2 k) := by unfold grV; simp
noncomputable def SYk0 : Sums := ⟨SYd2.one, (62, mkSumT _ _ (valF 49)) :: (32, mkSumJ _ _ adW) :: SYd2.two, SYd2.lo, SYd2.eqs, SYd2.its, SYd2.imm⟩
theorem SYk0_ok : SumsOK Try.prog SYk0 := (SYd2_ok.addTwo Try.func32 (by kernel_rfl) (by kernel_rfl) (mkSumJ_ok addW_ok)).addTwo Try.func62 (by kernel_rfl) (by kernel_rfl) (mkSumT_ok (val_ok 49))
def exN1 : SpecN [sysSh] := ⟨fun (s, _) => SysMax (sysOf s) /\ exE (sysOf s) = 0, fun _ => .tup [.own 2 0, .si .i64 0],
 fun (s, _) => [.dead, .tab (.sym (grN (sysOf s))) 7 (fun k => ixL (grV (sysOf s) k) k), .cells 64 (grL (sysOf s) 4 1), .dead, .row 31 3 (.sym (grN (sysOf s))) (fun k => ndL (grV (sysOf s) k))]⟩
def exS2 : Spec [sysSh] := ⟨fun (s, _) => SysMax (sysOf s) /\ exE (sysOf s) ≠ 0, fun (s, _) => .tup [.v (.pointer none), .si .i64 (exE (sysOf s))]⟩
noncomputable def cellI (hp : Heap) (o : Nat) : Nat := match getB hp o with | .cells _ l => nat (intOf (getL l 0)) | _ => 0
@[irreducible] def gN (P : Gs) : Nat := P.1
@[irreducible] def gD (P : Gs) : Nat -> Nd := P.2
theorem gN_eq (P : Gs) : gN P = P.1 := by unfold gN; rfl
theorem gD_eq (P : Gs) : gD P = P.2 := by unfold gD; rfl
@[reducible] def tabG (P : Gs) : Blk := .tab (.sym (gN P)) 7 (fun k => ixL (gD P k) k)
@[reducible] def rowG (P : Gs) : Blk := .row 31 3 (.sym (gN P)) (fun k => ndL (gD P k))
noncomputable def exI : DatL [sysSh] -> Anns := fun (s, _) => [
 (2097152 + 5, [(20, 31 + 131072, 261)], unA),
 (7, [], fun fr hp => ⟨Nat, fun i => ⟨frI [.k 8, .t 1, .k 18, .t 40] fr, setB (setB (setB hp 5 (.cells 3 [.si .i64 (icast i)])) 1 (tabG (exG (sysOf s) i))) 4 (rowG (exG (sysOf s) i))⟩,
  Nat × Sys, fun i => (i, sysOf s), fun (i, s) => (∀ j, j < i -> j < gN (exG s j)) /\ ∀ j, j <= i -> gN (exG s j) <= 5000, fun i => nsub 5001 i⟩),
 (10, [], fun fr hp => ⟨Nat, fun j => ⟨frI [.k 8, .t 1, .k 18, .t 17, .k 1, .t 15] fr,
   setB (setB hp 1 (tabG (fkG (sysOf s) (gD (exG (sysOf s) (cellI hp 5)) (cellI hp 5)) (exG (sysOf s) (cellI hp 5)) (posW (sysOf s) (gD (exG (sysOf s) (cellI hp 5)) (cellI hp 5)) j))))
    4 (rowG (fkG (sysOf s) (gD (exG (sysOf s) (cellI hp 5)) (cellI hp 5)) (exG (sysOf s) (cellI hp 5)) (posW (sysOf s) (gD (exG (sysOf s) (cellI hp 5)) (cellI hp 5)) j)))⟩,
  Nat × Nat, fun j => (j, wyN (sysOf s) (gD (exG (sysOf s) (cellI hp 5)) (cellI hp 5))), fun (j, n) => j <= n, fun j => j⟩),
 (20, [], fun fr hp => ⟨Nat, fun i => ⟨frI [.k 11, .t 1, .k 67, .s (.si .i64 (icast i)), .t 6] fr,
   setB (setB hp 6 (.row 4 1 (.sym (grN (sysOf s))) (fun k => [.sb (alK (sysOf s) (gD (exG (sysOf s) (exN (sysOf s)))) (grN (sysOf s)) i k)]))) 4 (.row 31 3 (.sym (grN (sysOf s))) (fun k => ndL (knW (sysOf s) (gD (exG (sysOf s) (exN (sysOf s)))) (fun _ => false) (alK (sysOf s) (gD (exG (sysOf s) (exN (sysOf s)))) (grN (sysOf s)) i) k)))⟩,
  Nat × Nat, fun i => (i, grN (sysOf s)), fun (i, n) => i <= n, fun i => nsub (grN (sysOf s)) i⟩)]
set_option maxHeartbeats 4000000 in
set_option maxRecDepth 100000 in
theorem exp_ok : FnSpecN Try.prog 42 _ exN1 := by
 refine FnSpecN.of SYk0_ok mixed (U := 0) (I := exI) Try.func42 rfl (by kernel_rfl) rfl rfl (by decide +kernel) ?_
 rintro ⟨s, ⟨⟩⟩ ⟨hm, he⟩
 obtain ⟨s, rfl⟩ := sys_ex s
 unfold FnSat
 conv => arg 2; reduce
 simp [exN1, checkS, keyS, adF, adW, insS, wyI, valF, cloneBS, unA, unitA, encH, encB, ElEq, aliveB, goneB, getB, maxRow, IntItems, IntItem, ownIn, ownIn.ownInL, fnEq, and_assoc]
 simp only [gN_eq, gD_eq]
 have hm : SysMax s := by rwa [sysOf_D] at hm
 have he : exE s = 0 := by rwa [sysOf_D] at he
 obtain ⟨hc, hn5⟩ := exE_0.1 he
 obtain ⟨p1, p2, p3, p4, p5, p6⟩ := hm
 have hm : SysMax s := ⟨p1, p2, p3, p4, p5, p6⟩
 have c1 := checkB_iff.1 hc
 refine ⟨p1, p2, p3, p4, p5, p6, hc, fun _ => ⟨by omega, p2, ⟨0, ?_⟩, fun g hg1 hg2 => ⟨fun hlt => ?_, fun hge => ?_⟩⟩⟩
 ·rw [exG_zero, adN_nil]
  refine ⟨rfl, fun j _ => ?_, rfl, fun j _ => ?_, rfl, fun j hj => by omega, fun j hj => ?_⟩
  ·rw [adE_ge (Nat.zero_le _)]; exact ⟨rfl, rfl, rfl, rfl, rfl, rfl, rfl⟩
  ·rw [adE_ge (Nat.zero_le _)]; exact ⟨rfl, rfl, rfl, rfl⟩
  ·obtain rfl : j = 0 := by omega
   rw [exG_zero]; show 1 <= 5000; omega
 ·have ok := exG_ok hc hg1
  have hy := ok.nd g hlt
  have h5 := hg2 g (Nat.le_refl _)
  have e0 : fkG s ((exG s g).2 g) (exG s g) (posW s ((exG s g).2 g) 0) = exG s g := by rw [pos_zero (F := fkG s ((exG s g).2 g) (exG s g)) (fun k _ hw => fkG_no hw), fkG_zero]
  rw [e0]
  refine ⟨hlt, hm, hy.wy hc, rfl, fun j _ => ⟨rfl, rfl, rfl, rfl, rfl, rfl, rfl⟩, rfl, fun j _ => ⟨rfl, rfl, rfl, rfl⟩, fun q hq => ⟨fun hql => ?_, fun hqe => ?_⟩⟩
  ·obtain ⟨q1, q2, q3⟩ := wyM_spec hql
   have e1 : fkG s ((exG s g).2 g) (exG s g) (posW s ((exG s g).2 g) (q + 1)) = adG (fkG s ((exG s g).2 g) (exG s g) (posW s ((exG s g).2 g) q)) (nxD s ((exG s g).2 g) (wyM s ((exG s g).2 g) q)) := by
    rw [pos_succ (F := fkG s ((exG s g).2 g) (exG s g)) (fun k _ hw => fkG_no hw) hql, fkG_yes (wyP_iff.2 ⟨q1, q3⟩), posW_lt hql]
   have hle := fkG_le (s := s) (y := (exG s g).2 g) (P := exG s g) (posW s ((exG s g).2 g) q)
   have hpl := posW_le (s := s) (y := (exG s g).2 g) q
   have hkp : (fkG s ((exG s g).2 g) (exG s g) (posW s ((exG s g).2 g) q)).2 g = (exG s g).2 g := fkG_keep hlt _
   rw [hkp, e1, adG_1, adG_2, nxD_eq]
   have h0 := hy.s0
   have h1 := hy.s1
   have h2 := hy.ln
   refine ⟨by omega, by omega, by omega, by omega, by unfold maxLen; omega, rfl, fun j _ => ⟨rfl, rfl, rfl, rfl, rfl, rfl, rfl⟩, rfl, fun j _ => ⟨rfl, rfl, rfl, rfl⟩, by omega⟩
  ·have e1 : fkG s ((exG s g).2 g) (exG s g) (posW s ((exG s g).2 g) q) = exG s (g + 1) := by rw [posW_end hqe, exG_succ]
   rw [e1]
   have hn6 : (exG s (g + 1)).1 <= 5000 := by
    rcases Nat.lt_or_ge 5000 (exG s (g + 1)).1 with h6 | h6
    ·exfalso
     have : exN s = g + 1 := exN_at (by omega) (fun j hj => ⟨by
      by_cases e : j = g
      ·subst e; exact hlt
      ·exact hg1 j (by omega), hg2 j (by omega)⟩) (fun _ => .inr h6)
     rw [this] at hn5; omega
    ·exact h6
   refine ⟨by omega, fun _ => ⟨by omega, by omega, g + 1, rfl, fun j _ => ⟨rfl, rfl, rfl, rfl, rfl, rfl, rfl⟩, rfl, fun j _ => ⟨rfl, rfl, rfl, rfl⟩, by omega, fun j hj => ?_, fun j hj => ?_, by omega⟩⟩
   ·by_cases e : j = g
    ·subst e; exact hlt
    ·exact hg1 j (by omega)
   ·by_cases e : j = g + 1
    ·subst e; exact hn6
    ·exact hg2 j (by omega)
 ·have ok := exG_ok hc hg1
  have h5 := hg2 g (Nat.le_refl _)
  have hgn : g = (exG s g).1 := by have := ok.i0; omega
  have hN : exN s = g := exN_at (by omega) (fun j hj => ⟨hg1 j hj, hg2 j (by omega)⟩) (fun _ => .inl hge)
  have hgr : grN s = g := by unfold grN; rw [hN]; exact hgn.symm
  have hfin : ∀ k, (grV s k).slot = ((exG s g).2 k).slot /\ (grV s k).box = ((exG s g).2 k).box /\ (grV s k).val = vlN s ((exG s g).2 k) := fun k => by rw [grV_slot, grV_box, grV_val, hN]; exact ⟨rfl, rfl, rfl⟩
  rw [hN, hgr, <- hgn]
  simp only [knW_eta]
  have kP : ∀ P : Gs, g = P.1 -> ExOK s g P -> ExOK s P.1 P := fun P h k => h ▸ k
  have kQ : ∀ n, g = n -> GrOK s n (exG s g).2 -> GrOK s g (exG s g).2 := fun n h k => by rw [h] at k ⊢; exact k
  have hG : GrOK s g (exG s g).2 := kQ _ hgn (ExOK.gr hc hm h5 (kP _ hgn ok))
  have hnd : ∀ k, k < g -> NdOK s ((exG s g).2 k) := fun k hk => ok.nd k (by omega)
  generalize (exG s g).2 = nd at *
  have ek : ∀ q, (fun k => alK s nd g q k) = alK s nd g q := fun q => rfl
  simp only [ek, true_and, and_true, implies_true, alK_zero]
  have hkn : ∀ q k, (knW s nd (fun _ => false) (alK s nd g q) k).val = if alK s nd g q k = true then vlN s (nd k) else (nd k).val := fun q k => by
   cases hk : alK s nd g q k with
   | true => rw [knW_new hk rfl, if_pos rfl]
   | false => rw [knW_old (.inl hk)]; simp
  have hv0 : ∀ k, k < g -> (nd k).slot = s.nld -> vlN s (nd k) = (nd k).val := fun k hk h => by rw [vlN_end h, (hnd k hk).v0]
  refine ⟨by omega, ⟨0, rfl, fun j _ => ?_, fun j _ => by rw [alK_zero], by omega⟩, fun i hi => ⟨fun hil => ⟨?_, by omega, by omega, i + 1, by omega, fun j hj => ?_, fun j hj => ?_, by omega, by omega⟩, fun hie => ⟨fun j hj => ?_, fun j hj => ?_⟩⟩⟩
  ·rw [hkn, alK_zero]; simp
  ·have hsam := knW_sam s nd (fun _ => false) (alK s nd g i)
   have hn : nat (i : Int) = i := by unfold nat; omega
   refine ⟨hG.same fun k => ⟨(hsam k).1.symm, (hsam k).2.symm⟩, by omega, by omega, ?_, fun k hk _ hK => ?_, fun k hk hsk => ?_⟩
   ·have := (hnd i hil).s0
    rw [knW_slot, hn]; omega
   ·rw [hsam.vlN, hkn, if_pos hK]
   ·rw [knW_slot] at hsk
    rw [hkn]
    split
    ·exact vlN_end hsk
    ·exact (hnd k hk).v0
  ·have hsam := knW_sam s nd (fun _ => false) (alK s nd g i)
   have hks : knR s (knW s nd (fun _ => false) (alK s nd g i)) g 49 (alK s nd g i) i = alK s nd g (i + 1) := by rw [knR_same hsam, alK_succ]
   rw [hks, hkn]
   cases hK' : alK s nd g (i + 1) j with
   | false =>
     have hK : alK s nd g i j = false := by
      cases h : alK s nd g i j with
      | false => rfl
      | true => rw [alK_mono h] at hK'; cases hK'
     rw [knW_old (.inl hK'), hkn, hK]
   | true =>
     cases hK : alK s nd g i j with
     | true => rw [knW_old (.inr hK), hkn, hK]
     | false => rw [knW_new hK' hK, hsam.vlN]; simp
  ·have hsam := knW_sam s nd (fun _ => false) (alK s nd g i)
   rw [knR_same hsam, alK_succ]
  ·obtain ⟨e1, e2, -⟩ := hfin j
   rw [e1, e2]
   exact ⟨rfl, rfl, rfl, rfl, rfl, rfl, rfl⟩
  ·obtain ⟨e1, e2, e3⟩ := hfin j
   rw [e1, e2, e3, hkn]
   refine ⟨rfl, rfl, rfl, ?_⟩
   split
   ·rfl
   ·rename_i h
    by_cases hs : (nd j).slot = s.nld
    ·exact (hv0 j hj hs).symm
    ·exact absurd (alK_all (by omega) hs) h
end Abs
end Go.Proofs.Ytdfdjlijghjdaaa

namespace Go.Proofs.Ytdfdjlijghjdaaa
namespace Abs
open Go Go.RowKit
theorem exE_2 {s : Sys} (h : checkB s = false) : exE s = 2 := by unfold exE; simp [h]
theorem exE_6 {s : Sys} (h : checkB s = true) (h6 : 5000 < (exG s (exN s)).1) : exE s = 6 := by unfold exE; rw [if_pos h, if_neg (by omega)]
set_option maxHeartbeats 4000000 in
set_option maxRecDepth 100000 in
theorem exe_ok : FnSpec Try.prog 42 _ exS2 := by
 refine FnSpec.of SYk0_ok mixed (U := 0) (I := exI) Try.func42 rfl (by kernel_rfl) rfl rfl (by decide +kernel) ?_
 rintro ⟨s, ⟨⟩⟩ ⟨hm, he⟩
 obtain ⟨s, rfl⟩ := sys_ex s
 unfold FnSat
 conv => arg 2; reduce
 simp [exS2, checkS, keyS, adF, adW, insS, wyI, valF, cloneBS, unA, unitA, encH, encB, ElEq, aliveB, goneB, getB, maxRow, IntItems, IntItem, ownIn, ownIn.ownInL, fnEq, and_assoc]
 simp only [gN_eq, gD_eq]
 have hm : SysMax s := by rwa [sysOf_D] at hm
 have he : exE s ≠ 0 := by rwa [sysOf_D] at he
 obtain ⟨p1, p2, p3, p4, p5, p6⟩ := hm
 have hm : SysMax s := ⟨p1, p2, p3, p4, p5, p6⟩
 refine ⟨p1, p2, p3, p4, p5, p6, fun hc => ?_, fun hc => ?_⟩
 ·rw [exE_2 hc, hc, errA_false]
 have c1 := checkB_iff.1 hc
 refine ⟨by omega, p2, ⟨0, ?_⟩, fun g hg1 hg2 => ⟨fun hlt => ?_, fun hge => ?_⟩⟩
 ·rw [exG_zero, adN_nil]
  refine ⟨rfl, fun j _ => ?_, rfl, fun j _ => ?_, rfl, fun j hj => by omega, fun j hj => ?_⟩
  ·rw [adE_ge (Nat.zero_le _)]; exact ⟨rfl, rfl, rfl, rfl, rfl, rfl, rfl⟩
  ·rw [adE_ge (Nat.zero_le _)]; exact ⟨rfl, rfl, rfl, rfl⟩
  ·obtain rfl : j = 0 := by omega
   rw [exG_zero]; show 1 <= 5000; omega
 ·have ok := exG_ok hc hg1
  have hy := ok.nd g hlt
  have h5 := hg2 g (Nat.le_refl _)
  have e0 : fkG s ((exG s g).2 g) (exG s g) (posW s ((exG s g).2 g) 0) = exG s g := by rw [pos_zero (F := fkG s ((exG s g).2 g) (exG s g)) (fun k _ hw => fkG_no hw), fkG_zero]
  rw [e0]
  refine ⟨hlt, hm, hy.wy hc, rfl, fun j _ => ⟨rfl, rfl, rfl, rfl, rfl, rfl, rfl⟩, rfl, fun j _ => ⟨rfl, rfl, rfl, rfl⟩, fun q hq => ⟨fun hql => ?_, fun hqe => ?_⟩⟩
  ·obtain ⟨q1, q2, q3⟩ := wyM_spec hql
   have e1 : fkG s ((exG s g).2 g) (exG s g) (posW s ((exG s g).2 g) (q + 1)) = adG (fkG s ((exG s g).2 g) (exG s g) (posW s ((exG s g).2 g) q)) (nxD s ((exG s g).2 g) (wyM s ((exG s g).2 g) q)) := by
    rw [pos_succ (F := fkG s ((exG s g).2 g) (exG s g)) (fun k _ hw => fkG_no hw) hql, fkG_yes (wyP_iff.2 ⟨q1, q3⟩), posW_lt hql]
   have hle := fkG_le (s := s) (y := (exG s g).2 g) (P := exG s g) (posW s ((exG s g).2 g) q)
   have hpl := posW_le (s := s) (y := (exG s g).2 g) q
   have hkp : (fkG s ((exG s g).2 g) (exG s g) (posW s ((exG s g).2 g) q)).2 g = (exG s g).2 g := fkG_keep hlt _
   rw [hkp, e1, adG_1, adG_2, nxD_eq]
   have h0 := hy.s0
   have h1 := hy.s1
   have h2 := hy.ln
   refine ⟨by omega, by omega, by omega, by omega, by unfold maxLen; omega, rfl, fun j _ => ⟨rfl, rfl, rfl, rfl, rfl, rfl, rfl⟩, rfl, fun j _ => ⟨rfl, rfl, rfl, rfl⟩, by omega⟩
  ·have e1 : fkG s ((exG s g).2 g) (exG s g) (posW s ((exG s g).2 g) q) = exG s (g + 1) := by rw [posW_end hqe, exG_succ]
   rw [e1]
   have hup : ∀ j, j < g + 1 -> j < (exG s j).1 := fun j hj => by
    by_cases e : j = g
    ·subst e; exact hlt
    ·exact hg1 j (by omega)
   have hgl : (exG s g).1 <= 5000 := hg2 g (Nat.le_refl _)
   refine ⟨fun h6 => ?_, fun h6 => ⟨by omega, by omega, g + 1, rfl, fun j _ => ⟨rfl, rfl, rfl, rfl, rfl, rfl, rfl⟩, rfl, fun j _ => ⟨rfl, rfl, rfl, rfl⟩, by omega, hup, fun j hj => ?_, by omega⟩⟩
   ·have h6 : 5000 < (exG s (g + 1)).1 := by omega
    have hN : exN s = g + 1 := exN_at (by omega) (fun j hj => ⟨hup j hj, hg2 j (by omega)⟩) (fun _ => .inr h6)
    exact (exE_6 hc (by rw [hN]; exact h6)).symm
   ·by_cases e : j = g + 1
    ·subst e; omega
    ·exact hg2 j (by omega)
 ·exfalso
  have h5 := hg2 g (Nat.le_refl _)
  have hN : exN s = g := exN_at (by have ok := exG_ok hc hg1; have := ok.i0; omega) (fun j hj => ⟨hg1 j hj, hg2 j (by omega)⟩) (fun _ => .inl hge)
  exact he (exE_0.2 ⟨hc, by rw [hN]; exact h5⟩)
end Abs
end Go.Proofs.Ytdfdjlijghjdaaa

namespace Go.Proofs.Ytdfdjlijghjdaaa
namespace Abs
open Go Go.RowKit
structure GrV (s : Sys) : Prop where
 ch : checkB s = true
 n1 : 1 <= grN s
 n5 : grN s <= 5000
 p0 : (grV s 0).slot = 0
 b0 : (grV s 0).box = s.st
 s0 : ∀ k, k < grN s -> 0 <= (grV s k).slot
 s1 : ∀ k, k < grN s -> (grV s k).slot <= s.nld
 ln : ∀ k, k < grN s -> (grV s k).box.len = s.lim.len
 ins : ∀ k, k < grN s -> inV s.lim (grV s k).box = true
 cl : ∀ k, k < grN s -> ∀ m, m < s.nmd -> wyP s (grV s k) m = true -> fdB (grV s) ((grV s k).slot + 1) (adV s (grV s k).slot m (grV s k).box) (grN s) = true
theorem grV_sam (s : Sys) : SamN (grV s) (exG s (exN s)).2 := fun k => ⟨grV_slot s k, grV_box s k⟩
theorem grV_vl (s : Sys) (k : Nat) : (grV s k).val = vlN s (grV s k) := by rw [grV_val, (grV_sam s).vlN]
theorem exN_lt {s : Sys} {j : Nat} (hj : j < exN s) : j < (exG s j).1 /\ (exG s j).1 <= 5000 := by
 unfold exN at hj
 have := firstN_not _ _ _ hj
 simp at this
 omega
theorem exN_5 (s : Sys) : exN s <= 5001 := by unfold exN; exact firstN_le _ _
theorem exN_is {s : Sys} (h : exN s < 5001) : (exG s (exN s)).1 <= exN s \/ 5000 < (exG s (exN s)).1 := by
 have h0 := h
 unfold exN at h
 have := firstN_is _ _ h
 simp at this
 have e : firstN (fun i => decide ((exG s i).1 <= i) || decide (5000 < (exG s i).1)) 5001 = exN s := by unfold exN; rfl
 rw [e] at this
 exact this
theorem exN_all {s : Sys} (h : exE s = 0) : ExOK s (exG s (exN s)).1 (exG s (exN s)) /\ (exG s (exN s)).1 <= 5000 /\ exN s = (exG s (exN s)).1 := by
 obtain ⟨hc, h5⟩ := exE_0.1 h
 have ok := exG_ok (s := s) hc (i := exN s) fun j hj => (exN_lt hj).1
 have h1 := ok.i0
 have h2 := exN_5 s
 have e : exN s = (exG s (exN s)).1 := by
  rcases Nat.lt_or_ge (exN s) 5001 with h3 | h3
  ·have := exN_is h3; omega
  ·omega
 have key : ∀ P : Gs, ∀ i, i = P.1 -> ExOK s i P -> ExOK s P.1 P := fun P i h k => h ▸ k
 exact ⟨key _ _ e ok, h5, e⟩
theorem grN_eq (s : Sys) : grN s = (exG s (exN s)).1 := by rw [grN]
theorem grV_ok {s : Sys} (h : exE s = 0) : GrV s := by
 have hc := (exE_0.1 h).1
 obtain ⟨ok, h5, -⟩ := exN_all h
 have hn := grN_eq s
 have hs := grV_sam s
 refine ⟨hc, by rw [hn]; exact ok.p1, by omega, ?_, ?_, fun k hk => ?_, fun k hk => ?_, fun k hk => ?_, fun k hk => ?_, fun k hk m hm hw => ?_⟩
 ·rw [(hs 0).1, ok.st]; simp
 ·rw [(hs 0).2, ok.st]; simp
 ·rw [(hs k).1]; exact (ok.nd k (by omega)).s0
 ·rw [(hs k).1]; exact (ok.nd k (by omega)).s1
 ·rw [(hs k).2]; exact (ok.nd k (by omega)).ln
 ·rw [(hs k).2]; exact (ok.nd k (by omega)).ins
 ·rw [hs.wyP] at hw
  rw [hs.fdB, (hs k).1, (hs k).2, hn]
  exact ok.cl k (by omega) m hm hw
theorem GrV.wy {s : Sys} (g : GrV s) {k : Nat} (hk : k < grN s) : WyOK s (grV s k) := ⟨g.ch, g.s0 k hk, g.ln k hk, near_wide (near_of_in g.ch (g.ln k hk) (g.ins k hk))⟩
@[irreducible] def nxI (s : Sys) (a k : Nat) : Nat := fdN (grV s) ((grV s a).slot + 1) (adV s (grV s a).slot k (grV s a).box) (grN s)
theorem nxI_ok {s : Sys} (g : GrV s) {a k : Nat} (ha : a < grN s) (hk : k < s.nmd) (hw : wyP s (grV s a) k = true) :
  nxI s a k < grN s /\ (grV s (nxI s a k)).slot = (grV s a).slot + 1 /\ eqBx (grV s (nxI s a k)).box (adV s (grV s a).slot k (grV s a).box) = true /\ vlN s (grV s (nxI s a k)) = vlN s (nxD s (grV s a) k) := by
 have hfd := g.cl a ha k hk hw
 have ht := fdB_iff.1 hfd
 have hky : kyE (grV s (nxI s a k)) ((grV s a).slot + 1) (adV s (grV s a).slot k (grV s a).box) = true := by
  unfold nxI fdN at *
  exact firstN_is (fun j => kyE (grV s j) ((grV s a).slot + 1) (adV s (grV s a).slot k (grV s a).box)) (grN s) ht
 have hI : nxI s a k < grN s := by unfold nxI; exact ht
 rw [kyE_box (g.ln _ hI) (by rw [adV_len]; exact g.ln a ha) (checkB_iff.1 g.ch).2.1] at hky
 have hb : (grV s (nxI s a k)).slot = (grV s a).slot + 1 /\ eqBx (grV s (nxI s a k)).box (adV s (grV s a).slot k (grV s a).box) = true := by simpa using hky
 exact ⟨hI, hb.1, hb.2, vlN_congr g.ch (by rw [nxD_slot]; exact hb.1) (g.ln _ hI) (by rw [nxD_box]; exact hb.2)⟩
theorem nxI_fdV {s : Sys} (g : GrV s) {a k : Nat} (ha : a < grN s) (hk : k < s.nmd) (hw : wyP s (grV s a) k = true) :
  fdV (grV s) ((grV s a).slot + 1) (adV s (grV s a).slot k (grV s a).box) (grN s) = (nxI s a k : Int) := by
 unfold nxI
 exact fdV_of (g.cl a ha k hk hw)
@[irreducible] def plP (s : Sys) (y : Nd) (k : Nat) : Bool := wyP s y k && decide (vlN s (nxD s y k) < 1125899906842624) && decide ((s.md k).cost + vlN s (nxD s y k) = vlN s y)
theorem plP_iff {s : Sys} {y : Nd} {k : Nat} : plP s y k = true ↔ wyP s y k = true /\ vlN s (nxD s y k) < 1125899906842624 /\ (s.md k).cost + vlN s (nxD s y k) = vlN s y := by unfold plP; simp [and_assoc]
@[irreducible] def plK (s : Sys) (y : Nd) : Nat := firstN (plP s y) s.nmd
theorem mnF_ex {p : Nat -> Bool} {c v : Nat -> Int} : ∀ {n : Nat}, mnF p c v n < 1125899906842624 -> ∃ k, k < n /\ p k = true /\ v k < 1125899906842624 /\ c k + v k = mnF p c v n
 | 0, h => by rw [mnF_zero] at h; omega
 | n + 1, h => by
   rw [mnF_succ] at h ⊢
   split at h
   ·rename_i hp
    rw [if_pos hp]
    rcases Int.lt_or_le (c n + v n) (mnF p c v n) with h1 | h1
    ·exact ⟨n, by omega, hp.1, hp.2, by omega⟩
    ·have h2 : mnF p c v n < 1125899906842624 := by omega
     obtain ⟨k, a, b, c', d⟩ := mnF_ex h2
     exact ⟨k, by omega, b, c', by omega⟩
   ·rename_i hp
    rw [if_neg hp]
    obtain ⟨k, a, b, c', d⟩ := mnF_ex h
    exact ⟨k, by omega, b, c', d⟩
theorem mnF_min {p : Nat -> Bool} {c v : Nat -> Int} : ∀ {n k : Nat}, k < n -> p k = true -> v k < 1125899906842624 -> mnF p c v n <= c k + v k
 | 0, k, h, _, _ => by omega
 | n + 1, k, h, hp, hv => by
   rw [mnF_succ]
   by_cases e : k = n
   ·subst e; rw [if_pos ⟨hp, hv⟩]; omega
   ·have := mnF_min (n := n) (k := k) (by omega) hp hv (c := c)
    split <;> omega
theorem plK_ok {s : Sys} {y : Nd} (h : y.slot < s.nld) (hv : vlN s y < 1125899906842624) : plK s y < s.nmd /\ plP s y (plK s y) = true /\ ∀ j, j < plK s y -> plP s y j = false := by
 have : ∃ k, k < s.nmd /\ plP s y k = true := by
  rw [vlN_step h] at hv
  obtain ⟨k, a, b, c, d⟩ := mnF_ex hv
  exact ⟨k, a, plP_iff.2 ⟨b, c, by rw [vlN_step h]; exact d⟩⟩
 have ha := anyN_iff.2 this
 unfold anyN at ha
 have hlt : firstN (plP s y) s.nmd < s.nmd := by simpa using ha
 unfold plK
 exact ⟨hlt, firstN_is _ _ hlt, fun j hj => firstN_not _ _ j hj⟩
theorem plK_at {s : Sys} {y : Nd} {k : Nat} (hk : k < s.nmd) (h : plP s y k = true) (h0 : ∀ j, j < k -> plP s y j = false) : plK s y = k := by
 unfold plK
 exact firstN_uniq (by omega) h0 fun _ => h
theorem way_of {s : Sys} {y : Nd} {k : Nat} (hk : k < s.nmd) (hw : wyP s y k = true) : cntP (wyB s y) k < wyN s y /\ wyM s y (cntP (wyB s y) k) = k := by
 obtain ⟨h1, h2⟩ := wyP_iff.1 hw
 refine ⟨by rw [wyN_cnt h1]; exact cntP_lt hk h2, ?_⟩
 unfold wyM
 exact selN_at hk h2
theorem way_no {s : Sys} {y : Nd} {p : Nat -> Bool} {j : Nat} (hp : ∀ k, p k = true -> wyP s y k = true) (h : ∀ i, i < j -> p (wyM s y i) = false) {k : Nat} (hk : k < s.nmd) (hc : cntP (wyB s y) k < j) : p k = false := by
 cases hb : p k with
 | false => rfl
 | true =>
   have := (way_of hk (hp k hb)).2
   have h2 := h _ hc
   rw [this, hb] at h2
   exact h2
theorem plP_wy {s : Sys} {y : Nd} (k : Nat) (h : plP s y k = true) : wyP s y k = true := (plP_iff.1 h).1
theorem plK_way {s : Sys} {y : Nd} {j : Nat} (h : ∀ i, i < j -> plP s y (wyM s y i) = false) (hj : j < wyN s y) (hp : plP s y (wyM s y j) = true) : plK s y = wyM s y j := by
 have hw := wyM_spec hj
 refine plK_at hw.2.1 hp fun k hk => ?_
 cases hb : plP s y k with
 | false => rfl
 | true =>
   have hwk := (wyP_iff.1 (plP_wy k hb)).2
   have h1 : cntP (wyB s y) k < cntP (wyB s y) (wyM s y j) := cntP_lt hk hwk
   rw [wyM_cnt hj] at h1
   rw [<- hb]; exact way_no plP_wy h (by omega) h1
theorem plK_none {s : Sys} {y : Nd} (hs : y.slot < s.nld) (hv : vlN s y < 1125899906842624) {j : Nat} (hj : wyN s y <= j) (h : ∀ i, i < j -> plP s y (wyM s y i) = false) : False := by
 obtain ⟨k1, k2, -⟩ := plK_ok hs hv
 have := way_of k1 (plP_wy _ k2)
 have h3 := way_no plP_wy h k1 (by omega)
 rw [k2] at h3; cases h3
def plX (s : Sys) : Nat -> Nat
 | 0 => 0
 | t + 1 => nxI s (plX s t) (plK s (grV s (plX s t)))
theorem plX_zero (s : Sys) : plX s 0 = 0 := rfl
theorem plX_succ (s : Sys) (t : Nat) : plX s (t + 1) = nxI s (plX s t) (plK s (grV s (plX s t))) := rfl
attribute [irreducible] plX
@[irreducible] def plF (s : Sys) (t : Nat) : Nat := plK s (grV s (plX s t))
theorem plF_eq (s : Sys) (t : Nat) : plF s t = plK s (grV s (plX s t)) := by unfold plF; rfl
theorem plX_ok {s : Sys} (g : GrV s) (hv : vlN s (grV s 0) < 1125899906842624) : ∀ {t : Nat}, t <= s.nld -> plX s t < grN s /\ (grV s (plX s t)).slot = t /\ vlN s (grV s (plX s t)) < 1125899906842624
 | 0, _ => by rw [plX_zero]; exact ⟨by have := g.n1; omega, by rw [g.p0]; rfl, hv⟩
 | t + 1, h => by
   obtain ⟨h1, h2, h3⟩ := plX_ok g hv (t := t) (by omega)
   obtain ⟨k1, k2, -⟩ := plK_ok (s := s) (y := grV s (plX s t)) (by omega) h3
   obtain ⟨w1, w2, w3⟩ := plP_iff.1 k2
   obtain ⟨n1, n2, n3, n4⟩ := nxI_ok g h1 k1 w1
   rw [plX_succ]
   exact ⟨n1, by rw [n2, h2]; omega, by rw [n4]; exact w2⟩
@[irreducible] def plV (s : Sys) : Int := vlN s (grV s 0)
theorem plV_eq (s : Sys) : plV s = vlN s (grV s 0) := by rw [plV]
@[irreducible] def plnE (s : Sys) : Int := if exE s = 0 then (if plV s = 1125899906842624 then 18 else 0) else exE s
@[irreducible] def plnC (s : Sys) : Int := if plnE s = 0 then plV s else 0
@[irreducible] def plnN (s : Sys) : Nat := if plnE s = 0 then s.nld else 0
theorem plnE_bad {s : Sys} (h : exE s ≠ 0) : plnE s = exE s := by unfold plnE; rw [if_neg h]
theorem plnE_18 {s : Sys} (h : exE s = 0) (hv : plV s = 1125899906842624) : plnE s = 18 := by unfold plnE; rw [if_pos h, if_pos hv]
theorem plnE_ok {s : Sys} (h : exE s = 0) (hv : plV s ≠ 1125899906842624) : plnE s = 0 := by unfold plnE; rw [if_pos h, if_neg hv]
theorem plnC_ok {s : Sys} (h : plnE s = 0) : plnC s = plV s := by unfold plnC; rw [if_pos h]
theorem plnC_bad {s : Sys} (h : plnE s ≠ 0) : plnC s = 0 := by unfold plnC; rw [if_neg h]
theorem plnN_ok {s : Sys} (h : plnE s = 0) : plnN s = s.nld := by unfold plnN; rw [if_pos h]
theorem plnN_bad {s : Sys} (h : plnE s ≠ 0) : plnN s = 0 := by unfold plnN; rw [if_neg h]
end Abs
end Go.Proofs.Ytdfdjlijghjdaaa

namespace Go.Proofs.Ytdfdjlijghjdaaa
namespace Abs
open Go Go.RowKit
def pplS : Spec [sysSh] := ⟨fun (s, _) => SysMax (sysOf s), fun (s, _) => .tup [.slc (.sym (plnN (sysOf s))) 1 (fun k => [.si .i64 (icast (plF (sysOf s) k))]), .si .i64 (plnC (sysOf s)), .si .i64 (plnE (sysOf s))]⟩
def pplS0 : Spec [sysSh] := ⟨fun (s, _) => SysMax (sysOf s) /\ exE (sysOf s) = 0, pplS.res⟩
def pplS2 : Spec [sysSh] := ⟨fun (s, _) => SysMax (sysOf s) /\ exE (sysOf s) ≠ 0, pplS.res⟩
noncomputable def SYn0 : Sums := ⟨(42, mkSumN _ exN1) :: SYd2.one, SYd2.two, SYd2.lo, SYd2.eqs, SYd2.its, SYd2.imm⟩
theorem SYn0_ok : SumsOK Try.prog SYn0 := (SYd2_ok.add Try.func42 (by kernel_rfl) (by kernel_rfl) (mkSumN_ok exp_ok))
noncomputable def SYn2 : Sums := ⟨(42, mkSum _ exS2) :: SYd2.one, SYd2.two, SYd2.lo, SYd2.eqs, SYd2.its, SYd2.imm⟩
theorem SYn2_ok : SumsOK Try.prog SYn2 := (SYd2_ok.cons Try.func42 (by kernel_rfl) (by kernel_rfl) exe_ok)
set_option maxRecDepth 100000 in
theorem plan_ok2 : FnSpec Try.prog 16 _ pplS2 := by
 refine FnSpec.of SYn2_ok mixed (U := 0) (I := fun _ => []) Try.func16 rfl (by kernel_rfl) rfl rfl (by decide +kernel) ?_
 rintro ⟨s, ⟨⟩⟩ ⟨hm, he⟩
 obtain ⟨s, rfl⟩ := sys_ex s
 unfold FnSat
 conv => arg 2; reduce
 simp [pplS, pplS2, exS2, ElEq, aliveB, goneB, getB, and_assoc]
 have hm : SysMax s := by rwa [sysOf_D] at hm
 have he : exE s ≠ 0 := by rwa [sysOf_D] at he
 have e := plnE_bad he
 exact ⟨hm, he, fun _ => ⟨plnN_bad (by rw [e]; exact he), (plnC_bad (by rw [e]; exact he)).symm, e.symm⟩, he⟩
noncomputable def lenB (hp : Heap) (o : Nat) : Nat := match getB hp o with | .row _ _ n _ => n.val | _ => 0
noncomputable def planI : DatL [sysSh] -> Anns := fun (s, _) => [
 (8, [(8, 3, 0)], fun fr hp => ⟨Nat, fun t => ⟨frI [.k 9, .t 77] fr, setB (setB hp 7 (.cells 31 (ndL (grV (sysOf s) (plX (sysOf s) t))))) 9 (.row 3 1 (.sym t) (fun k => [.si .i64 (icast (plF (sysOf s) k))]))⟩,
  Nat × Nat, fun t => (t, (sysOf s).nld), fun (t, n) => t <= n, fun t => nsub (sysOf s).nld t⟩),
 (10, [], fun fr hp => ⟨Nat, fun j => ⟨frI [.k 9, .t 28, .k 1, .t 48] fr, hp⟩,
  Nat × Nat × (Nat -> Bool), fun j => (j, wyN (sysOf s) (grV (sysOf s) (plX (sysOf s) (lenB hp 9))), fun j => plP (sysOf s) (grV (sysOf s) (plX (sysOf s) (lenB hp 9))) (wyM (sysOf s) (grV (sysOf s) (plX (sysOf s) (lenB hp 9))) j)), fun (j, n, p) => j <= n /\ ∀ k, k < j -> p k = false, fun j => j⟩)]
set_option maxHeartbeats 4000000 in
set_option maxRecDepth 100000 in
theorem plan_ok0 : FnSpec Try.prog 16 _ pplS0 := by
 refine FnSpec.of SYn0_ok mixed (U := 0) (I := planI) Try.func16 rfl (by kernel_rfl) rfl rfl (by decide +kernel) ?_
 rintro ⟨s, ⟨⟩⟩ ⟨hm, he⟩
 obtain ⟨s, rfl⟩ := sys_ex s
 unfold FnSat
 conv => arg 2; reduce
 simp [pplS, pplS0, exN1, keyS, wyI, unA, unitA, encH, encB, ElEq, aliveB, goneB, getB, maxRow, IntItems, IntItem, ownIn, ownIn.ownInL, and_assoc]
 have hm : SysMax s := by rwa [sysOf_D] at hm
 have he : exE s = 0 := by rwa [sysOf_D] at he
 have gr := grV_ok he
 have hc := gr.ch
 have c1 := checkB_iff.1 hc
 have n1 := gr.n1
 have e0 : (grV s 0).val = plV s := by rw [grV_vl, plV_eq]
 have vb := fun k => vlN_bnd hc (grV s k)
 rw [e0]
 refine ⟨hm, he, by omega, fun hv => ?_, fun hv => ⟨⟨0, by rw [plX_zero], by rw [plX_zero], fun j _ => by rw [plX_zero]; exact ⟨rfl, rfl⟩, by rw [plX_zero, e0], rfl, fun j => Nat.zero_le _, Nat.zero_le _⟩, fun g hg => ?_⟩⟩
 ·have e := plnE_18 he hv
  exact ⟨plnN_bad (by rw [e]; decide), (plnC_bad (by rw [e]; decide)).symm, e.symm⟩
 have hv' : plV s < 1125899906842624 := by
  have := vb 0
  rw [<- plV_eq] at this
  omega
 obtain ⟨x1, x2, x3⟩ := plX_ok gr (by rw [<- plV_eq]; exact hv') hg
 have hvl := grV_vl s (plX s g)
 have ee := plnE_ok he hv
 refine ⟨fun hlt => ⟨hm, gr.wy x1, fun j hj hp => ⟨fun hlt2 => ?_, fun hge2 => ?_⟩⟩, fun hge => ⟨by omega, ?_, (plnC_ok ee).symm, ee.symm⟩⟩
 ·obtain ⟨q1, q2, q3⟩ := wyM_spec hlt2
  have hwp : wyP s (grV s (plX s g)) (wyM s (grV s (plX s g)) j) = true := wyP_iff.2 ⟨q1, q3⟩
  have hfd := nxI_fdV gr x1 q2 hwp
  obtain ⟨n1, n2, n3, n4⟩ := nxI_ok gr x1 q2 hwp
  have q4 := modeB_iff.1 (c1.2.2.2.2.2.2.2.2.2.2 _ q2)
  have hnv := grV_vl s (nxI s (plX s g) (wyM s (grV s (plX s g)) j))
  have hnb := vb (nxI s (plX s g) (wyM s (grV s (plX s g)) j))
  rw [hfd, Int.toNat_natCast, hnv, hvl, n4]
  rw [n4] at hnb
  have hln := gr.ln _ x1
  have hpl : (vlN s (nxD s (grV s (plX s g)) (wyM s (grV s (plX s g)) j)) < 1125899906842624 /\ (s.md (wyM s (grV s (plX s g)) j)).cost + vlN s (nxD s (grV s (plX s g)) (wyM s (grV s (plX s g)) j)) = vlN s (grV s (plX s g))) ↔ plP s (grV s (plX s g)) (wyM s (grV s (plX s g)) j) = true := by rw [plP_iff, hwp]; simp
  refine ⟨by omega, by omega, by unfold maxLen; omega, by omega, by omega, fun _ => q2, fun _ => by omega, fun a b => ⟨by omega, g + 1, ?_, ?_, fun i _ => ?_, ?_, rfl, fun i hi => ?_, by omega, by omega⟩, fun h => ⟨by omega, fun k hk => ?_⟩⟩
  ·rw [plX_succ, plK_way hp hlt2 (hpl.1 ⟨a, b⟩)]
  ·rw [plX_succ, plK_way hp hlt2 (hpl.1 ⟨a, b⟩)]
  ·rw [plX_succ, plK_way hp hlt2 (hpl.1 ⟨a, b⟩)]; exact ⟨rfl, rfl⟩
  ·rw [plX_succ, plK_way hp hlt2 (hpl.1 ⟨a, b⟩), hnv, n4]
  ·refine app_one hi (fun _ => rfl) (fun e => ?_)
   subst e
   rw [plF_eq, plK_way hp hlt2 (hpl.1 ⟨a, b⟩)]; rfl
  ·by_cases e : k = j
   ·subst e
    cases hb : plP s (grV s (plX s g)) (wyM s (grV s (plX s g)) k) with
    | false => rfl
    | true => have h2 := hpl.2 hb; exact absurd h2.2 (h h2.1)
   ·exact hp k (by omega)
 ·exact (plK_none hlt x3 hge2 hp).elim
 ·rw [plnN_ok ee]; omega
end Abs
end Go.Proofs.Ytdfdjlijghjdaaa

namespace Go.Proofs.Ytdfdjlijghjdaaa
namespace Abs
open Go Go.RowKit
theorem pplan_ok : FnSpec Try.prog 16 _ pplS := fun x hx => by
 by_cases h : exE (sysOf x.1) = 0
 ·exact plan_ok0 x ⟨hx, h⟩
 ·exact plan_ok2 x ⟨hx, h⟩
end Abs
end Go.Proofs.Ytdfdjlijghjdaaa

namespace Go.Proofs.Ytdfdjlijghjdaaa
namespace Abs
open Go Go.RowKit
theorem fkG_end {s : Sys} {y : Nd} {P : Gs} (h : y.slot = s.nld) : ∀ k, fkG s y P k = P
 | 0 => fkG_zero ..
 | k + 1 => by
   rw [fkG_no, fkG_end h k]
   cases hw : wyP s y k with
   | false => rfl
   | true => have := (wyP_iff.1 hw).1; omega
end Abs
end Go.Proofs.Ytdfdjlijghjdaaa

namespace Go.Proofs.Ytdfdjlijghjdaaa
namespace Abs
open Go Go.RowKit
end Abs
end Go.Proofs.Ytdfdjlijghjdaaa

namespace Go.Proofs.Ytdfdjlijghjdaaa
namespace Abs
open Go Go.RowKit
noncomputable def SYr0 : Sums := ⟨SYf0.one, SYf0.two, SYf0.lo, SYf0.eqs, SYf0.its, SYf0.imm⟩
theorem SYr0_ok : SumsOK Try.prog SYr0 := SYf0_ok
end Abs
end Go.Proofs.Ytdfdjlijghjdaaa

namespace Go.Proofs.Ytdfdjlijghjdaaa
namespace Abs
open Go Go.RowKit
@[irreducible] def fewB (s : Sys) : Bool := shortB s && (decide (s.nmd < 2) || (decide (s.nld <= 6) && decide (s.nmd <= 3)) || !(checkB s))
theorem fewB_iff {s : Sys} : fewB s = true ↔ shortB s = true /\ (s.nmd < 2 \/ (s.nld <= 6 /\ s.nmd <= 3) \/ checkB s = false) := by unfold fewB; simp [or_assoc]
def fewS11 : Spec [sysSh] := ⟨fun _ => True, fun (s, _) => .sb (fewB (sysOf s))⟩
set_option maxRecDepth 100000 in
theorem few_ok : FnSpec Try.prog 14 _ fewS11 := by
 refine FnSpec.of SYr0_ok mixed (U := 0) (I := fun _ => []) Try.func14 rfl (by kernel_rfl) rfl rfl (by decide +kernel) ?_
 rintro ⟨s, ⟨⟩⟩ hpre
 clear hpre
 obtain ⟨s, rfl⟩ := sys_ex s
 unfold FnSat
 conv => arg 2; reduce
 simp [fewS11, shortS, checkS, and_assoc]
 have hmx := short_max (s := s)
 refine ⟨fun a b c => ⟨a, b, c⟩, fun a b => ⟨a, b⟩, fun a _ _ => hmx a, fun a b c => ⟨a, b, ?_⟩, ?_⟩
 ·by_cases h : (s.nld : Int) <= 6
  ·exact .inr (c h)
  ·exact .inl (by omega)
 ·have e1 : decide ((s.nmd : Int) < 2) = decide (s.nmd < 2) := by rw [Bool.eq_iff_iff, decide_eq_true_iff, decide_eq_true_iff]; omega
  have e2 : decide ((s.nld : Int) <= 6) = decide (s.nld <= 6) := by rw [Bool.eq_iff_iff, decide_eq_true_iff, decide_eq_true_iff]; omega
  have e3 : decide ((s.nmd : Int) <= 3) = decide (s.nmd <= 3) := by rw [Bool.eq_iff_iff, decide_eq_true_iff, decide_eq_true_iff]; omega
  rw [e1, e2, e3]
  unfold fewB
  cases h : checkB s with
  | true =>
    rw [show errA true = 0 from errA_true]
    simp
  | false =>
    rw [errA_false]
    simp
noncomputable def SYs0 : Sums := ⟨(16, mkSum _ pplS) :: (14, mkSum _ fewS11) :: SYr0.one, SYr0.two, SYr0.lo, SYr0.eqs, SYr0.its, SYr0.imm⟩
theorem SYs0_ok : SumsOK Try.prog SYs0 := ((SYr0_ok.cons Try.func14 (by kernel_rfl) (by kernel_rfl) few_ok).cons Try.func16 (by kernel_rfl) (by kernel_rfl) pplan_ok)
end Abs
end Go.Proofs.Ytdfdjlijghjdaaa

namespace Go.Proofs.Ytdfdjlijghjdaaa
namespace Abs
open Go Go.RowKit
@[irreducible] def pyN (s : Sys) (p : Vx) (g : Nat) : Nd := ⟨(g : Int), bxV s p g, 0⟩
@[simp] theorem pyN_slot (s : Sys) (p : Vx) (g : Nat) : (pyN s p g).slot = g := by unfold pyN; simp
@[simp] theorem pyN_box (s : Sys) (p : Vx) (g : Nat) : (pyN s p g).box = bxV s p g := by unfold pyN; simp
theorem pyN_next {s : Sys} {p : Vx} {g : Nat} (h : 0 <= p.at g) : nxD s (pyN s p g) (p.at g).toNat = pyN s p (g + 1) := by
 rw [nxD_eq, pyN_slot, pyN_box]
 unfold pyN
 rw [bxV_succ, show (((p.at g).toNat : Nat) : Int) = p.at g by omega]
 simp
theorem sf_at {s : Sys} {p : Vx} (h : sfB s p = true) : checkB s = true /\ p.len = s.nld /\ ∀ k, k < s.nld -> 0 <= p.at k /\ p.at k < s.nmd := by
 have h3 := plE_iff.1 (sfB_iff.1 h).1
 exact ⟨h3.1, h3.2.1, fun k hk => h3.2.2 k (by omega)⟩
theorem sf_wy {s : Sys} {p : Vx} (h : sfB s p = true) {g : Nat} (hg : g < s.nld) : wyP s (pyN s p g) (p.at g).toNat = true := by
 obtain ⟨hc, hl, hp⟩ := sf_at h
 have hpg := hp g hg
 refine wyP_iff.2 ⟨by rw [pyN_slot]; omega, ?_⟩
 unfold wyB
 rw [pyN_slot, pyN_box, show (((p.at g).toNat : Nat) : Int) = p.at g by omega, <- bxV_succ]
 exact safe_in h (by omega)
theorem sf_low {s : Sys} {p : Vx} (h : sfB s p = true) : ∀ {m g : Nat}, g + m = s.nld -> costN s p g + vlN s (pyN s p g) <= costN s p s.nld
 | 0, g, e => by
   obtain rfl : g = s.nld := by omega
   rw [vlN_end (by rw [pyN_slot])]; omega
 | m + 1, g, e => by
   obtain ⟨hc, hl, hp⟩ := sf_at h
   have ih := sf_low h (m := m) (g := g + 1) (by omega)
   have hpg := hp g (by omega)
   have hb := costN_b (sfB_iff.1 h).1 (k := s.nld) (by omega)
   have hb1 := costN_b (sfB_iff.1 h).1 (k := g + 1) (by omega)
   have c := (checkB_iff.1 hc).2.2.2.2.1
   rw [costN_succ] at ih hb1
   have hv : vlN s (nxD s (pyN s p g) (p.at g).toNat) < 1125899906842624 := by rw [pyN_next hpg.1]; omega
   have hmin := mnF_min (c := fun k => (s.md k).cost) (v := fun k => vlN s (nxD s (pyN s p g) k)) (n := s.nmd) (k := (p.at g).toNat) (by omega) (sf_wy h (g := g) (by omega)) hv
   rw [<- vlN_step (by rw [pyN_slot]; omega), pyN_next hpg.1] at hmin
   omega
theorem plV_py {s : Sys} (he : exE s = 0) (p : Vx) : plV s = vlN s (pyN s p 0) := by
 have gr := grV_ok he
 rw [plV_eq]
 refine vlN_congr gr.ch (by rw [gr.p0, pyN_slot]; rfl) (gr.ln 0 (by have := gr.n1; omega)) ?_
 rw [gr.b0, pyN_box, bxV_zero]; exact eqBx_self _
theorem sf_least {s : Sys} {p : Vx} (he : exE s = 0) (h : sfB s p = true) : plV s <= costN s p s.nld /\ plV s < 1125899906842624 := by
 have h1 := sf_low h (m := s.nld) (g := 0) (by omega)
 rw [costN_zero, <- plV_py he] at h1
 obtain ⟨hc, hl, hp⟩ := sf_at h
 have hb := costN_b (sfB_iff.1 h).1 (k := s.nld) (by omega)
 have c := (checkB_iff.1 hc).2.2.2.2.1
 omega
@[irreducible] def plW (s : Sys) : Vx := ⟨plnN s, fun k => (plF s k : Int)⟩
theorem plW_len (s : Sys) : (plW s).len = plnN s := by unfold plW; simp
theorem plW_at (s : Sys) (k : Nat) : (plW s).at k = plF s k := by unfold plW; simp
theorem eqBx_tr {a b c : Bx} (h1 : eqBx a b = true) (h2 : eqBx b c = true) : eqBx a c = true := by
 obtain ⟨l1, e1⟩ := eqBx_iff.1 h1
 obtain ⟨l2, e2⟩ := eqBx_iff.1 h2
 exact eqBx_iff.2 ⟨by omega, fun k hk => by have := e1 k hk; have := e2 k (by omega); omega⟩
theorem plW_ok {s : Sys} (he : exE s = 0) (hv : plV s < 1125899906842624) : ∀ {t : Nat}, t <= s.nld ->
  eqBx (grV s (plX s t)).box (bxV s (plW s) t) = true /\ costN s (plW s) t + vlN s (grV s (plX s t)) = plV s
 | 0, _ => by
   rw [plX_zero, bxV_zero, costN_zero, (grV_ok he).b0, plV_eq]
   exact ⟨eqBx_self _, by omega⟩
 | t + 1, ht => by
   have gr := grV_ok he
   obtain ⟨h1, h2⟩ := plW_ok he hv (t := t) (by omega)
   obtain ⟨x1, x2, x3⟩ := plX_ok gr (by rw [<- plV_eq]; exact hv) (t := t) (by omega)
   obtain ⟨k1, k2, -⟩ := plK_ok (s := s) (y := grV s (plX s t)) (by omega) x3
   obtain ⟨w1, w2, w3⟩ := plP_iff.1 k2
   have hA : costN s (plW s) t + (s.md (plK s (grV s (plX s t)))).cost + vlN s (nxD s (grV s (plX s t)) (plK s (grV s (plX s t)))) = plV s := by rw [Int.add_assoc, w3]; exact h2
   obtain ⟨n1, n2, n3, n4⟩ := nxI_ok gr x1 k1 w1
   rw [plX_succ, bxV_succ, costN_succ, plW_at, plF_eq, Int.toNat_natCast, n4]
   refine ⟨eqBx_tr n3 ?_, hA⟩
   have := adV_congr (y := grV s (plX s t)) (y' := pyN s (plW s) t) gr.ch k1 (by rw [x2, pyN_slot]) (gr.ln _ x1) (by rw [pyN_box]; exact h1)
   rwa [pyN_slot, pyN_box] at this
theorem plW_safe {s : Sys} (he : exE s = 0) (hv : plV s < 1125899906842624) : plE s (plW s) = 0 /\ sfB s (plW s) = true /\ csV s (plW s) = plV s := by
 have gr := grV_ok he
 have ee := plnE_ok he (by omega)
 have hl : (plW s).len = s.nld := by rw [plW_len, plnN_ok ee]
 have hp : plE s (plW s) = 0 := plE_iff.2 ⟨gr.ch, hl, fun k hk => by
  obtain ⟨x1, x2, x3⟩ := plX_ok gr (by rw [<- plV_eq]; exact hv) (t := k) (by omega)
  have := (plK_ok (s := s) (y := grV s (plX s k)) (by omega) x3).1
  rw [plW_at, plF_eq]; omega⟩
 refine ⟨hp, sfB_iff.2 ⟨hp, ?_⟩, ?_⟩
 ·unfold sfN
  refine firstN_uniq (Nat.le_refl _) (fun j hj => ?_) (fun h => absurd h (Nat.lt_irrefl _))
  obtain ⟨x1, x2, x3⟩ := plX_ok gr (by rw [<- plV_eq]; exact hv) (t := j + 1) (by omega)
  have := (plW_ok he hv (t := j + 1) (by omega)).1
  rw [<- inV_congr this, gr.ins _ x1]; rfl
 ·have h2 := (plW_ok he hv (t := s.nld) (Nat.le_refl _)).2
  obtain ⟨x1, x2, x3⟩ := plX_ok gr (by rw [<- plV_eq]; exact hv) (t := s.nld) (Nat.le_refl _)
  rw [vlN_end x2] at h2
  unfold csV
  rw [if_pos hp, hl]; omega
end Abs
end Go.Proofs.Ytdfdjlijghjdaaa

namespace Go.Proofs.Ytdfdjlijghjdaaa
namespace Abs
open Go Go.RowKit
def wtN (q : Nat) : Nat -> Nat
 | 0 => 1
 | m + 1 => 1 + q * wtN q m
theorem wtN_zero (q : Nat) : wtN q 0 = 1 := rfl
theorem wtN_succ (q m : Nat) : wtN q (m + 1) = 1 + q * wtN q m := rfl
theorem wtN_one : ∀ m, wtN 1 m = m + 1
 | 0 => rfl
 | m + 1 => by rw [wtN_succ, wtN_one m]; omega
theorem wtN_few {q m : Nat} (h : (q = 1 /\ m <= 48) \/ (m <= 6 /\ q <= 3)) : wtN q m <= 5000 := by
 rcases h with ⟨rfl, h⟩ | ⟨h1, h2⟩
 ·rw [wtN_one]; omega
 ·have : (q = 0 \/ q = 1 \/ q = 2 \/ q = 3) /\ (m = 0 \/ m = 1 \/ m = 2 \/ m = 3 \/ m = 4 \/ m = 5 \/ m = 6) := by omega
  obtain ⟨rfl | rfl | rfl | rfl, rfl | rfl | rfl | rfl | rfl | rfl | rfl⟩ := this <;> decide
theorem wtN_pos (q : Nat) : ∀ m, 1 <= wtN q m
 | 0 => Nat.le_refl _
 | m + 1 => by rw [wtN_succ]; omega
@[irreducible] def wtY (s : Sys) (y : Nd) : Nat := wtN s.nmd ((s.nld : Int) - y.slot).toNat
theorem wtY_pos (s : Sys) (y : Nd) : 1 <= wtY s y := by unfold wtY; exact wtN_pos _ _
def SW (s : Sys) (nd : Nat -> Nd) : Nat -> Nat
 | 0 => 0
 | n + 1 => SW s nd n + wtY s (nd n)
theorem SW_zero (s : Sys) (nd : Nat -> Nd) : SW s nd 0 = 0 := rfl
theorem SW_succ (s : Sys) (nd : Nat -> Nd) (n : Nat) : SW s nd (n + 1) = SW s nd n + wtY s (nd n) := rfl
attribute [irreducible] SW wtN
theorem SW_congr {s : Sys} {nd nd' : Nat -> Nd} : ∀ {n : Nat}, (∀ k, k < n -> nd k = nd' k) -> SW s nd n = SW s nd' n
 | 0, _ => by rw [SW_zero, SW_zero]
 | n + 1, h => by rw [SW_succ, SW_succ, SW_congr (n := n) (fun k hk => h k (by omega)), h n (by omega)]
theorem SW_ge {s : Sys} {nd : Nat -> Nd} {i : Nat} : ∀ {n : Nat}, i <= n -> SW s nd i + (n - i) <= SW s nd n
 | 0, h => by obtain rfl : i = 0 := by omega
              omega
 | n + 1, h => by
   by_cases e : i = n + 1
   ·subst e; omega
   ·have ih := SW_ge (s := s) (nd := nd) (i := i) (n := n) (by omega)
    have := wtY_pos s (nd n)
    rw [SW_succ]; omega
theorem adG_SW (s : Sys) (P : Gs) (x : Nd) : SW s (adG P x).2 (adG P x).1 <= SW s P.2 P.1 + wtY s x := by
 have hc : SW s (adG P x).2 P.1 = SW s P.2 P.1 := SW_congr fun k hk => adG_keep hk
 cases hd : fdB P.2 x.slot x.box P.1 with
 | true =>
   have e : (adG P x).1 = P.1 := by rw [adG_1]; exact adN_yes hd
   rw [e, hc]; omega
 | false =>
   have e : (adG P x).1 = P.1 + 1 := by rw [adG_1]; exact adN_no hd
   have e2 : (adG P x).2 P.1 = x := by rw [adG_2, adE_at]
   rw [e, SW_succ, hc, e2]; exact Nat.le_refl _
theorem fkG_SW {s : Sys} {y : Nd} {P : Gs} (w : Nat) (hw : wtN s.nmd ((s.nld : Int) - (y.slot + 1)).toNat = w) : ∀ k, SW s (fkG s y P k).2 (fkG s y P k).1 <= SW s P.2 P.1 + k * w
 | 0 => by rw [fkG_zero]; omega
 | k + 1 => by
   have ih := fkG_SW (P := P) w hw k
   have e : (k + 1) * w = k * w + w := Nat.succ_mul k w
   cases h : wyP s y k with
   | false => rw [fkG_no h]; omega
   | true =>
     rw [fkG_yes h]
     have h1 := adG_SW s (fkG s y P k) (nxD s y k)
     have h2 : wtY s (nxD s y k) = w := by unfold wtY; rw [nxD_slot]; exact hw
     omega
theorem exG_SW {s : Sys} (hc : checkB s = true) : ∀ {i : Nat}, (∀ j, j < i -> j < (exG s j).1) -> i + SW s (exG s i).2 (exG s i).1 <= wtN s.nmd s.nld + SW s (exG s i).2 i
 | 0, _ => by
   rw [exG_zero]
   show 0 + SW s (fun _ => ⟨0, s.st, 0⟩) 1 <= _
   rw [SW_succ, SW_zero]
   have : wtY s (Nd.mk 0 s.st 0) = wtN s.nmd s.nld := by unfold wtY; rw [Nd.slot_mk, show ((s.nld : Int) - 0).toNat = s.nld by omega]
   rw [this]; omega
 | i + 1, h => by
   have ih := exG_SW hc (i := i) fun j hj => h j (by omega)
   have hi := h i (by omega)
   have ok := exG_ok hc (i := i) fun j hj => h j (by omega)
   have hy := ok.nd i hi
   rw [exG_succ]
   by_cases hs : ((exG s i).2 i).slot = s.nld
   ·rw [fkG_end hs]
    have hw : wtY s ((exG s i).2 i) = 1 := by unfold wtY; rw [hs, show ((s.nld : Int) - s.nld).toNat = 0 by omega, wtN_zero]
    rw [SW_succ, hw]; omega
   ·have hs1 := hy.s1
    have h1 := fkG_SW (s := s) (y := (exG s i).2 i) (P := exG s i) _ rfl s.nmd
    have hw : wtY s ((exG s i).2 i) = 1 + s.nmd * wtN s.nmd ((s.nld : Int) - (((exG s i).2 i).slot + 1)).toNat := by
     unfold wtY
     rw [<- wtN_succ]
     congr 1
     omega
    have hk : (fkG s ((exG s i).2 i) (exG s i) s.nmd).2 i = (exG s i).2 i := fkG_keep hi _
    have hk2 : SW s (fkG s ((exG s i).2 i) (exG s i) s.nmd).2 i = SW s (exG s i).2 i := SW_congr fun k hk => fkG_keep (by omega) _
    rw [SW_succ, hk, hk2, hw]
    omega
theorem exE_few {s : Sys} (hc : checkB s = true) (hf : s.nmd < 2 \/ (s.nld <= 6 /\ s.nmd <= 3)) : exE s = 0 := by
 refine exE_0.2 ⟨hc, ?_⟩
 have c := checkB_iff.1 hc
 have h1 := exG_SW hc (i := exN s) fun j hj => (exN_lt hj).1
 have h2 := SW_ge (s := s) (nd := (exG s (exN s)).2) (exG_ok hc (i := exN s) fun j hj => (exN_lt hj).1).i0
 have h3 := wtN_few (q := s.nmd) (m := s.nld) (by omega)
 omega
theorem few_ex {s : Sys} (hf : fewB s = true) (hc : checkB s = true) : SysMax s /\ exE s = 0 /\ (s.nmd < 2 \/ (s.nld <= 6 /\ s.nmd <= 3)) := by
 obtain ⟨h1, h2⟩ := fewB_iff.1 hf
 have h3 : s.nmd < 2 \/ (s.nld <= 6 /\ s.nmd <= 3) := by
  rcases h2 with h | h | h
  ·exact .inl h
  ·exact .inr h
  ·rw [hc] at h; cases h
 exact ⟨short_max h1, exE_few hc h3, h3⟩
end Abs
end Go.Proofs.Ytdfdjlijghjdaaa

namespace Go.Proofs.Ytdfdjlijghjdaaa
namespace Abs
open Go Go.RowKit
noncomputable def SYv0 : Sums := ⟨SYs0.one, SYs0.two, SYs0.lo, SYs0.eqs, SYs0.its, SYs0.imm⟩
theorem SYv0_ok : SumsOK Try.prog SYv0 := SYs0_ok
end Abs
end Go.Proofs.Ytdfdjlijghjdaaa

namespace Go.Proofs.Ytdfdjlijghjdaaa
namespace Abs
open Go Go.RowKit
@[irreducible] def shN (lo hi b : Int) : Int := min b ((hi - lo) / 2)
theorem shN_b {lo hi b : Int} (h : lo <= hi) (hb : 0 <= b) : 0 <= shN lo hi b /\ lo + shN lo hi b <= hi - shN lo hi b := by
 unfold shN
 omega
@[irreducible] def shF (lo hi b : Int) : Int := lo + shN lo hi b
@[irreducible] def shG (lo hi b : Int) : Int := hi - shN lo hi b
def shkS : Spec [spanSh, .int .u8] := ⟨fun (((lo : Int), (hi : Int), _), (p : Int), _) => -4294967296 <= lo /\ lo <= hi /\ hi <= 4294967296 /\ 0 <= p /\ p <= 255, fun (((lo : Int), (hi : Int), _), (p : Int), _) => .agg [.si .i64 (shF lo hi p), .si .i64 (shG lo hi p)]⟩
set_option maxRecDepth 100000 in
theorem shk_ok : FnSpec Try.prog 27 _ shkS := by
 refine FnSpec.of SYv0_ok mixed (U := 0) (I := fun _ => []) Try.func27 rfl (by kernel_rfl) rfl rfl (by decide +kernel) ?_
 rintro ⟨⟨(lo : Int), (hi : Int), ⟨⟩⟩, (p : Int), ⟨⟩⟩ hpre
 obtain ⟨p1, p2, p3, p4, p5⟩ : -4294967296 <= lo /\ lo <= hi /\ hi <= 4294967296 /\ 0 <= p /\ p <= 255 := hpre
 unfold FnSat
 conv => arg 2; reduce
 simp [shkS, and_assoc]
 have h0 : 0 <= hi - lo := by omega
 rw [Int.tdiv_eq_ediv_of_nonneg h0]
 refine ⟨by omega, by omega, by omega, by omega, by omega, by omega, by omega, by omega, by omega, by omega, ?_, ?_⟩
 ·unfold shF shN; rfl
 ·unfold shG shN; rfl
noncomputable def SYx0 : Sums := ⟨(27, mkSum _ shkS) :: SYv0.one, SYv0.two, SYv0.lo, SYv0.eqs, SYv0.its, SYv0.imm⟩
theorem SYx0_ok : SumsOK Try.prog SYx0 := (SYv0_ok.cons Try.func27 (by kernel_rfl) (by kernel_rfl) shk_ok)
@[irreducible] def nrB (a : Int) (l : Bx) : Bx := ⟨l.len, fun k => max (l.lo k - a) (-10000), fun k => min (l.hi k + a) 10000⟩
@[irreducible] def shB' (b : Int) (n : Nat) (l : Bx) : Bx := ⟨n, fun k => l.lo k + shN (l.lo k) (l.hi k) b, fun k => l.hi k - shN (l.lo k) (l.hi k) b⟩
theorem nrB_len (a : Int) (l : Bx) : (nrB a l).len = l.len := by unfold nrB; simp
theorem nrB_lo (a : Int) (l : Bx) (k : Nat) : (nrB a l).lo k = max (l.lo k - a) (-10000) := by unfold nrB; simp
theorem nrB_hi (a : Int) (l : Bx) (k : Nat) : (nrB a l).hi k = min (l.hi k + a) 10000 := by unfold nrB; simp
theorem shB_len (b : Int) (n : Nat) (l : Bx) : (shB' b n l).len = n := by unfold shB'; simp
theorem shB_lo (b : Int) (n : Nat) (l : Bx) (k : Nat) : (shB' b n l).lo k = l.lo k + shN (l.lo k) (l.hi k) b := by unfold shB'; simp
theorem shB_hi (b : Int) (n : Nat) (l : Bx) (k : Nat) : (shB' b n l).hi k = l.hi k - shN (l.lo k) (l.hi k) b := by unfold shB'; simp
@[irreducible] def nrX (s : Sys) (a b : Int) : Sys := ⟨nrB a s.lim, shB' b s.lim.len s.st, s.nmd, s.md, s.nld, fun k => shB' b (s.ld k).len (s.ld k)⟩
theorem nrX_lim (s : Sys) (a b : Int) : (nrX s a b).lim = nrB a s.lim := by unfold nrX Sys.lim; rfl
theorem nrX_st (s : Sys) (a b : Int) : (nrX s a b).st = shB' b s.lim.len s.st := by unfold nrX Sys.st; rfl
theorem nrX_nmd (s : Sys) (a b : Int) : (nrX s a b).nmd = s.nmd := by unfold nrX Sys.nmd; rfl
theorem nrX_md (s : Sys) (a b : Int) : (nrX s a b).md = s.md := by unfold nrX Sys.md; rfl
theorem nrX_nld (s : Sys) (a b : Int) : (nrX s a b).nld = s.nld := by unfold nrX Sys.nld; rfl
theorem nrX_ld (s : Sys) (a b : Int) (k : Nat) : (nrX s a b).ld k = shB' b (s.ld k).len (s.ld k) := by unfold nrX Sys.ld; rfl
theorem nrX_ck {s : Sys} {a b : Int} (hc : checkB s = true) (ha : 0 <= a) (hb : 0 <= b) : checkB (nrX s a b) = true := by
 have c := checkB_iff.1 hc
 obtain ⟨c1, c2, c3, c4, c5, c6, c7, c8, c9, c10, c11⟩ := c
 have n6 := nearV_iff.1 c6
 have n8 := nearV_iff.1 c8
 have n9 := inV_iff.1 c9
 refine checkB_iff.2 ?_
 rw [nrX_lim, nrX_st, nrX_nmd, nrX_md, nrX_nld, nrB_len, shB_len]
 refine ⟨c1, c2, c3, c4, c5, nearV_iff.2 fun k hk => ?_, rfl, nearV_iff.2 fun k hk => ?_, inV_iff.2 fun k hk => ?_, fun k hk => ?_, c11⟩
 ·rw [nrB_len] at hk
  have := n6 k hk
  rw [nrB_lo, nrB_hi]; omega
 ·rw [shB_len] at hk
  have h1 := n8 k (by omega)
  have h2 := shN_b (lo := s.st.lo k) (hi := s.st.hi k) h1.1 hb
  rw [shB_lo, shB_hi]; omega
 ·rw [shB_len] at hk
  have h1 := n8 k (by omega)
  have h2 := shN_b (lo := s.st.lo k) (hi := s.st.hi k) h1.1 hb
  have h3 := n9 k (by omega)
  rw [shB_lo, shB_hi, nrB_lo, nrB_hi]; omega
 ·obtain ⟨d1, d2⟩ := c10 k hk
  have d3 := nearV_iff.1 d2
  rw [nrX_ld, shB_len]
  refine ⟨d1, nearV_iff.2 fun j hj => ?_⟩
  rw [shB_len] at hj
  have h1 := d3 j hj
  have h2 := shN_b (lo := (s.ld k).lo j) (hi := (s.ld k).hi j) h1.1 hb
  rw [shB_lo, shB_hi]; omega
theorem nrX_plE {s : Sys} {a b : Int} (hc : checkB s = true) (ha : 0 <= a) (hb : 0 <= b) (p : Vx) : plE (nrX s a b) p = plE s p := by
 unfold plE
 rw [nrX_ck hc ha hb, hc, nrX_nld, nrX_nmd]
theorem nrX_bx {s : Sys} {a b : Int} (ha : 0 <= a) (hb : 0 <= b) {p : Vx} (hp : plE s p = 0) : ∀ {g : Nat}, g <= p.len -> ∀ k, k < s.lim.len ->
  (bxV s p g).lo k <= (bxV (nrX s a b) p g).lo k /\ (bxV (nrX s a b) p g).lo k <= (bxV (nrX s a b) p g).hi k /\ (bxV (nrX s a b) p g).hi k <= (bxV s p g).hi k := by
 have h3 := plE_iff.1 hp
 have hc := h3.1
 obtain ⟨c1, c2, c3, c4, c5, c6, c7, c8, c9, c10, c11⟩ := checkB_iff.1 hc
 intro g
 induction g with
 | zero =>
   intro _ k hk
   have h1 := nearV_iff.1 c8 k (by omega)
   have h2 := shN_b (lo := s.st.lo k) (hi := s.st.hi k) h1.1 hb
   rw [bxV_zero, bxV_zero, nrX_st, shB_lo, shB_hi]; omega
 | succ g ih =>
   intro hg k hk
   have ihg := ih (by omega)
   have hpg := h3.2.2 g (by omega)
   have hmd := c11 (p.at g).toNat (by omega)
   have hld := c10 g (by omega)
   have hld2 := nearV_iff.1 hld.2
   have hw : ∀ j, j < s.lim.len -> (s.ld g).lo j <= (shB' b (s.ld g).len (s.ld g)).lo j /\ (shB' b (s.ld g).len (s.ld g)).lo j <= (shB' b (s.ld g).len (s.ld g)).hi j /\ (shB' b (s.ld g).len (s.ld g)).hi j <= (s.ld g).hi j := fun j hj => by
    have h1 := hld2 j (by omega)
    have h2 := shN_b (lo := (s.ld g).lo j) (hi := (s.ld g).hi j) h1.1 hb
    rw [shB_lo, shB_hi]; omega
   rw [bxV_succ, bxV_succ, adV_lo, adV_lo, adV_hi, adV_hi, nrX_md, nrX_ld, Int.toNat_natCast]
   exact ⟨nxV_mono hmd c2 (fun j hj => (ihg j hj).1) (fun j hj => (hw j hj).1) hk, nxV_mono hmd c2 (fun j hj => (ihg j hj).2.1) (fun j hj => (hw j hj).2.1) hk, nxV_mono hmd c2 (fun j hj => (ihg j hj).2.2) (fun j hj => (hw j hj).2.2) hk⟩
theorem nrX_safe {s : Sys} {a b : Int} (ha : 0 <= a) (hb : 0 <= b) {p : Vx} (h : sfB s p = true) : sfB (nrX s a b) p = true := by
 have hp := (sfB_iff.1 h).1
 have h3 := plE_iff.1 hp
 obtain ⟨c1, c2, c3, c4, c5, c6, c7, c8, c9, c10, c11⟩ := checkB_iff.1 h3.1
 have n6 := nearV_iff.1 c6
 refine sfB_iff.2 ⟨by rw [nrX_plE h3.1 ha hb]; exact hp, ?_⟩
 unfold sfN
 refine firstN_uniq (Nat.le_refl _) (fun g hg => ?_) (fun h => absurd h (Nat.lt_irrefl _))
 have hin := inV_iff.1 (safe_in h (g := g + 1) (by omega))
 have : inV (nrX s a b).lim (bxV (nrX s a b) p (g + 1)) = true := inV_iff.2 fun k hk => by
  rw [bxV_len, nrX_st, shB_len] at hk
  have h1 := nrX_bx ha hb hp (g := g + 1) (by omega) k hk
  have h2 := hin k (by rw [bxV_len]; omega)
  have h4 := n6 k hk
  rw [nrX_lim, nrB_lo, nrB_hi]; omega
 rw [this]; rfl
theorem mgL_ge {l b l' b' : Bx} {x y : Int} (hxy : x <= y) : ∀ {n : Nat}, (∀ j, j < n -> b.lo j - l.lo j <= b'.lo j - l'.lo j /\ l.hi j - b.hi j <= l'.hi j - b'.hi j) -> mgL l b x n <= mgL l' b' y n
 | 0, _ => by rw [mgL_zero, mgL_zero]; exact hxy
 | n + 1, h => by
   have ih := mgL_ge hxy (n := n) fun j hj => h j (by omega)
   have := h n (by omega)
   rw [mgL_succ, mgL_succ]; omega
theorem mgL_pos {l b : Bx} {x : Int} (hx : 0 <= x) : ∀ {n : Nat}, (∀ j, j < n -> 0 <= b.lo j - l.lo j /\ 0 <= l.hi j - b.hi j) -> 0 <= mgL l b x n
 | 0, _ => by rw [mgL_zero]; exact hx
 | n + 1, h => by
   have ih := mgL_pos hx (n := n) fun j hj => h j (by omega)
   have := h n (by omega)
   rw [mgL_succ]; omega
theorem nrX_mg {s : Sys} {a b : Int} (ha : 0 <= a) (hb : 0 <= b) {p : Vx} (h : sfB s p = true) : ∀ {g : Nat}, g <= p.len + 1 -> 0 <= mgV s p g /\ mgV s p g <= mgV (nrX s a b) p g
 | 0, _ => by rw [mgV_zero, mgV_zero]; omega
 | g + 1, hg => by
   have ih := nrX_mg ha hb h (g := g) (by omega)
   have hp := (sfB_iff.1 h).1
   have h3 := plE_iff.1 hp
   obtain ⟨c1, c2, c3, c4, c5, c6, c7, c8, c9, c10, c11⟩ := checkB_iff.1 h3.1
   have n6 := nearV_iff.1 c6
   have hin := inV_iff.1 (safe_in h (g := g) (by omega))
   have hl : (bxV s p g).len = s.lim.len := by rw [bxV_len]; exact c7
   rw [mgV_succ, mgV_succ, nrX_lim, nrB_len]
   refine ⟨mgL_pos ih.1 fun j hj => ?_, mgL_ge ih.2 fun j hj => ?_⟩
   ·have := hin j (by omega); omega
   ·have h1 := nrX_bx ha hb hp (g := g) (by omega) j hj
    have h2 := hin j (by omega)
    have h4 := n6 j hj
    rw [nrB_lo, nrB_hi]; omega
theorem nrX_cost (s : Sys) (a b : Int) (p : Vx) : ∀ g, costN (nrX s a b) p g = costN s p g
 | 0 => by rw [costN_zero, costN_zero]
 | g + 1 => by rw [costN_succ, costN_succ, nrX_cost s a b p g, nrX_md]
theorem nrX_max {s : Sys} {a b : Int} (h : SysMax s) : SysMax (nrX s a b) := by
 obtain ⟨h1, h2, h3, h4, h5, h6⟩ := h
 unfold SysMax
 rw [nrX_lim, nrX_st, nrX_nmd, nrX_md, nrX_nld, nrB_len, shB_len]
 exact ⟨h1, h1, h3, h4, fun k hk => by rw [nrX_ld, shB_len]; exact h5 k hk, h6⟩
theorem nrX_plan {s : Sys} {a b : Int} (ha : 0 <= a) (hb : 0 <= b) (he : exE s = 0) (hq : s.nmd < 2 \/ (s.nld <= 6 /\ s.nmd <= 3)) (h0 : plnE s = 0) : plnE (nrX s a b) = 0 /\ plnC (nrX s a b) <= plnC s := by
 have hc := (exE_0.1 he).1
 have hv : plV s < 1125899906842624 := by
  have := vlN_bnd hc (grV s 0)
  rw [<- plV_eq] at this
  by_cases hv : plV s = 1125899906842624
  ·rw [plnE_18 he hv] at h0; cases h0
  ·omega
 obtain ⟨w1, w2, w3⟩ := plW_safe he hv
 have he' : exE (nrX s a b) = 0 := exE_few (nrX_ck hc ha hb) (by rw [nrX_nmd, nrX_nld]; exact hq)
 obtain ⟨l1, l2⟩ := sf_least he' (nrX_safe ha hb w2)
 have e0 := plnE_ok he' (Int.ne_of_lt l2)
 have hcs : csV s (plW s) = costN s (plW s) s.nld := by unfold csV; rw [if_pos w1, (sf_at w2).2.1]
 refine ⟨e0, ?_⟩
 rw [plnC_ok e0, plnC_ok h0, <- w3, hcs]
 rw [nrX_cost, nrX_nld] at l1
 exact l1
end Abs
end Go.Proofs.Ytdfdjlijghjdaaa
