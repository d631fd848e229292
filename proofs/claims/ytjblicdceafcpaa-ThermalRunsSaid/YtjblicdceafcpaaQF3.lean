/- A part of the proof: no statement of its own. -/
import Derived.Test.YtjblicdceafcpaaQF2
import Derived.WalkSpells
import Derived.Deep.LoopGhost
import Derived.KernelRfl
import Derived.ChangeKeysEq
import Derived.ProofKit
import Derived.OpenShut
import Derived.Deep.Slices
/- What a range over a function leaves as it was: blocks of cells, marks, places that its code does not write. -/
namespace Go.Proofs.Ytjblicdceafcpaa
namespace Abs
open Go Go.RowKit

section
variable {P : Program} {S : Sums} {C C' C1 C2 : Cx} {w w' w1 w2 : World} {H hp : Heap}

/-- blocks of cells lie on -/
structure CB (w w' : World) : Prop where
  size : w.heap.size ≤ w'.heap.size
  same : ∀ (k : Nat) (o : Obj), w.heap[k]? = some o → o.isCells = true → w'.heap[k]? = some o
theorem CB.refl (w : World) : CB w w := ⟨Nat.le_refl _, fun _ _ h _ => h⟩
theorem CB.trans (h : CB w w1) (k : CB w1 w2) : CB w w2 := ⟨Nat.le_trans h.size k.size, fun i o hi ho => k.same i o (h.same i o hi ho) ho⟩
theorem Quiet.cb (h : Quiet w w') : CB w w' := ⟨h.size, fun k _ hk _ => (h.keep k (Array.getElem?_eq_some_iff.1 hk).1).trans hk⟩
theorem Quiet.refl (w : World) : Quiet w w := ⟨rfl, rfl, rfl, Nat.le_refl _, fun _ _ => rfl⟩
theorem Quiet.trans (h : Quiet w w1) (k : Quiet w1 w2) : Quiet w w2 := ⟨k.os.trans h.os, k.tape.trans h.tape, k.output.trans h.output, Nat.le_trans h.size k.size, fun i hi => (k.keep i (Nat.lt_of_lt_of_le hi h.size)).trans (h.keep i hi)⟩
theorem Quiet.alloc (w : World) (o : Obj) : Quiet w (w.alloc o) := ⟨rfl, rfl, rfl, by simp, fun k hk => Below.heap_alloc w o k hk⟩
theorem CB.putObj {l : Nat} {o : Obj} (o' : Obj) (hl : w.heap[l]? = some o) (ho : o.isCells = false) : CB w (w.putObj l o') :=
  ⟨by simp, fun k ok hk hc => by
    have hne : k ≠ l := fun e => by subst e; rw [hl] at hk; injection hk with hk; subst hk; rw [ho] at hc; cases hc
    exact (World.putObj_heap_other hne).trans hk⟩
theorem CB.cell (h : CB w w') {a : Addr} {v : Value} (hc : w.cell? a = some v) : w'.cell? a = some v := by
  obtain ⟨o, ho, hoc⟩ := cells_of_cell hc
  exact (cell_of_blk ((h.same _ o ho hoc).trans ho.symm)).trans hc

theorem Rel.cb (hx : CB w w') {a : AV} {v : Value} (h : Rel C w a v) : Rel C w' a v := by
  refine Rel.rec (C := C) (w := w) (motive_1 := fun a v _ => Rel C w' a v) (motive_2 := fun l vs _ => RelL C w' l vs)
    ?_ ?_ ?_ ?_ ?_ ?_ ?_ ?_ ?_ ?_ ?_ ?_ ?_ ?_ ?_ ?_ ?_ ?_ ?_ h
  · exact fun v => .top v
  · exact fun k a v => .gd k a v
  · exact fun k n => .li k n
  · exact fun k n => .si k n
  · exact fun b => .lb b
  · exact fun b => .sb b
  · exact fun x => .v x
  · exact fun l vs _ h => .agg l vs h
  · exact fun l vs _ h => .tup l vs h
  · exact fun i off b c n h => .own i off b c n h
  · exact fun i sz k off b c n h hk => .elt i sz k off b c n h hk
  · exact fun i b c n h => .row i b c n h
  · exact fun i n sz b c m h => .lsl i n sz b c m h
  · exact fun i h => .rown i h
  · intro n sz el A cap vs hcap hA _ hl hn ih
    refine .slc n sz el A cap vs hcap (fun h0 => ?_) ih hl hn
    obtain ⟨ad, rfl, hI, hc⟩ := hA h0
    refine ⟨ad, rfl, hI, fun k hk j hj => ?_⟩
    have h1 := hc k hk j hj
    have h2 : j < (vs k).length := by rw [hl k hk]; exact hj
    rw [List.getElem?_eq_getElem h2] at h1 ⊢
    exact hx.cell h1
  · intro l ad vs hr0 hI hc hn ih
    refine .xp l ad vs ih hI (fun j hj => ?_) hn
    have h1 := hc j hj
    have h2 : j < vs.length := by rw [← hr0.len]; exact hj
    rw [List.getElem?_eq_getElem h2] at h1 ⊢
    exact hx.cell h1
  · exact fun f l m vs ws _ _ h h' => .fn f l m vs ws h h'
  · exact .nil
  · exact fun a l v vs _ _ h h' => .cons a l v vs h h'
theorem RelL.cb (hx : CB w w') : ∀ {l : List AV} {vs : List Value}, RelL C w l vs → RelL C w' l vs
  | _, _, .nil => .nil
  | _, _, .cons a l v vs h h' => .cons a l v vs (Rel.cb hx h) (RelL.cb hx h')
theorem BRel.cb (hx : CB w w') {p : Pl} {b : Blk} (h : BRel C w p b) : BRel C w' p b := by
  match p, b, h with
  | .at q c m, .cells t l, h =>
    obtain ⟨vs, hr, hh⟩ := h
    exact ⟨vs, hr.cb hx, hx.same _ _ hh rfl⟩
  | .at q c m, .row e sz k el, h =>
    obtain ⟨h1, h2, h3, cs, vs, hh, hs, hc⟩ := h
    exact ⟨h1, h2, h3, cs, vs, hx.same _ _ hh rfl, hs, fun k hk => ⟨(hc k hk).1.cb hx, (hc k hk).2⟩⟩
  | .nil, .row _ _ _ _, h => exact h
theorem HR.cb (hx : CB w w') (h : HR C hp w) : HR C hp w' :=
  ⟨fun i p hi => (h.live i p hi).cb hx, h.inj, fun i b c n hi => ⟨Nat.lt_of_lt_of_le (h.fresh i b c n hi).1 hx.size, (h.fresh i b c n hi).2⟩, fun b hb => Nat.lt_of_lt_of_le (h.ilt b hb) hx.size⟩
theorem FR.cb (hx : CB w w') {fr : List AV} {tm : Array Value} (h : FR [] C w fr tm) : FR [] C w' fr tm :=
  ⟨h.len, fun t => ⟨(h.get t).1.cb hx, fun k b e => by obtain ⟨x, h1, _⟩ := (h.get t).2 k b e; simp at h1⟩⟩

/-- what is no cells is no object of one's own -/
theorem HR.others (h : HR C hp w) {k : Nat} {o : Obj} (hk : w.heap[k]? = some o) (ho : o.isCells = false) {i c n : Nat} : C.ρ i ≠ some (.at k c n) := fun hi => by
  have hl := h.live _ _ hi
  cases hb : getB hp i with
  | dead => rw [hb] at hl; exact hl
  | cells t l =>
    rw [hb] at hl
    obtain ⟨vs, _, hh⟩ := hl
    rw [hk] at hh; injection hh with hh; subst hh; cases ho
  | row e sz m el =>
    rw [hb] at hl
    obtain ⟨_, _, _, cs, vs, hh, _⟩ := hl
    rw [hk] at hh; injection hh with hh; subst hh; cases ho
theorem Tr.others {lo : Nat} (t : Tr lo C w C' w') (h : HR C hp w) {k : Nat} {o : Obj} (hk : w.heap[k]? = some o) (ho : o.isCells = false) : w'.heap[k]? = some o :=
  (t.keep k (Array.getElem?_eq_some_iff.1 hk).1 fun i b c n hi e => by subst e; exact h.others hk ho hi).trans hk
theorem Tr.imms {lo : Nat} (t : Tr lo C w C' w') (h : HR C hp w) {b : Nat} (hb : C.I b) : w'.heap[b]? = w.heap[b]? :=
  t.keep b (h.ilt b hb) fun i q c n hi e => by subst e; exact (h.fresh i _ c n hi).2 hb
theorem Tr.later {lo : Nat} (t : Tr lo C w C1 w1) (ho : w2.os = w1.os) (ht : w2.tape = w1.tape) (hu : w2.output = w1.output) (hs : w1.heap.size ≤ w2.heap.size) (hk : ∀ k, k < w.heap.size → w2.heap[k]? = w1.heap[k]?) : Tr lo C w C1 w2 :=
  ⟨ho.trans t.os, ht.trans t.tape, hu.trans t.output, Nat.le_trans t.size hs, fun k hlt hn => (hk k hlt).trans (t.keep k hlt hn), t.imm, t.imm', t.rho, t.own⟩
theorem Tr.quiet {lo : Nat} (t : Tr lo C w C1 w1) (q : Quiet w1 w2) : Tr lo C w C1 w2 :=
  t.later q.os q.tape q.output q.size fun k hk => q.keep k (Nat.lt_of_lt_of_le hk t.size)
theorem Tr.putObj {lo l : Nat} (t : Tr lo C w C1 w1) (hl : w.heap.size ≤ l) (o : Obj) : Tr lo C w C1 (w1.putObj l o) :=
  t.later rfl rfl rfl (by simp) fun _ _ => World.putObj_heap_other (by omega)

/-- a round's record is there -/
def RO (ro : Option Nat) (w : World) : Prop := ∀ l, ro = some l → ∃ r, w.heap[l]? = some (.loop r)
theorem RO.tr {ro : Option Nat} {lo : Nat} (h : RO ro w) (t : Tr lo C w C' w') (hH : HR C hp w) : RO ro w' := fun l hl => by
  obtain ⟨r, hr⟩ := h l hl
  exact ⟨r, t.others hH hr rfl⟩

def mkOf (b : Nat) : Deferred := { target := .collected b, args := #[] }
structure MarksOK (n : Nat) (w : World) (ms : List Nat) : Prop where
  nd : ms.Nodup
  at_ : ∀ b ∈ ms, n ≤ b ∧ w.heap[b]? = some (.deferred (some []))
/-- a piece of code has left an activation as it was, but for the places in W and for marks -/
structure Kept (W : Nat) (a : Act) (w : World) (a' : Act) (w' : World) : Prop where
  sz : a'.tmps.size = a.tmps.size
  tm : ∀ t, Nat.testBit W t = false → a'.tmps.getD t undef = a.tmps.getD t undef
  dfs : ∃ ms : List Nat, a'.defers = ms.map mkOf ++ a.defers ∧ MarksOK w.heap.size w' ms
theorem Kept.refl (W : Nat) (a : Act) (w : World) (w' : World) : Kept W a w a w' := ⟨rfl, fun _ _ => rfl, [], rfl, List.nodup_nil, fun b hb => by simp at hb⟩
theorem Kept.trans {W : Nat} {a a1 a2 : Act} (h : Kept W a w a1 w1) (k : Kept W a1 w1 a2 w2) (hs : w.heap.size ≤ w1.heap.size) (ho : ∀ (i : Nat) (o : Obj), w1.heap[i]? = some o → o.isCells = false → w2.heap[i]? = some o) : Kept W a w a2 w2 := by
  obtain ⟨m1, e1, n1⟩ := h.dfs
  obtain ⟨m2, e2, n2⟩ := k.dfs
  refine ⟨k.sz.trans h.sz, fun t ht => (k.tm t ht).trans (h.tm t ht), m2 ++ m1, by rw [e2, e1]; simp, ?_, fun b hb => ?_⟩
  · refine List.nodup_append.2 ⟨n2.nd, n1.nd, fun x hx y hy e => ?_⟩
    subst e
    have h1 := (n2.at_ x hx).1
    have h2 := (Array.getElem?_eq_some_iff.1 (n1.at_ x hy).2).1
    omega
  · rcases List.mem_append.1 hb with hb | hb
    · exact ⟨Nat.le_trans hs (n2.at_ b hb).1, (n2.at_ b hb).2⟩
    · exact ⟨(n1.at_ b hb).1, ho _ _ (n1.at_ b hb).2 rfl⟩
theorem Kept.sub {W W' : Nat} {a a' : Act} (h : Kept W a w a' w') (hs : ∀ t, Nat.testBit W' t = false → Nat.testBit W t = false) : Kept W' a w a' w' := ⟨h.sz, fun t ht => h.tm t (hs t ht), h.dfs⟩

theorem msk_or {a b t : Nat} (h : Nat.testBit (Nat.lor a b) t = false) : Nat.testBit a t = false ∧ Nat.testBit b t = false := by
  have : Nat.testBit (a ||| b) t = false := h
  rw [Nat.testBit_or] at this
  simpa using this
theorem msk_bit (d : Nat) : Nat.testBit (Nat.shiftLeft 1 d) d = true := by
  show Nat.testBit (1 <<< d) d = true
  simp [Nat.testBit_shiftLeft]
theorem msk_l {a b t : Nat} (h : Nat.testBit a t = true) : Nat.testBit (Nat.lor a b) t = true := by
  show Nat.testBit (a ||| b) t = true
  rw [Nat.testBit_or, h]; rfl
theorem msk_r {a b t : Nat} (h : Nat.testBit b t = true) : Nat.testBit (Nat.lor a b) t = true := by
  show Nat.testBit (a ||| b) t = true
  rw [Nat.testBit_or, h, Bool.or_true]
theorem mskO_mem {o : Oper} {d : Nat} (hd : o.dst = some d) : ∀ {ops : List Oper}, o ∈ ops → Nat.testBit (mskO ops) d = true := by
  intro ops
  induction ops with
  | nil => intro h; cases h
  | cons x l ih =>
    intro hm
    have e : mskO (x :: l) = (match x.dst with | some d => Nat.lor (Nat.shiftLeft 1 d) (mskO l) | none => mskO l) := rfl
    rw [e]
    rcases List.mem_cons.1 hm with rfl | hm
    · rw [hd]; exact msk_l (msk_bit d)
    · cases hx : x.dst with
      | none => exact ih hm
      | some d' => exact msk_r (ih hm)
theorem mskP_mem {d : Nat} : ∀ {ps : List Nat}, d ∈ ps → Nat.testBit (mskP ps) d = true := by
  intro ps
  induction ps with
  | nil => intro h; cases h
  | cons x l ih =>
    intro hm
    have e : mskP (x :: l) = Nat.lor (Nat.shiftLeft 1 x) (mskP l) := rfl
    rw [e]
    rcases List.mem_cons.1 hm with rfl | hm
    · exact msk_l (msk_bit d)
    · exact msk_r (ih hm)

/-- what a region's operations leave of an activation -/
def RegKept (W : Nat) (a : Act) (a' : Act) : Prop := a'.tmps.size = a.tmps.size ∧ (∀ t, Nat.testBit W t = false → a'.tmps.getD t undef = a.tmps.getD t undef) ∧ a'.defers = a.defers
theorem regKept_put (ops : List Oper) (a : Act) : PutOK ops (RegKept (mskO ops) a) := fun o ho a' v ⟨h0, h1, h2⟩ => by
  refine ⟨?_, fun t ht => ?_, by rw [put_defers, h2]⟩
  · cases o.dst <;> simpa [Act.put] using h0
  · rw [put_get, if_neg]
    · exact h1 t ht
    · rintro ⟨hd, _⟩
      rw [mskO_mem hd ho] at ht; cases ht
theorem RegKept.kept {W : Nat} {a a' : Act} (h : RegKept W a a') (w w' : World) : Kept W a w a' w' := ⟨h.1, h.2.1, [], by simpa using h.2.2, List.nodup_nil, fun b hb => by simp at hb⟩

/-- places forgotten -/
theorem topM_eq (m : Nat) : ∀ (l : List AV) (n : Nat) (k : List AV → VC), ∃ l', topM m l n k = k l' ∧ l'.length = l.length ∧ ∀ t, getL l' t = (if Nat.testBit m (n + t) = true ∧ t < l.length then .top else getL l t)
  | [], n, k => ⟨[], rfl, rfl, fun t => by simp⟩
  | a :: l, n, k => by
    unfold topM
    split
    · rename_i hb
      obtain ⟨l', h1, h2, h3⟩ := topM_eq m l (n + 1) fun l' => k (.top :: l')
      refine ⟨.top :: l', h1, by simp [h2], fun t => ?_⟩
      cases t with
      | zero => simp [hb, getL_zero]
      | succ t => rw [getL_succ, h3 t, getL_succ, show n + 1 + t = n + (t + 1) by omega]; simp
    · rename_i hb
      obtain ⟨l', h1, h2, h3⟩ := topM_eq m l (n + 1) fun l' => k (a :: l')
      refine ⟨a :: l', h1, by simp [h2], fun t => ?_⟩
      cases t with
      | zero => simp [hb, getL_zero]
      | succ t => rw [getL_succ, h3 t, getL_succ, show n + 1 + t = n + (t + 1) by omega]; simp

/-- what is yielded, laid into the parameters -/
theorem setPs_sat {R : AV → Heap → Prop} : ∀ {ps : List Nat} {as : List AV} {vs : List Value} {fr : List AV} {tm : Array Value} {k : List AV → VC}, (setPs ps as fr k).sat R → RelL C w as vs → FR [] C w fr tm →
    ps.length = vs.length ∧ ∃ fr', (k fr').sat R ∧ FR [] C w fr' ((ps.zip vs).foldl (fun t (p, v) => t.setIfInBounds p v) tm)
  | [], [], vs, fr, tm, k, h, hr, hF => by cases hr; exact ⟨rfl, fr, h, hF⟩
  | p :: ps, a :: as, vs, fr, tm, k, h, hr, hF => by
    cases hr with
    | cons _ _ v vs h1 h2 =>
      simp only [setPs, forceD_eq, setF_eq] at h
      have hF' : FR [] C w (setL fr p (noGd a)) (tm.setIfInBounds p v) := FR.put (act := ⟨tm, []⟩) hF (.plain (rel_noGd h1) (notGd_noGd _)) (some p)
      obtain ⟨h3, fr', h4, h5⟩ := setPs_sat h h2 hF'
      exact ⟨by simp [h3], fr', h4, h5⟩
  | [], _ :: _, _, _, _, _, h, _, _ => h.elim
  | _ :: _, [], _, _, _, _, h, _, _ => h.elim
theorem fold_get : ∀ (l : List (Nat × Value)) (tm : Array Value) (t : Nat), t ∉ l.map Prod.fst → (l.foldl (fun t (p, v) => t.setIfInBounds p v) tm).getD t undef = tm.getD t undef
  | [], _, _, _ => rfl
  | (p, v) :: l, tm, t, h => by
    simp only [List.map_cons, List.mem_cons, not_or] at h
    rw [List.foldl_cons, fold_get l _ t h.2]
    simp only [Array.getD_eq_getD_getElem?, Array.getElem?_setIfInBounds]
    rw [if_neg (fun e => h.1 e.symm)]
theorem fold_size : ∀ (l : List (Nat × Value)) (tm : Array Value), (l.foldl (fun t (p, v) => t.setIfInBounds p v) tm).size = tm.size
  | [], _ => rfl
  | (p, v) :: l, tm => by rw [List.foldl_cons, fold_size l]; simp
end
end Abs
end Go.Proofs.Ytjblicdceafcpaa

/- A region that holds a slice against nil: both ways. -/
namespace Go.Proofs.Ytjblicdceafcpaa
namespace Abs
open Go Go.RowKit

theorem asMove_eq {op : Op} {s : Nat} (h : asMove op = some s) : op = .move (.tmp s) := by
  unfold asMove at h
  split at h
  · injection h with h; subst h; rfl
  · cases h
theorem asNil_eq {op : Op} {t : TypeId} {a : Nat} (h : asNil op = some (t, a)) : ∃ yt, op = .binOp .eql t (.tmp a) (.const (.slice none 0 0)) yt := by
  unfold asNil at h
  split at h
  · injection h with h; injection h with h1 h2; subst h1 h2; exact ⟨_, rfl⟩
  · cases h
theorem isSlc_eq {x : AV} {n : LN} (h : isSlc x = some n) : ∃ sz el, x = .slc n sz el := by
  unfold isSlc at h
  split at h
  · injection h with h; subst h; exact ⟨_, _, rfl⟩
  · cases h

theorem region_nil {P : Program} {C : Cx} {w : World} {ro : Option Nat} {rm : Nat} {id : Nat} {ops : Array Oper} {fr : List AV} {act : Act} {Q : Exit → Act → World → Prop} {s a b : Nat} {n : LN}
    (hc : nilCmp P ops.toList fr = some (s, a, b, n)) (hF : FR [] C w fr act.tmps)
    (hgoal : ∀ bb : Bool, (bb = true → n.val = 0) → ∀ act' : Act, RegKept (mskO ops.toList) act act' → FR [] C w (setL (setL fr a (getL fr s)) b (.lb bb)) act'.tmps → Q .normal act' w) :
    (Code.region id ops false).wpIn (fen ro) rm P Q act w := by
  have hput := regKept_put ops.toList act
  have hds : RegKept (mskO ops.toList) act act := ⟨rfl, fun _ _ => rfl, rfl⟩
  unfold nilCmp at hc
  split at hc
  case h_2 => cases hc
  rename_i o1 o2 hops
  split at hc
  case h_2 => cases hc
  rename_i t a' hn
  split at hc
  case h_2 => cases hc
  rename_i s' hm
  split at hc
  case h_2 => cases hc
  rename_i x y hd1 hg1 hd2 hg2
  split at hc
  case h_2 => cases hc
  rename_i m hb hs
  injection hc with hc; injection hc with e1 hc; injection hc with e2 hc; injection hc with e3 e4
  subst e1 e2 e3 e4
  simp only [Bool.and_eq_true] at hb
  obtain ⟨⟨hb1, hb2⟩, hb3⟩ := hb
  obtain rfl := Nat.eq_of_beq_eq_true hb1
  obtain ⟨sz, el, hs⟩ := isSlc_eq hs
  have hlt : x < act.tmps.size := by rw [← hF.len]; simpa [Nat.blt_eq] using hb3
  obtain ⟨e, ht⟩ : ∃ e, P.underlying t = some (.slice e) := by
    unfold isSliceT at hb2
    split at hb2
    · rename_i e h; exact ⟨e, h⟩
    · cases hb2
  have hv := (hF.get s').1
  rw [hs] at hv
  obtain ⟨A, cap, hval, h0⟩ : ∃ A cap, act.tmps.getD s' undef = .slice A m.val cap ∧ (A.isNone = true → m.val = 0) := by
    generalize act.tmps.getD s' undef = v at hv
    cases hv with
    | slc _ _ _ A cap vs hcap hA _ _ _ =>
      refine ⟨A, cap, rfl, fun hn => ?_⟩
      rcases Nat.eq_zero_or_pos m.val with h | h
      · exact h
      · obtain ⟨ad, rfl, _⟩ := hA h
        cases hn
  obtain rfl : ops = #[o1, o2] := by
    cases ops; simp only at hops; rw [hops]
  have hm1 := asMove_eq hm
  obtain ⟨yt, hm2⟩ := asNil_eq hn
  apply wpIn_region
  have hw1 : ∀ f, Region.wanted o1 f = true := fun f => by unfold Region.wanted; rw [hg1]
  have hw2 : ∀ f, Region.wanted o2 f = true := fun f => by unfold Region.wanted; rw [hg2]
  have hF1 : FR [] C w (setL fr x (getL fr s')) (act.put (some x) (act.tmps.getD s' undef)).tmps := hF.put (a := getL fr s') (.plain (hF.get s').1 (by rw [hs]; trivial)) (some x)
  show wpOpsIn (fen ro) rm P #[o1, o2] Q [0, 1] act w
  simp only [wpOpsIn, List.getElem?_toArray, List.getElem?_cons_zero, List.getElem?_cons_succ, hw1, hw2, if_true]
  refine Ran.wpIn (run_of_post (m := pure (act.tmps.getD s' undef)) ?_ ⟨_, _, Sem.run_pure .., ?_⟩)
  · obtain ⟨dst, op, type, pos, after, guard⟩ := o1
    simp only at hm1
    subst hm1
    rfl
  rw [hd1]
  generalize hact : act.put (some x) (act.tmps.getD s' undef) = act1 at hF1
  have hget : act1.tmps.getD x undef = .slice A m.val cap := by
    rw [← hact, ← hval]
    simp [Act.put, hlt]
  have hds1 : RegKept (mskO [o1, o2]) act act1 := by rw [← hact, ← hd1]; exact hput o1 (by simp) _ _ hds
  refine Ran.wpIn (run_of_post (m := do eqGuard .eql t (.tmp x) (.const (.slice none 0 0)) (act1.tmps.getD x undef) (.slice none 0 0); binOp .eql t (act1.tmps.getD x undef) (.slice none 0 0)) ?_ ⟨.bool A.isNone, w, ?_, ?_⟩)
  · obtain ⟨dst, op, type, pos, after, guard⟩ := o2
    simp only at hm2
    subst hm2
    rfl
  · rw [hget]
    have := Lib.run_eql_slice_nil (P := P) w t e A m.val cap 0 0 ht
    simpa [eqGuard] using this
  · refine hgoal A.isNone h0 _ (hput o2 (by simp) _ _ hds1) ?_
    rw [hd2]
    exact hF1.put (a := .lb A.isNone) (.plain (.lb _) trivial) (some y)
end Abs
end Go.Proofs.Ytjblicdceafcpaa

/- Code: what its tree says of its run; functions. -/
namespace Go.Proofs.Ytjblicdceafcpaa
namespace Abs
open Go Go.RowKit

def exitOf : AE → Exit
  | .normal => .normal
  | .exit id => .exit id
  | .ret => .ret

section
variable {P : Program} {S : Sums} {C C' : Cx} {w w' : World} {H hp : Heap}

def GoalE (S : Sums) (R : AV → Heap → Prop) (Qv : AE → List AV → Heap → VC) (Q : Exit → Act → World → Prop) (C : Cx) (w : World) (act : Act) (W : Nat) : Prop :=
  ∀ (e : AE) (fr' : List AV) (hp' : Heap) (C' : Cx) (w' : World) (act' : Act), (Qv e fr' hp').sat R → S.lo ≤ hp'.length → HR C' hp' w' → FR [] C' w' fr' act'.tmps → Tr S.lo C w C' w' → Kept W act w act' w' → Q (exitOf e) act' w'
theorem GoalE.step {R : AV → Heap → Prop} {Qv : AE → List AV → Heap → VC} {Q : Exit → Act → World → Prop} {act act' : Act} {W : Nat} (g : GoalE S R Qv Q C w act W) (t : Tr S.lo C w C' w') (k : Kept W act w act' w') (hH : HR C' hp w') : GoalE S R Qv Q C' w' act' W :=
  fun e fr' hp' C'' w'' act'' h1 h2 h3 h4 h5 h6 => g e fr' hp' C'' w'' act'' h1 h2 h3 h4 (t.trans h5) (k.trans h6 t.size fun _ _ hi ho => h5.others hH hi ho)
theorem GoalE.sub {R : AV → Heap → Prop} {Qv : AE → List AV → Heap → VC} {Q : Exit → Act → World → Prop} {act : Act} {W W' : Nat} (g : GoalE S R Qv Q C w act W) (h : ∀ t, Nat.testBit W t = false → Nat.testBit W' t = false) : GoalE S R Qv Q C w act W' :=
  fun e fr' hp' C' w' act' h1 h2 h3 h4 h5 h6 => g e fr' hp' C' w' act' h1 h2 h3 h4 h5 (h6.sub h)

/-- the state is known better -/
theorem FR.known {fr : List AV} {tm : Array Value} (h : FR [] C w fr tm) {d : Nat} {a : AV} (ha : RelG [] C w a (tm.getD d undef)) : FR [] C w (setL fr d a) tm :=
  ⟨by rw [len_setL]; exact h.len, fun t => by
    rw [getL_set]
    split
    · rename_i hc; rw [hc.1]; exact ha
    · exact h.get t⟩

/-- a piece of code is sound: whatever is asked behind it -/
def Snd (P : Program) (S : Sums) (U : Nat) (I : Anns) (c : Code) : Prop :=
  ∀ (ro : Option Nat) (rm : Nat) (R : AV → Heap → Prop) (fr : List AV) (hp : Heap) (Qv : AE → List AV → Heap → VC) (C : Cx) (w : World) (act : Act) (Q : Exit → Act → World → Prop), S.lo ≤ hp.length → HR C hp w → FR [] C w fr act.tmps → RO ro w →
    (wpA P S U I c fr hp Qv).sat R → GoalE S R Qv Q C w act (mskC c) → c.wpIn (fen ro) rm P Q act w

theorem snd_iter {ro : Option Nat} {rm : Nat} {U : Nat} {I : Anns} {c : Code} (hc : Snd P S U I c) {R : AV → Heap → Prop} {fr : List AV} {Qv : AE → List AV → Heap → VC} {act : Act} {Q : Exit → Act → World → Prop} (n : Nat)
    (hlo : S.lo ≤ hp.length) (hH : HR C hp w) (hF : FR [] C w fr act.tmps) (hro : RO ro w) (h : (iterL (wpA P S U I c) n fr hp Qv).sat R) (hgoal : GoalE S R Qv Q C w act (mskC c)) : (Code.loop c).wpIn (fen ro) rm P Q act w := by
  refine wpIn_loop_ghost (fun k a w1 => ∃ fr hp C1, S.lo ≤ hp.length ∧ HR C1 hp w1 ∧ FR [] C1 w1 fr a.tmps ∧ RO ro w1 ∧ (iterL (wpA P S U I c) k fr hp Qv).sat R ∧ Tr S.lo C w C1 w1 ∧ Kept (mskC c) act w a w1) n
    ⟨fr, hp, C, hlo, hH, hF, hro, h, .refl _ _ _, .refl _ _ _ _⟩ ?_
  rintro k a w1 ⟨fr, hp, C1, hlo, hH, hF, hro, h, ht, hk⟩
  cases k with
  | zero => exact h.elim
  | succ k =>
    refine hc ro rm R fr hp _ C1 w1 a _ hlo hH hF hro h ?_
    intro e fr' hp' C' w' act' h1 h2 h3 h4 h5 h6
    have hk' := hk.trans h6 ht.size fun _ _ hi ho => h5.others hH hi ho
    cases e with
    | normal => exact ⟨k, by omega, fr', hp', C', h2, h3, h4, hro.tr h5 hH, h1, ht.trans h5, hk'⟩
    | exit id => exact hgoal (.exit id) fr' hp' C' w' act' h1 h2 h3 h4 (ht.trans h5) hk'
    | ret => exact hgoal .ret fr' hp' C' w' act' h1 h2 h3 h4 (ht.trans h5) hk'

theorem leLW_sat {R : AV → Heap → Prop} {lo : Nat} {src : Heap} {f : AV → AV → VC → VC} (hf : ∀ a b k k', (k.sat R → k'.sat R) → (f a b k).sat R → (leA lo src hp a b k').sat R) :
    ∀ (m l : List AV) (k k' : VC), (k.sat R → k'.sat R) → (leLW f l m k).sat R → (leL lo src hp l m k').sat R
  | [], [], k, k', hk, h => by unfold leL; exact hk h
  | [], _ :: _, k, k', hk, h => h.elim
  | b :: m, [], k, k', hk, h => h.elim
  | b :: m, a :: l, k, k', hk, h => by
    unfold leL
    exact hf a b _ _ (leLW_sat hf m l k k' hk) h
theorem leAF_sat {R : AV → Heap → Prop} {lo : Nat} {src : Heap} : ∀ (d : Nat) (a b : AV) (k k' : VC), (k.sat R → k'.sat R) → (leAF d lo src hp a b k).sat R → (leA lo src hp a b k').sat R := by
  intro d
  induction d with
  | zero => intro a b k k' _ h; exact h.elim
  | succ d ih =>
    intro a b k k' hk h
    have hl := leLW_sat (hp := hp) (R := R) (lo := lo) (src := src) ih
    unfold leAF at h
    cases b <;> simp only at h <;> unfold leA
    all_goals repeat' (first | exact h.elim | exact hk h | exact ⟨h.1, hk h.2⟩ | exact ⟨h.1, h.2.1, hk h.2.2⟩ | exact hl _ _ _ _ hk h | (split at h <;> first | exact h.elim | (rename_i e; rw [e]) | skip))
theorem leBF_sat {R : AV → Heap → Prop} {lo n : Nat} {src : Heap} {a b : Blk} {k k' : VC} (hk : k.sat R → k'.sat R) (h : (leBF lo n src hp a b k).sat R) : (leB lo n src hp a b k').sat R := by
  unfold leBF at h
  unfold leB
  cases b <;> simp only at h ⊢
  · cases hb : Nat.ble lo n <;> rw [hb] at h
    · cases a <;> first | exact hk h | exact h.elim
    · exact hk h
  · split at h
    · split at h
      · exact leLW_sat (leAF_sat 6) _ _ _ _ hk h
      · exact h.elim
    · exact h.elim
  · split at h
    · split at h
      · exact ⟨h.1, h.2.1, hk h.2.2⟩
      · exact h.elim
    · exact h.elim
theorem leHF_sat {R : AV → Heap → Prop} {lo : Nat} {src : Heap} : ∀ (n : Nat) (l m : Heap) (k k' : VC), (k.sat R → k'.sat R) → (leHF lo src hp n l m k).sat R → (leH lo src hp n l m k').sat R
  | n, [], [], k, k', hk, h => by unfold leHF at h; unfold leH; exact hk h
  | n, _ :: _, [], k, k', hk, h => by
    unfold leHF at h; unfold leH
    cases hb : Nat.ble lo n <;> rw [hb] at h
    · exact h.elim
    · exact hk h
  | n, a :: l, b :: m, k, k', hk, h => by
    unfold leHF at h; unfold leH
    exact leBF_sat (leHF_sat (n + 1) l m k k' hk) h
  | n, [], _ :: _, k, k', hk, h => by unfold leHF at h; exact h.elim
theorem leSF_sat {R : AV → Heap → Prop} {lo : Nat} {fr : List AV} {s : AS} (h : (leSF lo fr hp s).sat R) : (leS lo fr hp s).sat R :=
  leLW_sat (leAF_sat 6) _ _ _ _ (leHF_sat 0 _ _ _ _ id) h
theorem exK_sat {lo : Nat} {A : Ann} {m : Option Nat} {fr : List AV} {R : AV → Heap → Prop} (h : (exK lo A m fr hp).sat R) : ∃ g, A.pre g ∧ (∀ n, m = some n → A.mu g < n) ∧ (leS lo fr hp (A.st g)).sat R := by
  obtain ⟨g, h1, h2, h3⟩ := h
  simp only [forceL_eq, forceH_eq] at h3
  exact ⟨g, h1, fun n e => by subst e; exact h2, leSF_sat h3⟩
theorem nilK_sat {R : AV → Heap → Prop} {lo : Nat} : ∀ {l : List (Nat × TypeId × Nat)} {fr : List AV} {hp : Heap} {C : Cx} {K : List AV → Heap → VC} {tm : Array Value}, (nilK l fr hp K).sat R → lo ≤ hp.length → HR C hp w → FR [] C w fr tm →
    ∃ fr' hp' C', (K fr' hp').sat R ∧ lo ≤ hp'.length ∧ HR C' hp' w ∧ FR [] C' w fr' tm ∧ Tr lo C w C' w
  | [], fr, hp, C, K, tm, h, hlo, hH, hF => ⟨fr, hp, C, h, hlo, hH, hF, .refl _ _ _⟩
  | (t, e, sz) :: l, fr, hp, C, K, tm, h, hlo, hH, hF => by
    unfold nilK at h
    split at h
    · rename_i s hn
      rw [setF_eq, forceH_eq, appH_eq] at h
      have hnone : C.ρ hp.length = none := by
        cases hc : C.ρ hp.length with
        | none => rfl
        | some p => have := hH.lt hc; omega
      have h1 : HR (C.put hp.length .nil) (hp ++ [Blk.row e (s + 1) (.lit 0) (fun _ => [])]) w := by
        refine (hH.ext _).newNil hnone ?_
        rw [show getB (hp ++ [Blk.row e (s + 1) (.lit 0) (fun _ => [])]) hp.length = .row e (s + 1) (.lit 0) (fun _ => []) by rw [getB_eq]; simp]
        exact ⟨rfl, Nat.succ_pos _⟩
      have g := Grow.newNil C w hp.length
      have h2 : FR [] (C.put hp.length .nil) w fr tm := g.frame (fun i a b => (show i = hp.length by omega) ▸ hnone) hH.ilt hF
      have h3 : FR [] (C.put hp.length .nil) w (setL fr t (.row hp.length)) tm := h2.known (.plain (by
        have := (hF.get t).1
        generalize getL fr t = a at this hn
        generalize tm.getD t undef = v at this
        unfold isNilS at hn
        split at hn
        · cases this; exact .rown _ Cx.put_eq
        · cases hn) trivial)
      obtain ⟨fr', hp', C', h4, h5, h6, h7, h8⟩ := nilK_sat (lo := lo) (C := C.put hp.length .nil) h (by simp; omega) h1 h3
      exact ⟨fr', hp', C', h4, h5, h6, h7, (g.tr hlo).trans h8⟩
    · exact nilK_sat h hlo hH hF
theorem snd_ann {ro : Option Nat} {rm : Nat} {U : Nat} {I : Anns} {c : Code} (hc : Snd P S U I c) {A : Ann} {R : AV → Heap → Prop} {fr : List AV} {Qv : AE → List AV → Heap → VC} {act : Act} {Q : Exit → Act → World → Prop}
    (hlo : S.lo ≤ hp.length) (hH : HR C hp w) (hF : FR [] C w fr act.tmps) (hro : RO ro w)
    (h1 : ∃ g, A.pre g ∧ (leS S.lo fr hp (A.st g)).sat R)
    (h2 : ∀ g, A.pre g → (wpA P S U I c (A.st g).fr (A.st g).hp fun e fr' hp' => match e with
        | .normal => exK S.lo A (some (A.mu g)) fr' hp'
        | e => Qv e fr' hp').sat R) (hgoal : GoalE S R Qv Q C w act (mskC c)) : (Code.loop c).wpIn (fen ro) rm P Q act w := by
  obtain ⟨g, hg, hle⟩ := h1
  obtain ⟨h3, h4, h5, h6⟩ := leS_sat hle hH hlo
  refine wpIn_loop_ghost (fun k a w1 => ∃ g C1, A.pre g ∧ A.mu g = k ∧ S.lo ≤ (A.st g).hp.length ∧ HR C1 (A.st g).hp w1 ∧ FR [] C1 w1 (A.st g).fr a.tmps ∧ RO ro w1 ∧ Tr S.lo C w C1 w1 ∧ Kept (mskC c) act w a w1) (A.mu g)
    ⟨g, _, hg, rfl, h5, h3, h4 _ hF, hro, h6, .refl _ _ _ _⟩ ?_
  rintro k a w1 ⟨g, C1, hg, rfl, hlo, hH, hF, hro, ht, hk⟩
  refine hc ro rm R _ _ _ C1 w1 a _ hlo hH hF hro (h2 g hg) ?_
  intro e fr' hp' C' w' act' h1 h2 h3 h4 h5 h6
  have hk' := hk.trans h6 ht.size fun _ _ hi ho => h5.others hH hi ho
  cases e with
  | normal =>
    obtain ⟨g', hg', hlt, hle⟩ := exK_sat h1
    have hlt := hlt _ rfl
    obtain ⟨h7, h8, h9, h10⟩ := leS_sat hle h3 h2
    exact ⟨A.mu g', hlt, g', _, hg', rfl, h9, h7, h8 _ h4, hro.tr h5 hH, (ht.trans h5).trans h10, hk'⟩
  | exit id => exact hgoal (.exit id) fr' hp' C' w' act' h1 h2 h3 h4 (ht.trans h5) hk'
  | ret => exact hgoal .ret fr' hp' C' w' act' h1 h2 h3 h4 (ht.trans h5) hk'

theorem exR_sat {lo i : Nat} {A : Ann} {fr : List AV} {R : AV → Heap → Prop} (h : (exR lo A i fr hp).sat R) : ∃ g, A.pre g ∧ A.mu g = i ∧ (leS lo fr hp (A.st g)).sat R := by
  obtain ⟨g, h1, _, h2, h3⟩ := h
  simp only [forceL_eq, forceH_eq] at h3
  exact ⟨g, h1, h2, leSF_sat h3⟩
def codeOf : AE → Code
  | .exit id => .exit id
  | _ => .ret

/-- what a round leaves -/
structure Mid (P : Program) (S : Sums) (C : Cx) (w : World) (act : Act) (A : Ann) (l : Nat) (rec : Loop) (ms : List Nat) (k : Nat) (W : World) : Prop where
  ex : ∃ g C2, A.mu g = k ∧ A.pre g ∧ S.lo ≤ (A.st g).hp.length ∧ HR C2 (A.st g).hp W ∧ FR [] C2 W (A.st g).fr act.tmps ∧ Tr S.lo C w C2 W
  lr : W.heap[l]? = some (.loop rec)
  ms : ∀ D ∈ ms, W.heap[D]? = some (.deferred (some []))
structure Gone (P : Program) (S : Sums) (R : AV → Heap → Prop) (Qv : AE → List AV → Heap → VC) (C : Cx) (w : World) (act : Act) (l : Nat) (rec : AE → Loop) (ms : List Nat) (W : World) : Prop where
  ex : ∃ e fr' hp' C2, e ≠ AE.normal ∧ (Qv e fr' hp').sat R ∧ S.lo ≤ hp'.length ∧ HR C2 hp' W ∧ FR [] C2 W fr' act.tmps ∧ Tr S.lo C w C2 W ∧ W.heap[l]? = some (.loop (rec e))
  ms : ∀ D ∈ ms, W.heap[D]? = some (.deferred (some []))
theorem Quiet.at {W W' : World} (q : Quiet W W') {k : Nat} {o : Obj} (h : W.heap[k]? = some o) : W'.heap[k]? = some o := (q.keep k (Array.getElem?_eq_some_iff.1 h).1).trans h
theorem Mid.quiet {act : Act} {A : Ann} {l : Nat} {rec : Loop} {ms : List Nat} {k : Nat} {W W' : World} (h : Mid P S C w act A l rec ms k W) (q : Quiet W W') : Mid P S C w act A l rec ms k W' := by
  obtain ⟨g, C2, h1, h2, h3, h4, h5, h6⟩ := h.ex
  exact ⟨⟨g, C2, h1, h2, h3, h4.cb q.cb, h5.cb q.cb, h6.quiet q⟩, q.at h.lr, fun D hD => q.at (h.ms D hD)⟩
theorem Gone.quiet {R : AV → Heap → Prop} {Qv : AE → List AV → Heap → VC} {act : Act} {l : Nat} {rec : AE → Loop} {ms : List Nat} {W W' : World} (h : Gone P S R Qv C w act l rec ms W) (q : Quiet W W') : Gone P S R Qv C w act l rec ms W' := by
  obtain ⟨e, fr', hp', C2, h0, h1, h2, h3, h4, h5, h6⟩ := h.ex
  exact ⟨⟨e, fr', hp', C2, h0, h1, h2, h3.cb q.cb, h4.cb q.cb, h5.quiet q, q.at h6⟩, fun D hD => q.at (h.ms D hD)⟩

set_option maxHeartbeats 800000 in
theorem snd_range (hS : SumsOK P S) {ro : Option Nat} {rm : Nat} {U : Nat} {I : Anns} {g : Operand} {ps : Array Tmp} {ca cb : Code} (hca : Snd P S U I ca) (hcb : Snd P S U I cb) {R : AV → Heap → Prop} {fr : List AV} {Qv : AE → List AV → Heap → VC} {act : Act} {Q : Exit → Act → World → Prop}
    (hlo : S.lo ≤ hp.length) (hH : HR C hp w) (hF : FR [] C w fr act.tmps) (hro : RO ro w) (h : (wpA P S U I (.rangeFunc g ps ca cb) fr hp Qv).sat R) (hgoal : GoalE S R Qv Q C w act 0) : (Code.rangeFunc g ps ca cb).wpIn (fen ro) rm P Q act w := by
  simp only [wpA] at h
  unfold callIt at h
  split at h
  case h_2 => exact h.elim
  rename_i d
  split at h
  case h_2 => exact h.elim
  rename_i gf caps hd
  split at h
  case h_2 => exact h.elim
  rename_i it hit hown
  split at h
  case h_2 => exact h.elim
  rename_i x hx
  obtain ⟨hpre, h⟩ := needs_sat h
  split at h
  · exact h.elim
  rename_i nils ann _
  -- the iterator
  obtain ⟨hiter, fn0, hfn0, hname0, hbody0⟩ := hS.its _ _ hit
  obtain ⟨ws, hev, hws⟩ : ∃ ws, act.tmps.getD d undef = .func (.func gf) ⟨[]⟩ ⟨ws⟩ ∧ RelL C w caps ws := by
    have := (hF.get d).1
    rw [hd] at this
    generalize act.tmps.getD d undef = u at this
    cases this with
    | fn _ _ _ vs ws h1 h2 => cases h1; exact ⟨ws, rfl, h2⟩
  obtain ⟨Ci, hCi⟩ : ∃ Ci : Cx, Ci = ⟨fun _ => none, C.I⟩ := ⟨_, rfl⟩
  have hCiI : ∀ b, Ci.I b ↔ C.I b := fun b => by rw [hCi]
  have hwsI : RelL Ci w caps ws := hws.change (fun b hb => (hCiI b).2 hb) hown
  -- at the loop's head
  obtain ⟨fr, hp1, C1, h, hlo1, hH1, hF1, htr1⟩ := nilK_sat h hlo hH hF
  obtain ⟨A, hA⟩ : ∃ A, A = ann fr hp1 := ⟨_, rfl⟩
  obtain ⟨h0, h⟩ := h
  rw [← hA] at h0
  have h : ∀ g, A.pre g → (VC.branch (nlt (A.mu g) x.n)
          (setPs ps.toList (x.it (A.mu g)) (A.st g).fr fun fr1 => wpA P S U I ca fr1 (A.st g).hp fun e fr2 hp2 => match e with
            | .normal => wpA P S U I cb fr2 hp2 fun e fr3 hp3 => topM (Nat.lor (mskP ps.toList) (Nat.lor (mskC ca) (mskC cb))) fr3 0 fun fr4 => match e with
              | .normal => exR S.lo A (nadd (A.mu g) 1) fr4 hp3
              | e => Qv e fr4 hp3
            | _ => .fail)
          (Qv .normal (A.st g).fr (A.st g).hp)).sat R := by
    subst hA
    intro g hg
    have := h g hg
    simp only [forceL_eq, forceH_eq] at this
    exact this
  obtain ⟨g0, hg0, hmu0, hle0⟩ := exR_sat h0
  obtain ⟨hH2, hF2, hlo2, htr2⟩ := leS_sat hle0 hH1 hlo1
  have hF2 := hF2 _ hF1
  have htr := htr1.trans htr2
  generalize C1.cut S.lo (A.st g0).hp = C2 at hH2 hF2 htr2 htr
  clear hle0 h0 htr2 htr1 hF1 hH1
  -- the statement
  refine wpIn_rangeFunc ?_
  intro fn hfn
  obtain ⟨l, ms, w1, rec, henter, hq, hl, hrec0, hrecl, hms, hnd⟩ : ∃ (l : Nat) (ms : List Nat) (w1 : World) (rec : LoopState → Option Code → Loop), (Instr.enterLoop fn act.tmps ps ca cb ro).run P w = .ok (l, ms.map mkOf) w1 ∧ Quiet w w1 ∧ w.heap.size ≤ l ∧
      (∃ D0, rec = fun st pe => { state := st, pending := pe, fn, tmps := act.tmps, params := ps, assign := ca, body := cb, defers := D0 }) ∧ w1.heap[l]? = some (.loop (rec .ready none)) ∧
      (∀ D ∈ ms, w.heap.size ≤ D ∧ D ≠ l ∧ w1.heap[D]? = some (.deferred (some []))) ∧ ms.Nodup := by
    cases ro with
    | none =>
      refine ⟨w.heap.size + 1, [w.heap.size], _, fun st pe => { state := st, pending := pe, fn, tmps := act.tmps, params := ps, assign := ca, body := cb, defers := w.heap.size }, run_enterLoop_outer fn act.tmps ps ca cb, (Quiet.alloc _ _).trans (Quiet.alloc _ _), by omega, ⟨_, rfl⟩, ?_, fun D hD => ?_, by simp⟩
      · have := World.alloc_heap_new (w.alloc (.deferred (some []))) (.loop { state := .ready, pending := none, fn, tmps := act.tmps, params := ps, assign := ca, body := cb, defers := w.heap.size })
        rwa [World.size_alloc] at this
      · simp at hD; subst hD
        exact ⟨Nat.le_refl _, by omega, (Below.heap_alloc _ _ _ (by simp)).trans (World.alloc_heap_new w _)⟩
    | some l₀ =>
      obtain ⟨r₀, hr₀⟩ := hro l₀ rfl
      refine ⟨w.heap.size, [], _, fun st pe => { state := st, pending := pe, fn, tmps := act.tmps, params := ps, assign := ca, body := cb, defers := r₀.defers }, run_enterLoop_inner hr₀ fn act.tmps ps ca cb, Quiet.alloc _ _, Nat.le_refl _, ⟨_, rfl⟩, World.alloc_heap_new w _, fun D hD => by simp at hD, by simp⟩
  obtain ⟨D0, hrec⟩ := hrec0
  have hrun : ∀ (args : Array Value) (W : World), (callFunc gf args).run P W = .ok (.enter gf args) W := fun args W => run_callFunc (P := P) hfn0 hname0 hbody0 args W
  refine ⟨l, ms.map mkOf, w1, { target := .fn (.func gf) ⟨ws⟩, args := #[.func (.yield l) #[] #[]] }, w1, gf, ⟨.func (.yield l) #[] #[] :: ws⟩, w1, henter, ?_, fun _ _ => trivial, ?_, (fun (hh : (none : Option Nat).isSome = true) => by simp at hh), ?_⟩
  · have hev' : act.eval (.tmp d) = .func (.func gf) ⟨[]⟩ ⟨ws⟩ := hev
    simp only [resolve, hev']
    simp [go_sem]
  · have e1 : #[Value.func (.yield l) #[] #[]] ++ (⟨ws⟩ : Array Value) = ⟨.func (.yield l) #[] #[] :: ws⟩ := by apply Array.ext'; simp
    simp [invoke, go_sem, hrun, e1]
  have hinv0 : Mid P S C w act A l (rec .ready none) ms 0 w1 := ⟨⟨g0, C2, hmu0, hg0, hlo2, hH2.cb hq.cb, hF2.cb hq.cb, htr.quiet hq⟩, hrecl, fun D hD => (hms D hD).2.2⟩
  have hrecC : ∀ e : AE, rec .done (some (codeOf e)) = rec .done (some (codeOf e)) := fun _ => rfl
  refine fen_calls ro (callsIn_wide.1 ((hiter caps x hx hpre Ci w1 ws (fun i => by rw [hCi]) (fun b hb => Nat.lt_of_lt_of_le (hH.ilt b ((hCiI b).1 hb)) hq.size) (hwsI.cb hq.cb) l
    (fun k W => Mid P S C w act A l (rec .ready none) ms k W) (fun _ W => Gone P S R Qv C w act l (fun e => rec .done (some (codeOf e))) ms W) (fun _ _ _ h q => h.quiet q) (fun _ _ _ h q => h.quiet q) ?_ hinv0).mono ?_))
  · -- one round
    intro k W0 W I1 vs hk hmid hqw hI1 hI1' hvs
    have hmid := hmid
    obtain ⟨gh, C3, hmu, hpg, hlo3, hH3, hF3, ht3⟩ := hmid.ex
    have hsat := h gh hpg
    have hsat := hsat.1 (by unfold nlt; simpa [hmu] using hk)
    rw [hmu] at hsat
    obtain ⟨C4, hC4⟩ : ∃ C4 : Cx, C4 = ⟨C3.ρ, fun b => C3.I b ∨ I1 b⟩ := ⟨_, rfl⟩
    have hx4 : Cext C3 W C4 W := by rw [hC4]; exact ⟨fun _ _ h => h, fun _ h => .inl h, fun _ _ => rfl⟩
    have hCI3 : ∀ b, Ci.I b → C3.I b := fun b hb => ht3.imm b ((hCiI b).1 hb)
    have hH3W : HR C3 (A.st gh).hp W := hH3.cb hqw.cb
    have hH4 : HR C4 (A.st gh).hp W := by
      refine ⟨fun i p hi => ?_, fun i j b c n b' c' n' h h' => ?_, fun i b c n hi => ?_, fun b hb => ?_⟩
      · rw [hC4] at hi; exact (hH3W.live i p hi).mono hx4 fun _ _ _ _ => rfl
      · rw [hC4] at h h'; exact hH3W.inj _ _ _ _ _ _ _ _ h h'
      · rw [hC4] at hi ⊢
        refine ⟨(hH3W.fresh _ _ _ _ hi).1, fun hb => ?_⟩
        rcases hb with hb | hb
        · exact (hH3W.fresh _ _ _ _ hi).2 hb
        · rcases hI1' b hb with h1 | h1
          · exact (hH3W.fresh _ _ _ _ hi).2 (hCI3 b h1)
          · have := (hH3.fresh _ _ _ _ hi).1; omega
      · rw [hC4] at hb
        rcases hb with hb | hb
        · exact hH3W.ilt b hb
        · rcases hI1' b hb with h1 | h1
          · exact hH3W.ilt b (hCI3 b h1)
          · exact h1.2
    have hF4 : FR [] C4 W (A.st gh).fr act.tmps := (hF3.cb hqw.cb).mono hx4
    have ht4 : Tr S.lo C w C4 W := by
      have t := ht3.quiet hqw
      rw [hC4]
      refine ⟨t.os, t.tape, t.output, t.size, t.keep, fun b hb => .inl (t.imm b hb), fun b hb => ?_, t.rho, t.own⟩
      rcases hb with hb | hb
      · exact t.imm' b hb
      · rcases hI1' b hb with h1 | h1
        · exact .inl ((hCiI b).1 h1)
        · exact .inr (.inl (Nat.le_trans ht3.size h1.1))
    have hvs4 : RelL C4 W (x.it k) vs := hvs.mono ⟨fun i p h => by simp at h, fun b hb => by rw [hC4]; exact .inr hb, fun _ _ => rfl⟩
    obtain ⟨hlen, fr1, hsat, hFr1⟩ := setPs_sat hsat hvs4 hF4
    have hlW : W.heap[l]? = some (.loop (rec .ready none)) := hqw.at hmid.lr
    have hmsW : ∀ D ∈ ms, W.heap[D]? = some (.deferred (some [])) := fun D hD => hqw.at (hmid.ms D hD)
    have hy := run_yield (P := P) (args := ⟨vs⟩) hlW (by rw [hrec]; simp; simpa using hlen.symm)
    have htm : ∀ t, Nat.testBit (mskP ps.toList) t = false → ((ps.toList.zip vs).foldl (fun t (p, v) => t.setIfInBounds p v) act.tmps).getD t undef = act.tmps.getD t undef := fun t ht => by
      refine fold_get _ _ _ fun hm => ?_
      obtain ⟨⟨p, v⟩, hm1, rfl⟩ := List.mem_map.1 hm
      rw [mskP_mem (List.of_mem_zip hm1).1] at ht; cases ht
    have htz := fold_size (ps.toList.zip vs) act.tmps
    have hfold : (ps.zip (⟨vs⟩ : Array Value)).foldl (fun t (p, v) => t.setIfInBounds p v) act.tmps = (ps.toList.zip vs).foldl (fun t (p, v) => t.setIfInBounds p v) act.tmps := by
      rw [← Array.foldl_toList]; simp
    generalize (ps.toList.zip vs).foldl (fun t (p, v) => t.setIfInBounds p v) act.tmps = tm1 at hFr1 htm htz hfold
    refine ⟨fn, tm1, ca, cb, ?_, roundIn_of_wpIn trivial ?_⟩
    · rw [hy, hrec]; simp only; rw [← hfold]
    refine hca (some l) 0 R fr1 _ _ C4 W ⟨tm1, []⟩ _ hlo3 hH4 hFr1 (fun l' hl' => by injection hl' with hl'; subst hl'; exact ⟨_, hlW⟩) hsat ?_
    intro e fr2 hp2 C5 W2 act2 h1 h2 h3 h4 h5 h6
    cases e with
    | exit id => exact h1.elim
    | ret => exact h1.elim
    | normal =>
    have hl2 : W2.heap[l]? = some (.loop (rec .ready none)) := h5.others hH4 hlW rfl
    have hms2 : ∀ D ∈ ms, W2.heap[D]? = some (.deferred (some [])) := fun D hD => h5.others hH4 (hmsW D hD) rfl
    refine ⟨_, run_beginRound hl2 (by rw [hrec]), ?_⟩
    have hcb1 := CB.putObj (.loop { rec .ready none with state := .busy }) hl2 rfl
    have hl3 : (W2.putObj l (.loop { rec .ready none with state := .busy })).heap[l]? = some (.loop { rec .ready none with state := .busy }) := World.putObj_heap_same (Array.getElem?_eq_some_iff.1 hl2).1
    have hms3 : ∀ D ∈ ms, (W2.putObj l (.loop { rec .ready none with state := .busy })).heap[D]? = some (.deferred (some [])) := fun D hD => (World.putObj_heap_other (hms D hD).2.1).trans (hms2 D hD)
    have hk3 : ∀ b, b ≠ l → (W2.putObj l (.loop { rec .ready none with state := .busy })).heap[b]? = W2.heap[b]? := fun b hb => World.putObj_heap_other hb
    have ht5 : Tr S.lo C w C5 (W2.putObj l (.loop { rec .ready none with state := .busy })) := (ht4.trans h5).putObj hl _
    have hs3 : (W2.putObj l (.loop { rec .ready none with state := .busy })).heap.size = W2.heap.size := World.putObj_size
    have hH5 := h3.cb hcb1
    have hF5 := h4.cb hcb1
    generalize W2.putObj l (.loop { rec .ready none with state := .busy }) = W3 at *
    refine hcb (some l) 0 R fr2 hp2 _ C5 W3 act2 _ h2 hH5 hF5 (fun l' hl' => by injection hl' with hl'; subst hl'; exact ⟨_, hl3⟩) h1 ?_
    intro e fr3 hp3 C6 W4 act3 g1 g2 g3 g4 g5 g6
    have ht6 : Tr S.lo C w C6 W4 := ht5.trans g5
    have hl4 : W4.heap[l]? = some (.loop { rec .ready none with state := .busy }) := g5.others hH5 hl3 rfl
    have hms4 : ∀ D ∈ ms, W4.heap[D]? = some (.deferred (some [])) := fun D hD => g5.others hH5 (hms3 D hD) rfl
    obtain ⟨K, g7, hK1, hK2⟩ : ∃ K : List AV → VC, (topM (Nat.lor (mskP ps.toList) (Nat.lor (mskC ca) (mskC cb))) fr3 0 K).sat R ∧ (e = .normal → K = fun fr4 => exR S.lo A (nadd k 1) fr4 hp3) ∧ (e ≠ .normal → K = fun fr4 => Qv e fr4 hp3) := by
      cases e with
      | normal => exact ⟨_, g1, fun _ => rfl, fun h => absurd rfl h⟩
      | exit id => exact ⟨_, g1, (fun h => by cases h), fun _ => rfl⟩
      | ret => exact ⟨_, g1, (fun h => by cases h), fun _ => rfl⟩
    obtain ⟨fr4, e4, hlen4, hget4⟩ := topM_eq (Nat.lor (mskP ps.toList) (Nat.lor (mskC ca) (mskC cb))) fr3 0 K
    rw [e4] at g7
    have hF6 : FR [] C6 W4 fr4 act.tmps := by
      refine ⟨by rw [hlen4, g4.len, g6.sz, h6.sz, htz], fun t => ?_⟩
      rw [hget4 t]
      split
      · exact .plain (.top _) trivial
      · rename_i hb
        by_cases hlt : t < fr3.length
        · have hbit : Nat.testBit (Nat.lor (mskP ps.toList) (Nat.lor (mskC ca) (mskC cb))) t = false := by
            rw [Nat.zero_add] at hb
            cases hbb : Nat.testBit (Nat.lor (mskP ps.toList) (Nat.lor (mskC ca) (mskC cb))) t with
            | false => rfl
            | true => exact absurd ⟨hbb, hlt⟩ hb
          obtain ⟨b1, b2⟩ := msk_or hbit
          obtain ⟨b2, b3⟩ := msk_or b2
          have := g4.get t
          rwa [g6.tm t b3, h6.tm t b2, htm t b1] at this
        · have hl3' := g4.len
          have e1 : getL fr3 t = .tup [] := by rw [getL_eq, List.getD_eq_getElem?_getD, List.getElem?_eq_none (by omega)]; rfl
          have e2 : act.tmps.getD t undef = undef := by
            rw [Array.getD_eq_getD_getElem?, Array.getElem?_eq_none (by rw [← htz, ← h6.sz, ← g6.sz]; omega)]; rfl
          rw [e1, e2]; exact .plain (.tup _ _ .nil) trivial
    have hkeep : ∀ b, Ci.I b → W4.heap[b]? = W.heap[b]? := fun b hb => by
      have hbl : b < w.heap.size := hH.ilt b ((hCiI b).1 hb)
      have hb4 : C4.I b := by rw [hC4]; exact .inl (hCI3 b hb)
      exact (g5.imms hH5 (h5.imm b hb4)).trans ((hk3 b (by omega)).trans (h5.imms hH4 hb4))
    have hsize : W.heap.size ≤ W4.heap.size := Nat.le_trans h5.size (by rw [← hs3]; exact g5.size)
    have fin : ∀ (jump : Option Code), (Instr.endRound l jump).run P W4 = .ok (.bool jump.isNone) (W4.putObj l (.loop (rec (if jump.isNone then .ready else .done) jump))) ∧
        CB W4 (W4.putObj l (.loop (rec (if jump.isNone then .ready else .done) jump))) ∧ (W4.putObj l (.loop (rec (if jump.isNone then .ready else .done) jump))).heap[l]? = some (.loop (rec (if jump.isNone then .ready else .done) jump)) ∧
        (∀ D ∈ ms, (W4.putObj l (.loop (rec (if jump.isNone then .ready else .done) jump))).heap[D]? = some (.deferred (some []))) ∧
        (∀ b, Ci.I b → (W4.putObj l (.loop (rec (if jump.isNone then .ready else .done) jump))).heap[b]? = W.heap[b]?) ∧ W.heap.size ≤ (W4.putObj l (.loop (rec (if jump.isNone then .ready else .done) jump))).heap.size := fun jump => by
      have := run_endRound (P := P) jump hl4
      rw [hrec] at this ⊢
      refine ⟨this, CB.putObj _ hl4 rfl, World.putObj_heap_same (Array.getElem?_eq_some_iff.1 hl4).1, fun D hD => (World.putObj_heap_other (hms D hD).2.1).trans (hms4 D hD), fun b hb => ?_, by simpa using hsize⟩
      have hbl : b < w.heap.size := hH.ilt b ((hCiI b).1 hb)
      exact (World.putObj_heap_other (by omega)).trans (hkeep b hb)
    cases e with
    | normal =>
      rw [hK1 rfl] at g7
      obtain ⟨gh', hpg', hmu', hle⟩ := exR_sat g7
      obtain ⟨k1, k2, k3, k4⟩ := leS_sat hle g3 g2
      obtain ⟨f1, f2, f3, f4, f5, f6⟩ := fin none
      exact ⟨_, _, f1, f5, f6, .inl ⟨rfl, ⟨gh', _, by rw [hmu']; unfold nadd; rfl, hpg', k3, k1.cb f2, (k2 _ hF6).cb f2, (ht6.trans k4).putObj hl _⟩, f3, f4⟩⟩
    | exit id =>
      rw [hK2 (by simp)] at g7
      obtain ⟨f1, f2, f3, f4, f5, f6⟩ := fin (some (.exit id))
      exact ⟨_, _, f1, f5, f6, .inr ⟨rfl, ⟨.exit id, fr4, hp3, C6, by simp, g7, g2, g3.cb f2, hF6.cb f2, ht6.putObj hl _, f3⟩, f4⟩⟩
    | ret =>
      rw [hK2 (by simp)] at g7
      obtain ⟨f1, f2, f3, f4, f5, f6⟩ := fin (some .ret)
      exact ⟨_, _, f1, f5, f6, .inr ⟨rfl, ⟨.ret, fr4, hp3, C6, by simp, g7, g2, g3.cb f2, hF6.cb f2, ht6.putObj hl _, f3⟩, f4⟩⟩
  · -- behind the iterator
    have hkept : ∀ (W : World) (o : Obj), (∀ D ∈ ms, W.heap[D]? = some (.deferred (some []))) → Kept 0 act w { act with defers := ms.map mkOf ++ act.defers } (W.putObj l o) := fun W o hm =>
      ⟨rfl, fun _ _ => rfl, ms, rfl, hnd, fun b hb => ⟨(hms b hb).1, (World.putObj_heap_other (hms b hb).2.1).trans (hm b hb)⟩⟩
    rintro e W ⟨⟨v, rfl⟩, hmid | ⟨k, hk, hgone⟩⟩
    · obtain ⟨gh, C3, hmu, hpg, hlo3, hH3, hF3, ht3⟩ := hmid.ex
      have hl3 := hmid.lr
      have hend := run_endLoop (P := P) hl3 (by rw [hrec]; simp)
      have hcb1 := fun o => CB.putObj (.loop o) hl3 rfl
      rw [hrec] at hend
      refine ⟨none, _, hend, ?_⟩
      have hsat := (h gh hpg).2 (by unfold nlt; simp [hmu])
      exact hgoal .normal _ _ C3 _ _ hsat hlo3 (hH3.cb (hcb1 _)) (hF3.cb (hcb1 _)) (ht3.putObj hl _) (hkept _ _ hmid.ms)
    · obtain ⟨e, fr', hp', C3, hne, hsat, hlo3, hH3, hF3, ht3, hl3⟩ := hgone.ex
      have hend := run_endLoop (P := P) hl3 (by rw [hrec]; simp)
      have hcb1 := fun o => CB.putObj (.loop o) hl3 rfl
      rw [hrec] at hend
      refine ⟨some (codeOf e), _, hend, ?_⟩
      cases e with
      | normal => exact absurd rfl hne
      | exit id => exact wpIn_exit (hgoal (.exit id) fr' hp' C3 _ { act with defers := ms.map mkOf ++ act.defers } hsat hlo3 (hH3.cb (hcb1 _)) (hF3.cb (hcb1 _)) (ht3.putObj hl _) (hkept _ _ hgone.ms))
      | ret => exact wpIn_ret (hgoal .ret fr' hp' C3 _ { act with defers := ms.map mkOf ++ act.defers } hsat hlo3 (hH3.cb (hcb1 _)) (hF3.cb (hcb1 _)) (ht3.putObj hl _) (hkept _ _ hgone.ms))
theorem wpA_sound (hS : SumsOK P S) (hm : P.follows .mixedOrders = true) {U : Nat} {I : Anns} : ∀ (c : Code), codeOK c = true → Snd P S U I c := by
  intro c
  induction c with
  | skip =>
    intro _ ro rm R fr hp Qv C w act Q hlo hH hF hro h hgoal
    exact wpIn_skip (hgoal .normal fr hp C w act h hlo hH hF (.refl _ _ _) (.refl _ _ _ _))
  | region id ops dr =>
    intro hok ro rm R fr hp Qv C w act Q hlo hH hF hro h hgoal
    simp only [wpA] at h
    simp only [codeOK, regOK, Bool.and_eq_true] at hok
    have hg : Goal P S R (Qv .normal) Q C w (RegKept (mskO ops.toList) act) := fun fr' hp' C' w' act' h1 h2 h3 h4 h5 h6 => hgoal .normal fr' hp' C' w' act' h1 h2 h3 h4 h5 (h6.kept _ _)
    have hds : RegKept (mskO ops.toList) act act := ⟨rfl, fun _ _ => rfl, rfl⟩
    have hput := regKept_put ops.toList act
    cases dr with
    | false =>
      simp only at h
      split at h
      · rename_i s a b n hc
        obtain ⟨h1, h2⟩ := h
        refine region_nil hc hF fun bb hb act' hk hF' => hgoal .normal _ hp C w act' ?_ hlo hH hF' (.refl _ _ _) (hk.kept _ _)
        cases bb with
        | true =>
          have := h1.1 (by unfold ieq icast; simp [hb rfl])
          simpa only [setF_eq] using this
        | false =>
          have := h2 () trivial
          simpa only [setF_eq] using this
      · exact region_text hS hok.1 hlo hH hF h hput hds hg
    | true =>
      have h2 := hok.2
      simp only [Bool.and_eq_true] at h2
      exact region_draw hS hm hok.1 h2.1 (back_spec h2.2) hlo hH hF h hput hds hg
  | seq a b iha ihb =>
    intro hok ro rm R fr hp Qv C w act Q hlo hH hF hro h hgoal
    simp only [codeOK, Bool.and_eq_true] at hok
    simp only [wpA] at h
    refine wpIn_seq (iha hok.1 ro rm R fr hp _ C w act _ hlo hH hF hro h ?_)
    intro e fr' hp' C' w' act' h1 h2 h3 h4 h5 h6
    have h6' := h6.sub (W' := mskC (.seq a b)) fun t ht => (msk_or ht).1
    cases e with
    | normal => exact ihb hok.2 ro rm R fr' hp' Qv C' w' act' Q h2 h3 h4 (hro.tr h5 hH) h1 ((hgoal.step h5 h6' h3).sub fun t ht => (msk_or ht).2)
    | exit id => exact hgoal (.exit id) fr' hp' C' w' act' h1 h2 h3 h4 h5 h6'
    | ret => exact hgoal .ret fr' hp' C' w' act' h1 h2 h3 h4 h5 h6'
  | cond c a b iha ihb =>
    intro hok ro rm R fr hp Qv C w act Q hlo hH hF hro h hgoal
    simp only [codeOK, Bool.and_eq_true] at hok
    simp only [wpA] at h
    have hga := hgoal.sub (W' := mskC a) fun t ht => (msk_or ht).1
    have hgb := hgoal.sub (W' := mskC b) fun t ht => (msk_or ht).2
    split at h
    · rename_i d
      unfold branchK at h
      have hd := (hF.get d).1
      split at h
      · rename_i hv
        rw [hv] at hd
        refine wpIn_cond_true (c := .tmp d) ?_ (iha hok.1 ro rm R fr hp Qv C w act Q hlo hH hF hro h hga)
        show act.tmps.getD d undef = _
        generalize act.tmps.getD d undef = u at hd; cases hd; rfl
      · rename_i hv
        rw [hv] at hd
        refine wpIn_cond_false (c := .tmp d) ?_ (ihb hok.2 ro rm R fr hp Qv C w act Q hlo hH hF hro h hgb)
        show act.tmps.getD d undef = _
        generalize act.tmps.getD d undef = u at hd; cases hd; rfl
      · rename_i t hv
        rw [hv] at hd
        have hvt : act.tmps.getD d undef = .bool t := by generalize act.tmps.getD d undef = u at hd; cases hd; rfl
        refine wpIn_cond_split (c := .tmp d) hvt (fun ht => ?_) (fun ht => ?_)
        · have h1 := h.1 ht
          rw [setF_eq] at h1
          exact iha hok.1 ro rm R _ hp Qv C w act Q hlo hH (hF.known (a := .lb true) (.plain (by rw [hvt, ht]; exact .lb _) trivial)) hro h1 hga
        · have h1 := h.2 ht
          rw [setF_eq] at h1
          exact ihb hok.2 ro rm R _ hp Qv C w act Q hlo hH (hF.known (a := .lb false) (.plain (by rw [hvt, ht]; exact .lb _) trivial)) hro h1 hgb
      · exact h.elim
    · exact wpIn_cond_true rfl (iha hok.1 ro rm R fr hp Qv C w act Q hlo hH hF hro h hga)
    · exact wpIn_cond_false rfl (ihb hok.2 ro rm R fr hp Qv C w act Q hlo hH hF hro h hgb)
    · exact h.elim
  | block id c ih =>
    intro hok ro rm R fr hp Qv C w act Q hlo hH hF hro h hgoal
    simp only [wpA] at h
    refine wpIn_block (ih hok ro rm R fr hp _ C w act _ hlo hH hF hro h ?_)
    intro e fr' hp' C' w' act' h1 h2 h3 h4 h5 h6
    cases e with
    | normal => exact hgoal .normal fr' hp' C' w' act' h1 h2 h3 h4 h5 h6
    | exit j =>
      simp only at h1
      show (if j = id then Q .normal act' w' else Q (.exit j) act' w')
      split at h1
      · rename_i hj
        rw [if_pos (Nat.eq_of_beq_eq_true hj).symm]
        exact hgoal .normal fr' hp' C' w' act' h1 h2 h3 h4 h5 h6
      · rename_i hj
        rw [if_neg (fun e => by subst e; simp at hj)]
        exact hgoal (.exit j) fr' hp' C' w' act' h1 h2 h3 h4 h5 h6
    | ret => exact hgoal .ret fr' hp' C' w' act' h1 h2 h3 h4 h5 h6
  | loop c ih =>
    intro hok ro rm R fr hp Qv C w act Q hlo hH hF hro h hgoal
    simp only [wpA] at h
    split at h
    · exact snd_iter (ih hok) U hlo hH hF hro h hgoal
    · rename_i nils ann hann
      obtain ⟨fr, hp, C1, h, hlo, hH, hF, htr⟩ := nilK_sat h hlo hH hF
      obtain ⟨h0, h3⟩ := h
      obtain ⟨g, h1, _, h2⟩ := exK_sat h0
      exact snd_ann (ih hok) (A := ann fr hp) hlo hH hF hro ⟨g, h1, h2⟩ (fun g hg => by have := h3 g hg; simp only [forceL_eq, forceH_eq] at this; exact this) (hgoal.step htr (.refl _ _ _ _) hH)
  | rangeFunc g ps a b iha ihb =>
    intro hok ro rm R fr hp Qv C w act Q hlo hH hF hro h hgoal
    simp only [codeOK, Bool.and_eq_true] at hok
    exact snd_range hS (iha hok.1) (ihb hok.2) hlo hH hF hro h hgoal
  | exit id =>
    intro _ ro rm R fr hp Qv C w act Q hlo hH hF hro h hgoal
    exact wpIn_exit (hgoal (.exit id) fr hp C w act h hlo hH hF (.refl _ _ _) (.refl _ _ _ _))
  | ret =>
    intro _ ro rm R fr hp Qv C w act Q hlo hH hF hro h hgoal
    exact wpIn_ret (hgoal .ret fr hp C w act h hlo hH hF (.refl _ _ _) (.refl _ _ _ _))
  | _ =>
    intro _ ro rm R fr hp Qv C w act Q hlo hH hF hro h hgoal
    exact h.elim

-- the results
theorem resK_sat {R : AV → Heap → Prop} {fr : List AV} {tm : Array Value} {F : ResultVar → Sem Value} (hF1 : ∀ t, F (.tmp t) = pure (tm.getD t undef)) (hF2 : ∀ a t, F (.cell a t) = (do loadVar t (← asAddr (tm.getD a undef)))) (hH : HR C hp w) (hF : FR [] C w fr tm) :
    ∀ {l : List ResultVar} {k : List AV → VC}, (resK P fr hp l k).sat R → ∃ bs vs, (k bs).sat R ∧ RelL C w bs vs ∧ (l.mapM F).run P w = .ok vs w
  | [], k, h => ⟨[], [], h, .nil, by simp⟩
  | .tmp t :: l, k, h => by
    obtain ⟨bs, vs, h1, h2, h3⟩ := resK_sat hF1 hF2 hH hF (l := l) h
    refine ⟨_, tm.getD t undef :: vs, h1, .cons _ _ _ _ (hF.get t).1 h2, ?_⟩
    rw [List.mapM_cons, hF1, Sem.run_bind, Sem.run_pure, Result.andThen_ok, Sem.run_bind, h3, Result.andThen_ok, Sem.run_pure]
  | .cell a ty :: l, k, h => by
    simp only [resK] at h
    split at h
    · rename_i x hx
      obtain ⟨bs, vs, h1, h2, h3⟩ := resK_sat hF1 hF2 hH hF (l := l) h
      obtain ⟨u, hu, hr⟩ := run_load (P := P) hH (fun _ _ => rfl) (hF.get a).1 hx
      have hp' : ∃ ad, tm.getD a undef = .pointer (some ad) := by
        have hra := (hF.get a).1
        generalize getL fr a = b at hra hx
        generalize tm.getD a undef = v at hra
        cases hra <;> first | exact ⟨_, rfl⟩ | simp [loadA] at hx
      obtain ⟨ad, hp'⟩ := hp'
      rw [hp'] at hu
      have hu' : (loadVar ty ad).run P w = .ok u w := by simpa [Instr.loadAt, Instr.sureAddr] using hu
      refine ⟨_, u :: vs, h1, .cons _ _ _ _ hr h2, ?_⟩
      have hcell : (F (.cell a ty)).run P w = .ok u w := by
        rw [hF2, hp']; simpa [asAddr] using hu'
      rw [List.mapM_cons, Sem.run_bind, hcell, Result.andThen_ok, Sem.run_bind, h3, Result.andThen_ok, Sem.run_pure]
    · exact h.elim

/-- what a function's tree says of a call -/
theorem calls_wpF (hS : SumsOK P S) (hm : P.follows .mixedOrders = true) {U : Nat} {I : Anns} {f : FuncId} {fn : Func} {c : Code} (hf : P.funcs[f]? = some fn) (hb : fn.body = some c) (hok : codeOK c = true) {R : AV → Heap → Prop} {args : List AV} {vs : List Value}
    (hlo : S.lo ≤ hp.length) (hH : HR C hp w) (ha : RelL C w args vs) (hng : ∀ t, notGd (getL args t)) (hn : args.length ≤ fn.ntmps) (h : (wpF P S U I fn args hp).sat R) :
    Calls P f ⟨vs⟩ w fun e w' => ∃ v a hp' C', e = .returned v ∧ R a hp' ∧ S.lo ≤ hp'.length ∧ HR C' hp' w' ∧ Rel C' w' a v ∧ Tr S.lo C w C' w' := by
  refine callsIn_wide.1 (callsIn_of_wp_marks (F := fen none) (n := 0) hf hb trivial ?_ rfl)
  unfold wpF at h
  simp only [hb, forceL_eq] at h
  have hpad : ∀ (l : List AV) (n : Nat), l.length ≤ n → padL l n = l ++ List.replicate (n - l.length) (.tup []) := by
    intro l
    induction l with
    | nil =>
      intro n _
      induction n with
      | zero => rfl
      | succ n ih => simp only [padL, ih (by simp)]; simp [List.replicate_succ]
    | cons a l ih =>
      intro n hn
      cases n with
      | zero => simp at hn
      | succ n => simp only [padL, ih n (by simpa using hn)]; simp
  rw [hpad _ _ hn] at h
  have hle := ha.len
  have hF : FR [] C w (args ++ List.replicate (fn.ntmps - args.length) (.tup [])) ((⟨vs⟩ : Array Value) ++ Array.replicate (fn.ntmps - (⟨vs⟩ : Array Value).size) undef) := by
    refine ⟨by simp [hle], fun t => ?_⟩
    rw [getL_eq, List.getD_eq_getElem?_getD, Array.getD_eq_getD_getElem?]
    by_cases ht : t < args.length
    · rw [List.getElem?_append_left ht, Array.getElem?_append_left (by simp; omega)]
      have h1 : args[t]? = some (args[t]'ht) := List.getElem?_eq_getElem _
      obtain ⟨v, h2, h3⟩ := ha.get h1
      rw [h1]
      simp only [List.getElem?_toArray, h2, Option.getD_some]
      refine .plain h3 ?_
      have := hng t
      rwa [getL_eq, List.getD_eq_getElem?_getD, h1] at this
    · rw [List.getElem?_append_right (by omega), Array.getElem?_append_right (by simp; omega)]
      refine .plain ?_ ?_
      · have e1 : ((List.replicate (fn.ntmps - args.length) (AV.tup []))[t - args.length]?).getD (.tup []) = .tup [] := by
          rw [List.getElem?_replicate]; split <;> rfl
        have e2 : ((Array.replicate (fn.ntmps - (⟨vs⟩ : Array Value).size) undef)[t - (⟨vs⟩ : Array Value).size]?).getD undef = undef := by
          rw [Array.getElem?_replicate]; split <;> rfl
        rw [e1, e2]
        exact .tup _ _ .nil
      · rw [List.getElem?_replicate]; split <;> trivial
  refine wpA_sound hS hm c hok none 0 R _ hp _ C w ⟨_, []⟩ _ hlo hH hF (fun l hl => by cases hl) h ?_
  intro e fr' hp' C' w' act' h1 h2 h3 h4 h5 h6
  have key : (resK P fr' hp' fn.results.toList fun l => outK l hp').sat R → LeavesInM (fen none) 0 P fn act'.tmps (fun e w' => ∃ v a hp' C', e = .returned v ∧ R a hp' ∧ S.lo ≤ hp'.length ∧ HR C' hp' w' ∧ Rel C' w' a v ∧ Tr S.lo C w C' w') act'.defers .returning w' := by
    intro hk
    obtain ⟨ms, hms, hnd, hat⟩ := h6.dfs
    rw [hms, List.append_nil]
    clear hms
    revert h3 h4 h5 hat
    generalize w' = w1
    intro h3 h4 h5 hat
    induction ms generalizing w1 with
    | cons b ms ih =>
      have hb := hat b (List.mem_cons_self ..)
      rw [List.nodup_cons] at hnd
      have hcb := CB.putObj (.deferred none) hb.2 rfl
      refine ⟨by simp, .inl ⟨b, _, rfl, run_takeDeferred hb.2, ih hnd.2 _ (h3.cb hcb) (h4.cb hcb) (h5.putObj hb.1 _) fun c hc => ?_⟩⟩
      have h7 := hat c (List.mem_cons_of_mem _ hc)
      exact ⟨h7.1, (World.putObj_heap_other fun e => hnd.1 (by rw [← e]; exact hc)).trans h7.2⟩
    | nil =>
    have hres : ∃ F : ResultVar → Sem Value, (∀ t, F (.tmp t) = pure (act'.tmps.getD t undef)) ∧ (∀ a t, F (.cell a t) = (do loadVar t (← asAddr (act'.tmps.getD a undef)))) ∧
        results fn act'.tmps = (do let vs ← fn.results.mapM F; pure (if h : vs.size = 1 then vs[0] else .tuple vs)) :=
      ⟨fun x => match x with | .tmp t => pure (act'.tmps.getD t undef) | .cell a t => do loadVar t (← asAddr (act'.tmps.getD a undef)), fun _ => rfl, fun _ _ => rfl, rfl⟩
    obtain ⟨F, hF1, hF2, hres⟩ := hres
    obtain ⟨bs, us, h7, h8, h9⟩ := resK_sat (P := P) hF1 hF2 h3 h4 hk
    have hrun : (results fn act'.tmps).run P w1 = .ok (if h : us.length = 1 then us[0] else .tuple ⟨us⟩) w1 := by
      rw [hres]
      have e1 : fn.results.mapM F = (List.toArray <$> fn.results.toList.mapM F) := by
        rw [← List.mapM_toArray]
      rw [e1]
      simp [h9]
    refine ⟨_, hrun, ?_⟩
    unfold outK at h7
    split at h7
    · rename_i a
      cases h8 with
      | cons _ _ v _ h10 h11 =>
        cases h11
        rw [forceD_eq] at h7
        exact ⟨_, a, hp', C', rfl, h7, h2, h3, by simpa using h10, h5⟩
    · rename_i hne
      rw [forceLD_eq] at h7
      have : us.length ≠ 1 := by
        rw [← h8.len]
        intro hl
        obtain ⟨a, rfl⟩ := List.length_eq_one_iff.1 hl
        exact hne a rfl
      rw [dif_neg this]
      exact ⟨_, .tup bs, hp', C', rfl, h7, h2, h3, .tup _ _ h8, h5⟩
  cases e with
  | normal => exact key h1
  | ret => exact key h1
  | exit id => exact h1.elim
end
end Abs
end Go.Proofs.Ytjblicdceafcpaa

/- Functions' contracts; summaries by shapes. -/
namespace Go.Proofs.Ytjblicdceafcpaa
namespace Abs
open Go Go.RowKit

section
variable {P : Program} {S : Sums} {C C' : Cx} {w w' : World} {H hp : Heap}

theorem appP_mem : ∀ {l m : List Cd}, (∀ p ∈ appP l m, p.ok) → (∀ p ∈ l, p.ok) ∧ ∀ p ∈ m, p.ok
  | [], m, h => ⟨fun p hp => by simp at hp, h⟩
  | p :: l, m, h => by
    obtain ⟨h1, h2⟩ := appP_mem (l := l) (m := m) fun q hq => h q (List.mem_cons_of_mem _ hq)
    exact ⟨fun q hq => by
      rcases List.mem_cons.1 hq with rfl | hq
      · exact h _ (List.mem_cons_self ..)
      · exact h1 q hq, h2⟩

theorem enc_okC : ∀ {s : Sh} {x : Dat s}, cellSh s = true → okC (enc s x) = true
  | .int k, x, _ => by simp [enc, okC]
  | .bool, x, _ => by simp [enc, okC]
  | .slice sz e, x, _ => by simp [enc, okC]
  | .agg l, x, h => by cases h
  | .fn _ _ _, x, h => by cases h
  | .ptr _, x, h => by cases h
  | .own _ _, x, h => by cases h
  | .rowr _, x, h => by cases h
  | .any, x, h => by cases h
theorem enc_okL : ∀ {l : List Sh} {x : DatL l}, cellShL l = true → okL (encL l x) = true
  | [], _, _ => by simp [encL, okL]
  | s :: l, x, h => by
    simp [cellShL] at h
    simp [encL, okL, enc_okC h.1, enc_okL h.2]
theorem encL_len : ∀ {l : List Sh} {x : DatL l}, (encL l x).length = l.length
  | [], _ => by simp [encL]
  | s :: l, x => by simp [encL, encL_len]

mutual
theorem enc_noOwn : ∀ {s : Sh} {x : Dat s}, noOwn s = true → ownIn (enc s x) = false
  | .int k, x, _ => by simp [enc, ownIn]
  | .bool, x, _ => by simp [enc, ownIn]
  | .slice sz e, x, _ => by simp [enc, ownIn]
  | .agg l, x, h => by
    unfold noOwn at h
    simp only [enc, ownIn]
    exact enc_noOwnL h
  | .fn _ a b, x, h => by
    unfold noOwn at h
    simp only [Bool.and_eq_true] at h
    simp only [enc, ownIn]
    rw [enc_noOwnL h.1, enc_noOwnL h.2]; rfl
  | .ptr _, x, _ => by simp [enc, ownIn]
  | .own _ _, x, h => by cases h
  | .rowr _, x, h => by cases h
  | .any, x, h => by cases h
theorem enc_noOwnL : ∀ {l : List Sh} {x : DatL l}, noOwnL l = true → ownIn.ownInL (encL l x) = false
  | [], _, _ => by simp [encL, ownIn.ownInL]
  | s :: l, x, h => by
    unfold noOwnL at h
    simp only [Bool.and_eq_true] at h
    simp only [encL, ownIn.ownInL]
    rw [enc_noOwn h.1, enc_noOwnL h.2]; rfl
end

mutual
theorem enc_dec : ∀ {s : Sh} {a : AV} {v : Value}, okSh s a = true → CanSh s a → Rel C w a v → Rel C w (enc s (dec s a)) v
  | .int k, a, v, h, _, hr => by
    unfold okSh at h
    split at h
    · rename_i k' hk
      have h := of_decide_eq_true h
      subst h
      rw [kindOf_rel hr hk]
      simp only [enc, dec]
      exact .si _ _
    · cases h
  | .bool, a, v, h, _, hr => by
    unfold okSh at h
    simp only [enc, dec]
    cases a <;> simp [isBoolA] at h
    · cases hr; exact .sb _
    · cases hr; exact .sb _
  | .slice sz e, a, v, h, hc, hr => by
    unfold okSh at h
    simp only [Bool.and_eq_true] at h
    obtain ⟨hcs, h⟩ := h
    split at h
    · rename_i n sz' el
      obtain rfl := Nat.eq_of_beq_eq_true h
      unfold CanSh at hc
      unfold enc dec
      cases hr with
      | slc _ _ _ A cap vs hcap hA hr hl hn =>
        exact .slc (.sym n.val) sz _ A cap vs hcap hA (fun k hk => encL_dec (hc k hk) (hr k hk)) hl (fun k hk => enc_okL hcs)
    · cases hr
      unfold enc dec
      exact .slc (.sym 0) sz _ none 0 (fun _ => []) (Nat.le_refl _) (fun h => by simp [LN.val] at h) (fun k hk => by simp [LN.val] at hk) (fun k hk => by simp [LN.val] at hk) (fun k hk => by simp [LN.val] at hk)
    · cases h
  | .agg l, a, v, h, hc, hr => by
    unfold CanSh at hc
    split at hc
    · rename_i m
      cases hr with
      | agg _ vs hr =>
        unfold enc dec
        exact .agg _ vs (encL_dec hc hr)
    · exact hc.elim
  | .fn f a b, x, v, h, hc, hr => by
    unfold okSh at h
    unfold CanSh at hc
    split at h
    · rename_i g l m
      simp only [Bool.and_eq_true] at h
      obtain rfl := Nat.eq_of_beq_eq_true h.1.1
      cases hr with
      | fn _ _ _ vs ws h1 h2 =>
        unfold enc dec
        exact .fn _ _ _ vs ws (encL_dec hc.1 h1) (encL_dec hc.2 h2)
    · cases h
  | .ptr l, a, v, h, hc, hr => by
    unfold okSh at h
    unfold CanSh at hc
    split at h
    · rename_i m
      simp only [Bool.and_eq_true] at h
      cases hr with
      | xp _ ad vs hr hI hcl hn =>
        unfold enc dec
        show Rel C w (.xp (encL l (decL l m))) _
        have h1 := encL_dec hc hr
        have h2 := h1.len
        have h3 := hr.len
        refine .xp _ ad vs h1 (fun hne => hI fun e => hne ?_) (fun j hj => hcl j (by omega)) (enc_noOwnL h.1)
        have h4 : m.length = 0 := by rw [e]; rfl
        exact List.length_eq_zero_iff.1 (by omega)
    · cases h
  | .own i off, a, v, h, _, hr => by
    unfold okSh at h
    split at h
    · simp only [Bool.and_eq_true] at h
      obtain rfl := Nat.eq_of_beq_eq_true h.1
      obtain rfl := Nat.eq_of_beq_eq_true h.2
      unfold enc; exact hr
    · cases h
  | .rowr i, a, v, h, _, hr => by
    unfold okSh at h
    split at h
    · obtain rfl := Nat.eq_of_beq_eq_true h
      unfold enc; exact hr
    · cases h
  | .any, a, v, _, _, hr => by unfold enc dec; exact hr
theorem encL_dec : ∀ {l : List Sh} {m : List AV} {vs : List Value}, CanL l m → RelL C w m vs → RelL C w (encL l (decL l m)) vs
  | [], m, vs, h, hr => by
    unfold CanL at h
    split at h
    · cases hr; unfold encL; exact .nil
    · exact h.elim
  | s :: l, m, vs, h, hr => by
    unfold CanL at h
    split at h
    · rename_i a m
      cases hr with
      | cons _ _ v vs h1 h2 =>
        unfold encL decL
        exact .cons _ _ _ _ (enc_dec h.1 h.2.1 h1) (encL_dec h.2.2 h2)
    · exact h.elim
end

mutual
theorem can_sh : ∀ {s : Sh} {a : AV}, okSh s a = true → (∀ p ∈ canSh s a, p.ok) → CanSh s a
  | .int k, a, _, _ => by unfold CanSh; trivial
  | .bool, a, _, _ => by unfold CanSh; trivial
  | .any, a, _, _ => by unfold CanSh; trivial
  | .own _ _, a, _, _ => by unfold CanSh; trivial
  | .rowr _, a, _, _ => by unfold CanSh; trivial
  | .slice sz e, a, h, hc => by
    unfold CanSh
    split
    · rename_i n sz' el
      exact hc ⟨CanEl e, (n.val, el)⟩ (by unfold canSh; exact List.mem_singleton.2 rfl)
    · trivial
  | .agg l, a, h, hc => by
    unfold okSh at h
    unfold CanSh
    split at h
    · rename_i m
      exact can_shL h (fun p hp => hc p (by unfold canSh; exact hp))
    · cases h
  | .fn f a b, v, h, hc => by
    unfold okSh at h
    unfold CanSh
    split at h
    · rename_i g l m
      simp only [Bool.and_eq_true] at h
      obtain ⟨h1, h2⟩ := appP_mem (l := canShL a l) (m := canShL b m) fun p hp => hc p (by unfold canSh; exact hp)
      exact ⟨can_shL h.1.2 h1, can_shL h.2 h2⟩
    · cases h
  | .ptr l, a, h, hc => by
    unfold okSh at h
    unfold CanSh
    split at h
    · rename_i m
      simp only [Bool.and_eq_true] at h
      exact can_shL h.2 (fun p hp => hc p (by unfold canSh; exact hp))
    · cases h
theorem can_shL : ∀ {l : List Sh} {m : List AV}, okShL l m = true → (∀ p ∈ canShL l m, p.ok) → CanL l m
  | [], m, h, _ => by
    unfold okShL at h
    unfold CanL
    split at h
    · trivial
    · cases h
  | s :: l, m, h, hc => by
    unfold okShL at h
    unfold CanL
    split at h
    · rename_i a m
      simp only [Bool.and_eq_true] at h
      obtain ⟨h1, h2⟩ := appP_mem (l := canSh s a) (m := canShL l m) fun p hp => hc p (by unfold canShL; exact hp)
      exact ⟨h.1, can_sh h.1 h1, can_shL h.2 h2⟩
    · cases h
end

/-- what is known of a function: what it asks, and what it answers, by the data that come in -/
structure Spec (shs : List Sh) where
  pre : DatL shs → Prop
  res : DatL shs → AV
def mkSum (shs : List Sh) (sp : Spec shs) : Summ := fun args => match okShL shs args with
  | true => decKL shs args fun x => some ⟨appP (canShL shs args) [⟨sp.pre, x⟩], sp.res x, []⟩
  | false => none
mutual
theorem decK_eq {β : Type 1} : ∀ {s : Sh} {a : AV} {f : Dat s → β}, okSh s a = true → decK s a f = f (dec s a)
  | .int k, a, f, h => by
    unfold okSh at h
    cases a <;> simp [kindOf] at h <;> simp [decK, dec, intOf]
  | .bool, a, f, h => by
    unfold okSh at h
    cases a <;> simp [isBoolA] at h <;> simp [decK, dec, boolOf]
  | .slice sz e, a, f, h => by
    unfold okSh at h
    simp only [Bool.and_eq_true] at h
    obtain ⟨_, h⟩ := h
    split at h
    · rename_i n _ el; unfold decK dec; cases n <;> rfl
    · unfold decK dec; rfl
    · cases h
  | .agg l, a, f, h => by
    unfold okSh at h
    split at h
    · unfold decK dec; exact decKL_eq h
    · cases h
  | .fn _ x y, a, f, h => by
    unfold okSh at h
    split at h
    · simp only [Bool.and_eq_true] at h
      unfold decK dec
      simp only
      rw [decKL_eq h.1.2, decKL_eq h.2]
    · cases h
  | .ptr l, a, f, h => by
    unfold okSh at h
    split at h
    · simp only [Bool.and_eq_true] at h
      unfold decK dec; exact decKL_eq h.2
    · cases h
  | .own _ _, a, f, _ => by unfold decK dec; rfl
  | .rowr _, a, f, _ => by unfold decK dec; rfl
  | .any, a, f, _ => by unfold decK dec; rfl
theorem decKL_eq {β : Type 1} : ∀ {l : List Sh} {m : List AV} {f : DatL l → β}, okShL l m = true → decKL l m f = f (decL l m)
  | [], m, f, h => by unfold decKL decL; rfl
  | s :: l, m, f, h => by
    unfold okShL at h
    split at h
    · simp only [Bool.and_eq_true] at h
      unfold decKL decL
      simp only
      rw [decK_eq h.1, decKL_eq h.2]
    · cases h
end

theorem Fn.weaken {f : FuncId} {args args' : List AV} {r : AV} {H' : Heap} (h : Fn P f args' H r H') (hw : ∀ (C : Cx) (w : World) (vs : List Value), RelL C w args vs → RelL C w args' vs) : Fn P f args H r H' :=
  fun C w vs hH ha => h C w vs hH (hw C w vs ha)

/-- the function answers by its spec -/
def FnSpec (P : Program) (f : FuncId) (shs : List Sh) (sp : Spec shs) : Prop := ∀ x : DatL shs, sp.pre x → Fn P f (encL shs x) [] (sp.res x) []

theorem mkSum_ok {f : FuncId} {shs : List Sh} {sp : Spec shs} (h : FnSpec P f shs sp) : ∀ args pre res new, mkSum shs sp args = some ⟨pre, res, new⟩ → (∀ p ∈ pre, p.ok) → Fn P f args [] res new := by
  intro args pre res new hm hp
  unfold mkSum at hm
  split at hm
  · rename_i hok
    rw [decKL_eq hok] at hm
    injection hm with hm; injection hm with h1 h2 h3
    subst h1 h2 h3
    obtain ⟨h4, h5⟩ := appP_mem hp
    exact (h _ (h5 _ (List.mem_singleton.2 rfl))).weaken fun C w vs ha => encL_dec (can_shL hok h4) ha
  · cases hm

-- the summaries, one after the other
theorem SumsOK.nil (P : Program) (lo : Nat) (eqs : List (Nat × List (Option IntKind))) (h : ∀ t ks, findS eqs t = some ks → EqOK P t ks) : SumsOK P ⟨[], [], lo, eqs, []⟩ :=
  ⟨(fun _ _ h => by cases h), (fun _ _ h => by cases h), h, (fun _ _ h => by cases h), (fun _ _ h => by cases h), (fun _ _ h => by cases h)⟩
theorem SumsOK.addIt {one : List (Nat × Summ)} {two : List (Nat × Summ2)} {lo : Nat} {eqs : List (Nat × List (Option IntKind))} {its : List (Nat × Iter)} (hS : SumsOK P ⟨one, two, lo, eqs, its⟩) {f : FuncId} {fn : Func} (hf : P.funcs[f]? = some fn) (hn : (fn.name == "runtime.NumGoroutine") = false) (hb : fn.body.isNone = false)
    {it : Iter} (h : IterOK P f it) : SumsOK P ⟨one, two, lo, eqs, (f, it) :: its⟩ := by
  refine ⟨hS.one, hS.two, hS.eqs, hS.bodyOne, hS.bodyTwo, fun g s1 hg => ?_⟩
  simp only [findS] at hg
  split at hg
  · rename_i e
    injection hg with hg; subst hg
    obtain rfl := Nat.eq_of_beq_eq_true e
    exact ⟨h, fn, hf, hn, hb⟩
  · exact hS.its g s1 hg
theorem SumsOK.cons {one : List (Nat × Summ)} {two : List (Nat × Summ2)} {lo : Nat} {eqs : List (Nat × List (Option IntKind))} {its : List (Nat × Iter)} (hS : SumsOK P ⟨one, two, lo, eqs, its⟩) {f : FuncId} {fn : Func} (hf : P.funcs[f]? = some fn) (hn : (fn.name == "runtime.NumGoroutine") = false) (hb : fn.body.isNone = false)
    {shs : List Sh} {sp : Spec shs} (h : FnSpec P f shs sp) : SumsOK P ⟨(f, mkSum shs sp) :: one, two, lo, eqs, its⟩ := by
  refine ⟨fun g s1 hg => ?_, hS.two, hS.eqs, fun g s1 hg => ?_, hS.bodyTwo, hS.its⟩
  · simp only [findS] at hg
    split at hg
    · rename_i e
      injection hg with hg; subst hg
      obtain rfl := Nat.eq_of_beq_eq_true e
      exact mkSum_ok h
    · exact hS.one g s1 hg
  · simp only [findS] at hg
    split at hg
    · rename_i e
      obtain rfl := Nat.eq_of_beq_eq_true e
      exact ⟨fn, hf, hn, hb⟩
    · exact hS.bodyOne g s1 hg

/-- what the tree of a function must say, for an answer r and own objects H' -/
def FnSat (P : Program) (S : Sums) (U : Nat) (I : Anns) (fn : Func) (args : List AV) (H : Heap) (r : AV) (H' : Heap) : Prop :=
  (wpF P S U I fn args H).sat fun a hp => (leS H.length [a] hp ⟨[r], H'⟩).sat fun _ _ => True

theorem Fn.of (hS : SumsOK P S) (hm : P.follows .mixedOrders = true) {U : Nat} {I : Anns} {f : FuncId} {fn : Func} {c : Code} (hf : P.funcs[f]? = some fn) (hb : fn.body = some c) (hok : codeOK c = true) {args : List AV} {r : AV} {H' : Heap}
    (hlo : S.lo = H.length) (hng : ∀ t, notGd (getL args t)) (hn : args.length ≤ fn.ntmps) (h : FnSat P S U I fn args H r H') : Fn P f args H r H' := by
  intro C w vs hH ha
  refine (calls_wpF hS hm hf hb hok (by omega) hH ha hng hn h).mono ?_
  rintro e w' ⟨v, a, hp', C1, he, hle, h1, h2, h3, h4⟩
  rw [hlo] at h1 h4
  obtain ⟨h5, h6, h7, h8⟩ := leS_sat hle h2 h1
  have h9 : Rel (C1.cut H.length H') w' r v := by
    unfold leS at hle
    unfold leL at hle
    exact ((leA_sat hle).2 C1 w' h2 v h3).1
  refine ⟨v, _, he, h5, h9, ((Since.refl fun i hi => ?_).step h4).step h8⟩
  cases hc : C.ρ i with
  | none => rfl
  | some p => have := hH.lt hc; omega

/-- a spec with new objects of the caller's -/
structure SpecN (shs : List Sh) where
  pre : DatL shs → Prop
  res : DatL shs → AV
  new : DatL shs → Heap
def mkSumN (shs : List Sh) (sp : SpecN shs) : Summ := fun args => match okShL shs args with
  | true => decKL shs args fun x => some ⟨appP (canShL shs args) [⟨sp.pre, x⟩], sp.res x, sp.new x⟩
  | false => none
def FnSpecN (P : Program) (f : FuncId) (shs : List Sh) (sp : SpecN shs) : Prop := ∀ x : DatL shs, sp.pre x → Fn P f (encL shs x) [] (sp.res x) (sp.new x)
theorem mkSumN_ok {f : FuncId} {shs : List Sh} {sp : SpecN shs} (h : FnSpecN P f shs sp) : ∀ args pre res new, mkSumN shs sp args = some ⟨pre, res, new⟩ → (∀ p ∈ pre, p.ok) → Fn P f args [] res new := by
  intro args pre res new hm hp
  unfold mkSumN at hm
  split at hm
  · rename_i hok
    rw [decKL_eq hok] at hm
    injection hm with hm; injection hm with h1 h2 h3
    subst h1 h2 h3
    obtain ⟨h4, h5⟩ := appP_mem hp
    exact (h _ (h5 _ (List.mem_singleton.2 rfl))).weaken fun C w vs ha => encL_dec (can_shL hok h4) ha
  · cases hm

/-- any summary that is right -/
def SummOK (P : Program) (f : FuncId) (s : Summ) : Prop := ∀ args pre res new, s args = some ⟨pre, res, new⟩ → (∀ p ∈ pre, p.ok) → Fn P f args [] res new
/-- one summary, or else another -/
def altSum (s t : Summ) : Summ := fun args => match s args with | some r => some r | none => t args
theorem altSum_ok {f : FuncId} {s t : Summ} (hs : SummOK P f s) (ht : SummOK P f t) : SummOK P f (altSum s t) := by
  intro args pre res new h hp
  unfold altSum at h
  split at h
  · rename_i r hr
    injection h with h; subst h
    exact hs _ _ _ _ hr hp
  · exact ht _ _ _ _ h hp
theorem SumsOK.add {one : List (Nat × Summ)} {two : List (Nat × Summ2)} {lo : Nat} {eqs : List (Nat × List (Option IntKind))} {its : List (Nat × Iter)} (hS : SumsOK P ⟨one, two, lo, eqs, its⟩) {f : FuncId} {fn : Func} (hf : P.funcs[f]? = some fn) (hn : (fn.name == "runtime.NumGoroutine") = false) (hb : fn.body.isNone = false)
    {s : Summ} (h : SummOK P f s) : SumsOK P ⟨(f, s) :: one, two, lo, eqs, its⟩ := by
  refine ⟨fun g s1 hg => ?_, hS.two, hS.eqs, fun g s1 hg => ?_, hS.bodyTwo, hS.its⟩
  · simp only [findS] at hg
    split at hg
    · rename_i e
      injection hg with hg; subst hg
      obtain rfl := Nat.eq_of_beq_eq_true e
      exact h
    · exact hS.one g s1 hg
  · simp only [findS] at hg
    split at hg
    · rename_i e
      obtain rfl := Nat.eq_of_beq_eq_true e
      exact ⟨fn, hf, hn, hb⟩
    · exact hS.bodyOne g s1 hg

def noAny : List Sh → Bool
  | [] => true
  | .any :: _ => false
  | _ :: l => noAny l
theorem encL_ng : ∀ {l : List Sh} {x : DatL l}, noAny l = true → ∀ t, notGd (getL (encL l x) t)
  | [], _, _, t => by simp only [encL, getL]; trivial
  | s :: l, x, h, 0 => by
    simp only [encL, getL]
    cases s <;> simp [enc, notGd]
    cases h
  | s :: l, x, h, t + 1 => by
    simp only [encL, getL]
    exact encL_ng (by cases s <;> first | exact h | cases h) t

theorem FnSpec.of (hS : SumsOK P S) (hm : P.follows .mixedOrders = true) {shs : List Sh} {U : Nat} {I : DatL shs → Anns} {f : FuncId} {fn : Func} {c : Code} (hf : P.funcs[f]? = some fn) (hb : fn.body = some c) (hok : codeOK c = true) {sp : Spec shs}
    (hlo : S.lo = 0) (hany : noAny shs = true) (hn : shs.length ≤ fn.ntmps) (h : ∀ x, sp.pre x → FnSat P S U (I x) fn (encL shs x) [] (sp.res x) []) : FnSpec P f shs sp :=
  fun x hx => Fn.of hS hm hf hb hok hlo (encL_ng hany) (by rw [encL_len]; exact hn) (h x hx)
theorem FnSpecN.of (hS : SumsOK P S) (hm : P.follows .mixedOrders = true) {shs : List Sh} {U : Nat} {I : DatL shs → Anns} {f : FuncId} {fn : Func} {c : Code} (hf : P.funcs[f]? = some fn) (hb : fn.body = some c) (hok : codeOK c = true) {sp : SpecN shs}
    (hlo : S.lo = 0) (hany : noAny shs = true) (hn : shs.length ≤ fn.ntmps) (h : ∀ x, sp.pre x → FnSat P S U (I x) fn (encL shs x) [] (sp.res x) (sp.new x)) : FnSpecN P f shs sp :=
  fun x hx => Fn.of hS hm hf hb hok hlo (encL_ng hany) (by rw [encL_len]; exact hn) (h x hx)
end
end Abs
end Go.Proofs.Ytjblicdceafcpaa

/- What the leaves of trees are, for simp. -/
namespace Go.Proofs.Ytjblicdceafcpaa
namespace Abs
open Go

@[simp] theorem iadd_eq (a b : Int) : iadd a b = a + b := by unfold iadd; rfl
@[simp] theorem isub_eq (a b : Int) : isub a b = a - b := by unfold isub; rfl
@[simp] theorem imul_eq (a b : Int) : imul a b = a * b := by unfold imul; rfl
@[simp] theorem iquo_eq (a b : Int) : iquo a b = a.tdiv b := by unfold iquo; rfl
@[simp] theorem irem_eq (a b : Int) : irem a b = a.tmod b := by unfold irem; rfl
@[simp] theorem ieq_eq (a b : Int) : ieq a b = (a == b) := by unfold ieq; rfl
@[simp] theorem ilt_eq (a b : Int) : ilt a b = decide (a < b) := by unfold ilt; rfl
@[simp] theorem ile_eq (a b : Int) : ile a b = decide (a ≤ b) := by unfold ile; rfl
@[simp] theorem imin_eq (a b : Int) : imin a b = min a b := by unfold imin; split <;> omega
@[simp] theorem imax_eq (a b : Int) : imax a b = max a b := by unfold imax; split <;> omega
@[simp] theorem iwrap_eq (k : IntKind) (a : Int) : iwrap k a = k.wrap a := by unfold iwrap; rfl
@[simp] theorem ibnot_eq (a : Bool) : bnot a = !a := bnot_eq a
@[simp] theorem iband_eq (a b : Bool) : band a b = (a && b) := band_eq a b
@[simp] theorem ibor_eq (a b : Bool) : bor a b = (a || b) := bor_eq a b
@[simp] theorem beqb_eq (a b : Bool) : beqb a b = (a == b) := by unfold beqb; rfl
@[simp] theorem ibite_eq (c a b : Bool) : bite c a b = if c then a else b := bite_eq c a b
@[simp] theorem nat_eq (a : Int) : nat a = a.toNat := by unfold nat; rfl
@[simp] theorem icast_eq (a : Nat) : icast a = (a : Int) := by unfold icast; rfl
@[simp] theorem nadd_eq (a b : Nat) : nadd a b = a + b := by unfold nadd; rfl
@[simp] theorem nlt_eq (a b : Nat) : nlt a b = decide (a < b) := by unfold nlt; rfl
@[simp] theorem nsub_eq (a b : Nat) : nsub a b = a - b := by unfold nsub; rfl
@[simp] theorem inr64 (n : Int) : InR .i64 n ↔ -9223372036854775808 ≤ n ∧ n ≤ 9223372036854775807 := by
  unfold InR; simp [IntKind.min, IntKind.max, IntKind.signed, IntKind.bits]

/-- a frame, turned: n places kept, one place set, n places that may hold anything -/
inductive Ins where
  | k (n : Nat)
  | s (a : AV)
  | t (n : Nat)
noncomputable def keepL (n : Nat) : (List AV → List AV) → List AV → List AV :=
  Nat.rec (motive := fun _ => (List AV → List AV) → List AV → List AV) (fun f l => f l) (fun _ ih f l => List.rec (motive := fun _ => List AV) [] (fun x l _ => x :: ih f l) l) n
noncomputable def anyL (n : Nat) : (List AV → List AV) → List AV → List AV :=
  Nat.rec (motive := fun _ => (List AV → List AV) → List AV → List AV) (fun f l => f l) (fun _ ih f l => List.rec (motive := fun _ => List AV) [] (fun _ l _ => .top :: ih f l) l) n
noncomputable def frI : List Ins → List AV → List AV
  | [], l => l
  | .k n :: is, l => keepL n (frI is) l
  | .s a :: is, l => (match l with | _ :: l => a :: frI is l | [] => [])
  | .t n :: is, l => anyL n (frI is) l
/-- an object's cells, a row's elements, put anew -/
def putC (hp : Heap) (i : Nat) (l : List AV) : Heap := match getB hp i with | .cells t _ => setB hp i (.cells t l) | _ => hp
def putR (hp : Heap) (i : Nat) (n : LN) (el : Nat → List AV) : Heap := match getB hp i with | .row e sz _ _ => setB hp i (.row e sz n el) | _ => hp
def lenH : Heap → Nat
  | [] => 0
  | _ :: l => lenH l + 1
def putE (hp : Heap) (i : Nat) (el : Nat → List AV) : Heap := match getB hp i with | .row e sz n _ => setB hp i (.row e sz n el) | _ => hp
/-- the last row, put anew -/
def putRL (hp : Heap) (n : LN) (el : Nat → List AV) : Heap := putR hp (lenH hp - 1) n el
@[simp] theorem annPre_eq (G α : Type) (st : G → AS) (dat : G → α) (q : α → Prop) (mu : G → Nat) (g : G) : Ann.pre ⟨G, st, α, dat, q, mu⟩ g = q (dat g) := rfl
section
variable {R : AV → Heap → Prop}
@[simp] theorem sat_fail : VC.sat R .fail ↔ False := Iff.rfl
@[simp] theorem sat_need (p : Cd) (k : VC) : VC.sat R (.need p k) ↔ p.ok ∧ k.sat R := Iff.rfl
@[simp] theorem sat_branch (b : Bool) (t e : VC) : VC.sat R (.branch b t e) ↔ (b = true → t.sat R) ∧ (b = false → e.sat R) := Iff.rfl
@[simp] theorem sat_out (r : AV) (hp : Heap) : VC.sat R (.out r hp) ↔ R r hp := Iff.rfl
@[simp] theorem sat_done : VC.sat R .done ↔ True := Iff.rfl
@[simp] theorem sat_loop (A : Ann) (d : A.G → A.α) (e : VC) (b : A.G → VC) : VC.sat R (.loop d e b) ↔ e.sat R ∧ ∀ g, A.q (d g) → (b g).sat R := Iff.rfl
@[simp] theorem sat_ex (A : Ann) (d : A.G → A.α) (m : Option Nat) (k : A.G → VC) : VC.sat R (.ex d m k) ↔ ∃ g, (k g).sat R ∧ A.q (d g) ∧ (match m with | some n => A.mu g < n | none => True) :=
  ⟨fun ⟨g, h1, h2, h3⟩ => ⟨g, h3, h1, h2⟩, fun ⟨g, h1, h2, h3⟩ => ⟨g, h2, h3, h1⟩⟩
end
-- elements
@[simp] theorem nrmL_nil : nrmL [] = [] := rfl
@[simp] theorem nrmL_cons (a : AV) (l : List AV) : nrmL (a :: l) = nrm a :: nrmL l := rfl
@[simp] theorem nrm_si (k : IntKind) (n : Int) : nrm (.si k n) = .si k n := rfl
@[simp] theorem nrm_li (k : IntKind) (n : Int) : nrm (.li k n) = .si k n := rfl
@[simp] theorem nrm_sb (b : Bool) : nrm (.sb b) = .sb b := rfl
@[simp] theorem nrm_lb (b : Bool) : nrm (.lb b) = .sb b := rfl
@[simp] theorem nrm_slc (n : LN) (sz : Nat) (el : Nat → List AV) : nrm (.slc n sz el) = .slc n sz el := rfl
@[simp] theorem nrm_v (x : Value) : nrm (.v x) = .v x := rfl
@[simp] theorem nrm_xp (l : List AV) : nrm (.xp l) = .xp l := rfl
@[simp] theorem selI_eq (k j : Nat) (a b : Int) : selI k j a b = if j = k then a else b := by unfold selI; rfl
@[simp] theorem selB_eq (k j : Nat) (a b : Bool) : selB k j a b = if j = k then a else b := by unfold selB; rfl
theorem catE_eq (n : Nat) (f g : Nat → List AV) (k : Nat) : catE n f g k = if k < n then f k else g (k - n) := by unfold catE; rfl
/-- an element more -/
theorem app_one {sz g j : Nat} {F : Nat → List AV} {c r : List AV} (h : j < g + 1) (h1 : j < g → nrmL (F j) = r) (h2 : j = g → nrmL (takeL c sz) = r) : nrmL (catE g F (rowAt sz c) j) = r := by
  rw [catE_eq]
  by_cases hj : j < g
  · rw [if_pos hj]; exact h1 hj
  · rw [if_neg hj, show j - g = 0 by omega]
    exact h2 (by omega)
theorem nrmL_ite (c : Prop) [Decidable c] (a b : List AV) : nrmL (if c then a else b) = if c then nrmL a else nrmL b := by split <;> rfl
-- the second look at data that have their shape
@[simp] theorem canL_nil : CanL [] [] ↔ True := by unfold CanL; exact Iff.rfl
@[simp] theorem canL_cons (s : Sh) (l : List Sh) (a : AV) (m : List AV) : CanL (s :: l) (a :: m) ↔ okSh s a = true ∧ CanSh s a ∧ CanL l m := by rw [CanL]
@[simp] theorem okSh_si (k : IntKind) (n : Int) : okSh (.int k) (.si k n) = true := by simp [okSh, kindOf]
@[simp] theorem okSh_li (k : IntKind) (n : Int) : okSh (.int k) (.li k n) = true := by simp [okSh, kindOf]
@[simp] theorem okSh_sb (b : Bool) : okSh .bool (.sb b) = true := by simp [okSh, isBoolA]
@[simp] theorem okSh_lb (b : Bool) : okSh .bool (.lb b) = true := by simp [okSh, isBoolA]
@[simp] theorem okSh_slc (sz : Nat) (e : List Sh) (n : LN) (el : Nat → List AV) : okSh (.slice sz e) (.slc n sz el) = cellShL e := by simp [okSh]
@[simp] theorem canSh_int (k : IntKind) (a : AV) : CanSh (.int k) a ↔ True := by unfold CanSh; exact Iff.rfl
@[simp] theorem canSh_bool (a : AV) : CanSh .bool a ↔ True := by unfold CanSh; exact Iff.rfl
@[simp] theorem canSh_slc (sz sz' : Nat) (e : List Sh) (n : LN) (el : Nat → List AV) : CanSh (.slice sz e) (.slc n sz' el) ↔ ∀ k, k < n.val → CanL e (el k) := by rw [CanSh]
@[simp] theorem canEl_iff (e : List Sh) (n : Nat) (el : Nat → List AV) : CanEl e (n, el) ↔ ∀ k, k < n → CanL e (el k) := Iff.rfl
attribute [simp] cellShL cellSh
@[simp] theorem imp_all_true (n : Nat) : (∀ k : Nat, k < n → True) ↔ True := by simp
attribute [simp] leS leL leA leH leB Cd.ok kindOf intOf LN.val
end Abs
end Go.Proofs.Ytjblicdceafcpaa

/- '==' of structs and arrays whose cells are integers and Bools. -/
namespace Go.Proofs.Ytjblicdceafcpaa
namespace Abs
open Go Go.RowKit

def fieldsKs (rc : TypeId → Option (List (Option IntKind))) : List Field → Nat → Option (List (Option IntKind))
  | [], _ => some []
  | f :: fs, off => (match f.name == "_", Nat.beq f.offset off, rc f.type with
    | false, true, some ks => (match fieldsKs rc fs (off + ks.length) with | some ks' => some (ks ++ ks') | none => none)
    | _, _, _ => none)
/-- the kinds of a type's cells -/
def eqKs (P : Program) : Nat → TypeId → Option (List (Option IntKind))
  | 0, _ => none
  | d + 1, t => (match P.underlying t with
    | some (.int k) => some [some k]
    | some .bool => some [none]
    | some (.struct fs) => (match P.stoodInHeld t, fieldsKs (eqKs P d) fs.toList 0 with
      | false, some ks => (match Nat.beq (sizeT P t) ks.length with | true => some ks | false => none)
      | _, _ => none)
    | some (.array n e) => (match eqKs P d e with
      | some ks => (match Nat.beq (sizeT P e) ks.length && Nat.beq (sizeT P t) (n * ks.length) with | true => some (List.replicate n ks).flatten | false => none)
      | none => none)
    | _ => none)

inductive Kd : List (Option IntKind) → List Value → Prop
  | nil : Kd [] []
  | int (k : IntKind) (n : Int) (ks : List (Option IntKind)) (vs : List Value) (h : Kd ks vs) : Kd (some k :: ks) (.int k n :: vs)
  | bool (b : Bool) (ks : List (Option IntKind)) (vs : List Value) (h : Kd ks vs) : Kd (none :: ks) (.bool b :: vs)
def eq1 : Value → Value → Bool
  | .int _ a, .int _ b => a == b
  | .bool a, .bool b => a == b
  | _, _ => false
def eqV : List Value → List Value → Bool
  | [], [] => true
  | x :: xs, y :: ys => eq1 x y && eqV xs ys
  | _, _ => false

theorem Kd.len {ks : List (Option IntKind)} {vs : List Value} (h : Kd ks vs) : vs.length = ks.length := by induction h <;> simp [*]
theorem Kd.split {ks ks' : List (Option IntKind)} : ∀ {vs : List Value}, Kd (ks ++ ks') vs → Kd ks (vs.take ks.length) ∧ Kd ks' (vs.drop ks.length) := by
  induction ks with
  | nil => intro vs h; exact ⟨by simpa using Kd.nil, by simpa using h⟩
  | cons k ks ih =>
    intro vs h
    cases h with
    | int k n _ vs h => obtain ⟨h1, h2⟩ := ih h; exact ⟨by simpa using Kd.int k n _ _ h1, by simpa using h2⟩
    | bool b _ vs h => obtain ⟨h1, h2⟩ := ih h; exact ⟨by simpa using Kd.bool b _ _ h1, by simpa using h2⟩
theorem eqV_append : ∀ {a b : List Value} {c d : List Value}, a.length = b.length → eqV (a ++ c) (b ++ d) = (eqV a b && eqV c d)
  | [], [], c, d, _ => by simp [eqV]
  | x :: a, y :: b, c, d, h => by simp at h; simp [eqV, eqV_append h, Bool.and_assoc]

def mkV (P : Program) (t : TypeId) (l : List Value) : Value := match isAgg P t with | some true => .agg ⟨l⟩ | _ => l.headD undef

section
variable {P : Program}

theorem eqKs_size {d : Nat} {t : TypeId} {ks : List (Option IntKind)} (h : eqKs P d t = some ks) : (isAgg P t = some true ∧ sizeT P t = ks.length ∧ ∃ i, P.info? t = some i) ∨ (isAgg P t = some false ∧ ks.length = 1) := by
  cases d with
  | zero => simp [eqKs] at h
  | succ d =>
    unfold eqKs at h
    split at h
    · rename_i k hu; injection h with h; subst h; exact .inr ⟨by simp [isAgg, hu], rfl⟩
    · rename_i hu; injection h with h; subst h; exact .inr ⟨by simp [isAgg, hu], rfl⟩
    · rename_i fs hu
      split at h
      · split at h
        · rename_i hs; injection h with h; subst h
          exact .inl ⟨by simp [isAgg, hu], Nat.eq_of_beq_eq_true hs, info_of_underlying hu⟩
        · cases h
      · cases h
    · rename_i n e hu
      split at h
      · split at h
        · rename_i ks' _ _ hs
          simp only [Bool.and_eq_true] at hs
          injection h with h; subst h
          refine .inl ⟨by simp [isAgg, hu], ?_, info_of_underlying hu⟩
          rw [Nat.eq_of_beq_eq_true hs.2]
          simp
        · cases h
      · cases h
    · cases h

theorem run_partK {d : Nat} {t : TypeId} {ks : List (Option IntKind)} (h : eqKs P d t = some ks) (w : World) {xs : List Value} {off : Nat} (hk : Kd ks ((xs.drop off).take ks.length)) :
    (part t ⟨xs⟩ off).run P w = .ok (mkV P t ((xs.drop off).take ks.length)) w := by
  rcases eqKs_size h with ⟨h1, h2, i, hi⟩ | ⟨h1, h2⟩
  · simp [part, run_isAgg h1, run_sizeT hi, mkV, h1, h2]
  · have hl := hk.len
    rw [h2] at hl
    cases hd : xs.drop off with
    | nil => rw [hd] at hl; simp at hl
    | cons v vs =>
      have hv : xs[off]? = some v := by
        have := congrArg (fun l => l[0]?) hd
        simpa using this
      simp [part, run_isAgg h1, mkV, h1, h2, hv]

theorem fields_eq {d m : Nat} (IH : ∀ (t : TypeId) (ks : List (Option IntKind)), eqKs P d t = some ks → ∀ (w : World) (vs ws : List Value), Kd ks vs → Kd ks ws → (Op.equalIn (m + d) t (mkV P t vs) (mkV P t ws)).run P w = .ok (eqV vs ws) w) (w : World) (xs ys : List Value) :
    ∀ (fs : List Field) (off : Nat) (ks : List (Option IntKind)), fieldsKs (eqKs P d) fs off = some ks → Kd ks ((xs.drop off).take ks.length) → Kd ks ((ys.drop off).take ks.length) →
      (Op.eqFields (m + d) ⟨xs⟩ ⟨ys⟩ fs).run P w = .ok (eqV ((xs.drop off).take ks.length) ((ys.drop off).take ks.length)) w
  | [], off, ks, h, _, _ => by
    unfold fieldsKs at h
    injection h with h; subst h
    simp [Op.eqFields, eqV]
  | f :: fs, off, ks, h, hx, hy => by
    unfold fieldsKs at h
    split at h
    · rename_i kf hn hoff hks
      split at h
      · rename_i ks' hrest
        injection h with h; subst h
        have hoff := Nat.eq_of_beq_eq_true hoff
        have e1 : ∀ l : List Value, (l.drop off).take (kf ++ ks').length = (l.drop off).take kf.length ++ (l.drop (off + kf.length)).take ks'.length := fun l => by
          rw [List.length_append, List.take_add, List.drop_drop]
        rw [e1] at hx hy
        obtain ⟨hx1, hx2⟩ := hx.split
        obtain ⟨hy1, hy2⟩ := hy.split
        have hlx := hx.len
        have hly := hy.len
        simp only [List.length_append] at hlx hly
        have hlx1 : ((xs.drop off).take kf.length).length = kf.length := by
          have h1 := List.length_take_le kf.length (xs.drop off)
          have h2 := List.length_take_le ks'.length (xs.drop (off + kf.length))
          omega
        have hly1 : ((ys.drop off).take kf.length).length = kf.length := by
          have h1 := List.length_take_le kf.length (ys.drop off)
          have h2 := List.length_take_le ks'.length (ys.drop (off + kf.length))
          omega
        rw [List.take_left' hlx1] at hx1
        rw [List.drop_left' hlx1] at hx2
        rw [List.take_left' hly1] at hy1
        rw [List.drop_left' hly1] at hy2
        rw [e1, e1, eqV_append (by rw [hlx1, hly1])]
        have hne : f.name ≠ "_" := by simpa using hn
        have ih := fields_eq IH w xs ys fs (off + kf.length) ks' hrest hx2 hy2
        simp only [Op.eqFields, hne, ne_eq, not_false_eq_true, if_true, Sem.run_bind, hoff, run_partK hks w hx1, run_partK hks w hy1, Result.andThen_ok, IH _ _ hks w _ _ hx1 hy1]
        cases eqV ((xs.drop off).take kf.length) ((ys.drop off).take kf.length) with
        | false => simp
        | true => simpa using ih
      · cases h
    · cases h

theorem items_eq {d m : Nat} {e : TypeId} {ks : List (Option IntKind)} (hks : eqKs P d e = some ks) (IH : ∀ (w : World) (vs ws : List Value), Kd ks vs → Kd ks ws → (Op.equalIn (m + d) e (mkV P e vs) (mkV P e ws)).run P w = .ok (eqV vs ws) w) (w : World) (xs ys : List Value) :
    ∀ (n s : Nat), Kd (List.replicate n ks).flatten ((xs.drop (s * ks.length)).take (n * ks.length)) → Kd (List.replicate n ks).flatten ((ys.drop (s * ks.length)).take (n * ks.length)) →
      (Op.eqItems (m + d) e ks.length ⟨xs⟩ ⟨ys⟩ (List.range' s n)).run P w = .ok (eqV ((xs.drop (s * ks.length)).take (n * ks.length)) ((ys.drop (s * ks.length)).take (n * ks.length))) w
  | 0, s, _, _ => by simp [Op.eqItems, eqV]
  | n + 1, s, hx, hy => by
    have e1 : ∀ l : List Value, (l.drop (s * ks.length)).take ((n + 1) * ks.length) = (l.drop (s * ks.length)).take ks.length ++ (l.drop ((s + 1) * ks.length)).take (n * ks.length) := fun l => by
      rw [Nat.add_mul, Nat.one_mul, Nat.add_comm, List.take_add, List.drop_drop, Nat.add_mul, Nat.one_mul]
    rw [e1, List.replicate_succ, List.flatten_cons] at hx hy
    obtain ⟨hx1, hx2⟩ := hx.split
    obtain ⟨hy1, hy2⟩ := hy.split
    have hlx := hx.len
    have hly := hy.len
    have hfl : (List.replicate n ks).flatten.length = n * ks.length := by simp
    simp only [List.length_append, hfl] at hlx hly
    have hlx1 : ((xs.drop (s * ks.length)).take ks.length).length = ks.length := by
      have h1 := List.length_take_le ks.length (xs.drop (s * ks.length))
      have h2 := List.length_take_le (n * ks.length) (xs.drop ((s + 1) * ks.length))
      omega
    have hly1 : ((ys.drop (s * ks.length)).take ks.length).length = ks.length := by
      have h1 := List.length_take_le ks.length (ys.drop (s * ks.length))
      have h2 := List.length_take_le (n * ks.length) (ys.drop ((s + 1) * ks.length))
      omega
    rw [List.take_left' hlx1] at hx1
    rw [List.drop_left' hlx1] at hx2
    rw [List.take_left' hly1] at hy1
    rw [List.drop_left' hly1] at hy2
    rw [e1, e1, eqV_append (by rw [hlx1, hly1]), List.range'_succ]
    have ih := items_eq hks IH w xs ys n (s + 1) hx2 hy2
    simp only [Op.eqItems, Sem.run_bind, run_partK hks w hx1, run_partK hks w hy1, Result.andThen_ok, IH w _ _ hx1 hy1]
    cases eqV ((xs.drop (s * ks.length)).take ks.length) ((ys.drop (s * ks.length)).take ks.length) with
    | false => simp
    | true => simpa using ih

theorem cellsOf_eq {t : TypeId} {i : TypeInfo} (h : P.info? t = some i) : P.cellsOf t = sizeT P t := by simp [Program.cellsOf, sizeT, h]

theorem equalIn_eq (m : Nat) : ∀ (d : Nat) (t : TypeId) (ks : List (Option IntKind)), eqKs P d t = some ks → ∀ (w : World) (vs ws : List Value), Kd ks vs → Kd ks ws → (Op.equalIn (m + d) t (mkV P t vs) (mkV P t ws)).run P w = .ok (eqV vs ws) w := by
  intro d
  induction d with
  | zero => intro t ks h; simp [eqKs] at h
  | succ d ih =>
    intro t ks h w vs ws hv hw
    have hsz := eqKs_size h
    unfold eqKs at h
    split at h
    · rename_i k hu
      injection h with h; subst h
      cases hv with | int _ a _ _ hv => cases hv
                                        cases hw with | int _ b _ _ hw => cases hw
                                                                          simp only [mkV, isAgg, hu, List.headD_cons, ← Nat.add_assoc]
                                                                          rw [run_equalIn_int w (m + d) t k k a b hu]
                                                                          simp [eqV, eq1]
    · rename_i hu
      injection h with h; subst h
      cases hv with | bool a _ _ hv => cases hv
                                       cases hw with | bool b _ _ hw => cases hw
                                                                        simp only [mkV, isAgg, hu, List.headD_cons, ← Nat.add_assoc]
                                                                        rw [run_equalIn_bool' w (m + d) t a b hu]
                                                                        simp [eqV, eq1]
    · rename_i fs hu
      split at h
      · rename_i ks' hst hf
        split at h
        · injection h with h; subst h
          have hfs : P.fieldsOf t = fs := by simp [Program.fieldsOf, hu]
          have hag : isAgg P t = some true := by simp [isAgg, hu]
          simp only [mkV, hag, ← Nat.add_assoc]
          rw [run_equalIn_struct w (m + d) t _ _ (by rw [hfs]; exact hu) hst, hfs]
          have e1 : ∀ l : List Value, Kd ks' l → (l.drop 0).take ks'.length = l := fun l hl => by rw [List.drop_zero, ← hl.len, List.take_length]
          have := fields_eq (m := m) ih w vs ws fs.toList 0 ks' hf (by rw [e1 _ hv]; exact hv) (by rw [e1 _ hw]; exact hw)
          rw [e1 _ hv, e1 _ hw] at this
          exact this
        · cases h
      · cases h
    · rename_i n e hu
      split at h
      · rename_i ks' hks
        split at h
        · rename_i hs
          simp only [Bool.and_eq_true] at hs
          injection h with h; subst h
          have hag : isAgg P t = some true := by simp [isAgg, hu]
          have hse := Nat.eq_of_beq_eq_true hs.1
          have hlen : (List.replicate n ks').flatten.length = n * ks'.length := by simp
          simp only [mkV, hag, ← Nat.add_assoc]
          have e1 : ∀ l : List Value, Kd (List.replicate n ks').flatten l → (l.drop (0 * ks'.length)).take (n * ks'.length) = l := fun l hl => by
            rw [Nat.zero_mul, List.drop_zero, ← hlen, ← hl.len, List.take_length]
          have key := items_eq (m := m) hks (ih e ks' hks) w vs ws n 0 (by rw [e1 _ hv]; exact hv) (by rw [e1 _ hw]; exact hw)
          rw [e1 _ hv, e1 _ hw] at key
          have hie : ∃ i, P.info? e = some i := by
            cases d with
            | zero => simp [eqKs] at hks
            | succ d =>
              unfold eqKs at hks
              cases hue : P.underlying e with
              | none => simp [hue] at hks
              | some _ => exact info_of_underlying hue
          obtain ⟨i, hi⟩ := hie
          rw [run_equalIn_array w (m + d) _ _ hu hi, cellsOf_eq hi, hse, List.range_eq_range']
          exact key
        · cases h
      · cases h
    · cases h

theorem okKs_kd {C : Cx} {w : World} : ∀ {ks : List (Option IntKind)} {l : List AV} {vs : List Value}, okKs ks l = true → RelL C w l vs → Kd ks vs
  | [], [], _, _, h => by cases h; exact .nil
  | some k :: ks, a :: l, _, h, hr => by
    simp only [okKs] at h
    cases hr with
    | cons _ _ v vs h0 h1 =>
      split at h
      · rename_i k' hk
        simp only [Bool.and_eq_true] at h
        have := of_decide_eq_true h.1
        subst this
        rw [kindOf_rel h0 hk]
        exact .int _ _ _ _ (okKs_kd h.2 h1)
      · cases h
  | none :: ks, a :: l, _, h, hr => by
    simp only [okKs, Bool.and_eq_true] at h
    cases hr with
    | cons _ _ v vs h0 h1 =>
      have : ∃ b, v = .bool b := by
        cases a <;> simp [isBoolV] at h
        · cases h0; exact ⟨_, rfl⟩
        · cases h0; exact ⟨_, rfl⟩
      obtain ⟨b, rfl⟩ := this
      exact .bool _ _ _ (okKs_kd h.2 h1)
  | [], _ :: _, _, h, _ => by simp [okKs] at h
  | some _ :: _, [], _, h, _ => by simp [okKs] at h
  | none :: _, [], _, h, _ => by simp [okKs] at h
theorem eqCells_eq {C : Cx} {w : World} : ∀ {l m : List AV} {vs ws : List Value} {r : Bool}, eqCells l m = some r → RelL C w l vs → RelL C w m ws → eqV vs ws = r
  | [], [], _, _, r, h, h1, h2 => by
    cases h1; cases h2
    simp [eqCells] at h; subst h; rfl
  | a :: l, b :: m, _, _, r, h, h1, h2 => by
    cases h1 with
    | cons _ _ x xs h1 h3 =>
    cases h2 with
    | cons _ _ y ys h2 h4 =>
    have one : ∀ r, eqC a b = some r → eq1 x y = r := fun r he => by
      rcases eqC_rel h1 h2 he with ⟨k, p, q, rfl, rfl, rfl⟩ | ⟨p, q, rfl, rfl, rfl⟩
      · rfl
      · rfl
    unfold eqCells at h
    split at h
    · cases h3; cases h4
      simp [eqV, one _ h]
    · split at h
      · rename_i r1 s1 e1 e2
        injection h with h; subst h
        rw [band_eq, eqV, one _ e1, eqCells_eq e2 h3 h4]
      · cases h
  | [], _ :: _, _, _, r, h, _, _ => by simp [eqCells] at h
  | _ :: _, [], _, _, r, h, _, _ => by simp [eqCells] at h

theorem EqOK.of {t : TypeId} {ks : List (Option IntKind)} (d : Nat) (hd : d ≤ 10000) (hg : P.eqGuardType P.depth t = false) (ha : isAgg P t = some true) (h : eqKs P d t = some ks) : EqOK P t ks := by
  refine ⟨hg, fun C w l m vs ws r h1 h2 h3 h4 he => ?_⟩
  have := equalIn_eq (10000 - d) d t ks h w vs ws (okKs_kd h1 h3) (okKs_kd h2 h4)
  rw [show 10000 - d + d = 10000 by omega, eqCells_eq he h3 h4] at this
  simpa [mkV, ha] using this
end
end Abs
end Go.Proofs.Ytjblicdceafcpaa

/- From the reading of the arguments to data; from the answer to the row. -/
namespace Go.Proofs.Ytjblicdceafcpaa
namespace Abs
open Go Go.RowKit Go.ChangeShapes Go.WideShapes

def fieldsSh (rc : TypeId → Option (List Sh)) : List Field → Nat → Option (List Sh)
  | [], _ => some []
  | f :: fs, off => (match Nat.beq f.offset off, rc f.type with
    | true, some l => (match fieldsSh rc fs (off + l.length) with | some l' => some (l ++ l') | none => none)
    | _, _ => none)
def shOf (P : Program) : Nat → TypeId → Option (List Sh)
  | 0, _ => none
  | d + 1, t => (match P.underlying t with
    | some (.int k) => (match Nat.beq (sizeT P t) 1 with | true => some [.int k] | false => none)
    | some .bool => (match Nat.beq (sizeT P t) 1 with | true => some [.bool] | false => none)
    | some (.slice e) => (match shOf P d e with
      | some l => (match Nat.beq (sizeT P t) 1 && cellShL l && Nat.blt 0 l.length with | true => some [.slice l.length l] | false => none)
      | none => none)
    | some (.struct fs) => (match fieldsSh (shOf P d) fs.toList 0 with
      | some l => (match Nat.beq (sizeT P t) l.length with | true => some l | false => none)
      | none => none)
    | some (.array n e) => (match shOf P d e with
      | some l => (match Nat.beq (sizeT P t) (n * l.length) with | true => some (List.replicate n l).flatten | false => none)
      | none => none)
    | _ => none)
def argSh (P : Program) (d : Nat) (t : TypeId) : Option Sh := match shOf P d t with
  | none => none
  | some l => (match isAgg P t with
    | some true => some (.agg l)
    | some false => (match l with | [s] => some s | _ => none)
    | none => none)
def argShs (P : Program) (d : Nat) : List TypeId → Option (List Sh)
  | [] => some []
  | t :: ts => (match argSh P d t, argShs P d ts with | some s, some l => some (s :: l) | _, _ => none)

mutual
/-- data of the shape that can be: numbers of their kinds, lengths that can be -/
def Valid : (s : Sh) → Dat s → Prop
  | .int k, n => InR k n
  | .bool, _ => True
  | .slice _ e, x => x.1 ≤ maxLen ∧ ∀ k, k < x.1 → ValidL e (x.2 k)
  | .agg l, x => ValidL l x
  | .fn _ a b, x => ValidL a x.1 ∧ ValidL b x.2
  | .ptr l, x => ValidL l x
  | .own _ _, _ => True
  | .rowr _, _ => True
  | .any, _ => True
def ValidL : (l : List Sh) → DatL l → Prop
  | [], _ => True
  | s :: l, x => Valid s x.1 ∧ ValidL l x.2
end

theorem shOf_size {P : Program} {d : Nat} {t : TypeId} {l : List Sh} (h : shOf P d t = some l) : sizeT P t = l.length := by
  cases d with
  | zero => simp [shOf] at h
  | succ d =>
    unfold shOf at h
    split at h
    · split at h
      · rename_i hs; injection h with h; subst h; exact Nat.eq_of_beq_eq_true hs
      · cases h
    · split at h
      · rename_i hs; injection h with h; subst h; exact Nat.eq_of_beq_eq_true hs
      · cases h
    · split at h
      · split at h
        · rename_i hs
          simp only [Bool.and_eq_true] at hs
          injection h with h; subst h; exact Nat.eq_of_beq_eq_true hs.1.1
        · cases h
      · cases h
    · split at h
      · split at h
        · rename_i hs; injection h with h; subst h; exact Nat.eq_of_beq_eq_true hs
        · cases h
      · cases h
    · split at h
      · split at h
        · rename_i hs; injection h with h; subst h; rw [Nat.eq_of_beq_eq_true hs]; simp
        · cases h
      · cases h
    · cases h

theorem sizeT_cells (P : Program) (t : TypeId) : P.cellsOf t = sizeT P t := by
  unfold Program.cellsOf sizeT
  cases P.info? t <;> rfl

theorem app_data : ∀ (l l' : List Sh) (y : DatL l) (y' : DatL l'), ∃ z : DatL (l ++ l'), encL (l ++ l') z = encL l y ++ encL l' y' ∧ (ValidL l y → ValidL l' y' → ValidL (l ++ l') z)
  | [], l', y, y' => ⟨y', by simp [encL], fun _ h => h⟩
  | s :: l, l', y, y' => by
    obtain ⟨z, h1, h2⟩ := app_data l l' y.2 y'
    refine ⟨(y.1, z), ?_, ?_⟩
    · show enc s y.1 :: encL (l ++ l') z = _
      rw [h1]; simp [encL]
    · intro h h'
      unfold ValidL at h
      show ValidL (s :: (l ++ l')) (y.1, z)
      unfold ValidL
      exact ⟨h.1, h2 h.2 h'⟩

section
variable {H : Type} {enc' : TypeId × Value → H} {P : Program} {w : World}

/-- all of memory stays -/
def Cx.all (w : World) : Cx := ⟨fun _ => none, fun b => b < w.heap.size⟩
theorem hr_all (w : World) : HR (Cx.all w) [] w := ⟨fun i p h => by simp [Cx.all] at h, fun i j b c n b' c' n' h => by simp [Cx.all] at h, fun i b c n h => by simp [Cx.all] at h, fun b hb => hb⟩

theorem mapM_some {α β : Type} {f : α → Option β} : ∀ {l : List α} {m : List β}, l.mapM f = some m → ∀ a ∈ l, ∃ b, f a = some b
  | [], _, _, a, h => by simp at h
  | x :: l, m, h, a, ha => by
    rw [List.mapM_cons] at h
    simp only [bind, Option.bind_eq_some_iff] at h
    obtain ⟨b, hb, m', hm, _⟩ := h
    rcases List.mem_cons.1 ha with rfl | ha
    · exact ⟨b, hb⟩
    · exact mapM_some hm a ha

theorem choose_fn {α : Type} (d : α) {n : Nat} {p : Nat → α → Prop} (h : ∀ i, i < n → ∃ x, p i x) : ∃ f : Nat → α, ∀ i, i < n → p i (f i) := by
  classical
  refine ⟨fun i => if hi : i < n then Classical.choose (h i hi) else d, fun i hi => ?_⟩
  simp only [dif_pos hi]
  exact Classical.choose_spec (h i hi)

theorem read_fields {d : Nat} {base : Nat} {spare : Nat → Bool} {held : Bool} {cs : List Value}
    (IH : ∀ (fuel : Nat) (t : TypeId) (cs : List Value) (x : DataW H × List MemPlace), DataW.trod enc' P w base spare held fuel t cs = some x → ∀ l, shOf P d t = some l → ∃ y : DatL l, RelL (Cx.all w) w (encL l y) cs ∧ ValidL l y) :
    ∀ (fs : List Field) (off : Nat) (l : List Sh), fieldsSh (shOf P d) fs off = some l → (∀ f ∈ fs, ∃ fuel x, DataW.trod enc' P w base spare held fuel f.type ((cs.drop f.offset).take (P.cellsOf f.type)) = some x) →
      ∃ y : DatL l, RelL (Cx.all w) w (encL l y) ((cs.drop off).take l.length) ∧ ValidL l y
  | [], off, l, h, _ => by
    unfold fieldsSh at h
    injection h with h; subst h
    exact ⟨(), by simp [encL]; exact .nil, trivial⟩
  | f :: fs, off, l, h, hx => by
    unfold fieldsSh at h
    split at h
    · rename_i l1 hoff h1
      split at h
      · rename_i l2 h2
        injection h with h; subst h
        obtain ⟨fuel, x, hx1⟩ := hx f (by simp)
        rw [sizeT_cells, shOf_size h1, Nat.eq_of_beq_eq_true hoff] at hx1
        obtain ⟨y1, hr1, hv1⟩ := IH _ _ _ _ hx1 l1 h1
        obtain ⟨y2, hr2, hv2⟩ := read_fields IH fs (off + l1.length) l2 h2 (fun g hg => hx g (by simp [hg]))
        obtain ⟨z, hz1, hz2⟩ := app_data l1 l2 y1 y2
        refine ⟨z, ?_, hz2 hv1 hv2⟩
        rw [hz1, List.length_append, List.take_add, List.drop_drop]
        exact hr1.append hr2
      · cases h
    · cases h

theorem read_items {d : Nat} {base : Nat} {spare : Nat → Bool} {held : Bool} {cs : List Value} {e : TypeId} {l : List Sh} (hl : shOf P d e = some l)
    (IH : ∀ (fuel : Nat) (t : TypeId) (cs : List Value) (x : DataW H × List MemPlace), DataW.trod enc' P w base spare held fuel t cs = some x → ∀ l, shOf P d t = some l → ∃ y : DatL l, RelL (Cx.all w) w (encL l y) cs ∧ ValidL l y) :
    ∀ (n s : Nat), (∀ i, s ≤ i → i < s + n → ∃ fuel x, DataW.trod enc' P w base spare held fuel e ((cs.drop (i * l.length)).take l.length) = some x) →
      ∃ y : DatL (List.replicate n l).flatten, RelL (Cx.all w) w (encL (List.replicate n l).flatten y) ((cs.drop (s * l.length)).take (n * l.length)) ∧ ValidL (List.replicate n l).flatten y
  | 0, s, _ => ⟨(), by simp [encL]; exact .nil, trivial⟩
  | n + 1, s, hx => by
    obtain ⟨fuel, x, hx1⟩ := hx s (Nat.le_refl _) (by omega)
    obtain ⟨y1, hr1, hv1⟩ := IH _ _ _ _ hx1 l hl
    obtain ⟨y2, hr2, hv2⟩ := read_items hl IH n (s + 1) (fun i h1 h2 => hx i (by omega) (by omega))
    obtain ⟨z, hz1, hz2⟩ := app_data l (List.replicate n l).flatten y1 y2
    refine ⟨z, ?_, hz2 hv1 hv2⟩
    show RelL (Cx.all w) w (encL (l ++ (List.replicate n l).flatten) z) _
    rw [hz1, Nat.add_mul, Nat.one_mul, Nat.add_comm (n * l.length), List.take_add, List.drop_drop]
    rw [Nat.add_mul, Nat.one_mul] at hr2
    exact hr1.append hr2

theorem read_cells {base : Nat} {spare : Nat → Bool} {held : Bool} : ∀ (d : Nat) (fuel : Nat) (t : TypeId) (cs : List Value) (x : DataW H × List MemPlace), DataW.trod enc' P w base spare held fuel t cs = some x →
    ∀ l, shOf P d t = some l → ∃ y : DatL l, RelL (Cx.all w) w (encL l y) cs ∧ ValidL l y := by
  intro d
  induction d with
  | zero => intro fuel t cs x h l hl; simp [shOf] at hl
  | succ d ih =>
    intro fuel t cs x h l hl
    have hsz := shOf_size hl
    unfold shOf at hl
    split at hl
    · rename_i k hu
      split at hl
      · injection hl with hl; subst hl
        obtain ⟨n, rfl, _, hw⟩ := DataW.trod_int hu h
        refine ⟨((n : Int), ()), .cons _ _ _ _ (.si k n) .nil, ?_, trivial⟩
        simp only [Lit.wf, Bool.and_eq_true, decide_eq_true_eq] at hw
        exact hw
      · cases hl
    · rename_i hu
      split at hl
      · injection hl with hl; subst hl
        obtain ⟨b, rfl, _⟩ := DataW.trod_bool hu h
        exact ⟨((b : Bool), ()), .cons _ _ _ _ (.sb b) .nil, trivial, trivial⟩
      · cases hl
    · rename_i e hu
      split at hl
      · rename_i le hle
        split at hl
        · rename_i hc
          simp only [Bool.and_eq_true] at hc
          injection hl with hl; subst hl
          have hpos : 0 < le.length := by have := Nat.le_of_ble_eq_true (show Nat.ble (0 + 1) le.length = true from hc.2); omega
          have hse : P.cellsOf e = le.length := by rw [sizeT_cells, shOf_size hle]
          rcases Go.Deep.open_slice hu h with ⟨rfl, _⟩ | ⟨a, len, cap, m, n, D, Pl, rfl, hb, hlc, hcm, hm, _, hel⟩
          · refine ⟨((0, fun _ => decL le []), ()), .cons _ _ _ _ ?_ .nil, ⟨Nat.zero_le _, fun k hk => by simp at hk⟩, trivial⟩
            exact .slc (.sym 0) _ _ none 0 (fun _ => []) (Nat.le_refl _) (fun h => by simp [LN.val] at h) (fun k hk => by simp [LN.val] at hk) (fun k hk => by simp [LN.val] at hk) (fun k hk => by simp [LN.val] at hk)
          · have hle2 : len ≤ m := by rw [hm]; split <;> omega
            obtain ⟨f, hf⟩ := choose_fn (decL le [], ([] : List Value)) (n := len) (p := fun i (z : DatL le × List Value) => RelL (Cx.all w) w (encL le z.1) z.2 ∧ ValidL le z.1 ∧ w.cells? base (a.add (i * le.length)) le.length = some z.2) (fun i hi => by
              obtain ⟨cs', h1, h2⟩ := hel i (by omega)
              rw [hse] at h1
              obtain ⟨y, hr, hv⟩ := ih _ _ _ _ h2 le hle
              exact ⟨(y, cs'), hr, hv, h1⟩)
            refine ⟨((len, fun i => (f i).1), ()), .cons _ _ _ _ ?_ .nil, ⟨by simp only; omega, fun k hk => (hf k hk).2.1⟩, trivial⟩
            refine .slc (.sym len) _ _ (some a) cap (fun i => (f i).2) hlc (fun h0 => ⟨a, rfl, ?_, fun k hk j hj => ?_⟩) (fun k hk => (hf k hk).1) (fun k hk => ?_) (fun k hk => enc_okL hc.1.2)
            · obtain ⟨_, h1, h2⟩ := World.cells?_some (hf 0 h0).2.2
              have h3 := h2 0 (by omega)
              rw [List.getElem?_eq_getElem (by omega), Nat.zero_mul] at h3
              show a.block < w.heap.size
              rcases Nat.lt_or_ge a.block w.heap.size with h | h
              · exact h
              · exfalso
                unfold World.cell? at h3
                rw [add_block, add_block, Array.getElem?_eq_none h] at h3
                simp at h3
            · obtain ⟨_, h1, h2⟩ := World.cells?_some (hf k hk).2.2
              rw [← add_add]
              exact h2 j hj
            · exact (World.cells?_some (hf k hk).2.2).2.1
        · cases hl
      · cases hl
    · rename_i fs hu
      split at hl
      · rename_i lf hf
        split at hl
        · injection hl with hl; subst hl
          obtain ⟨xs, n, _, _, hlen, hxl, hx⟩ := DataW.trod_struct hu h
          obtain ⟨y, hr, hv⟩ := read_fields ih fs.toList 0 lf hf (cs := cs) (fun f hfm => by
            obtain ⟨i, hi, hfi⟩ := List.getElem_of_mem hfm
            have h1 := hx i f (by simp at hi; simp [hi]; simpa using hfi)
            have h2 : xs[i]? = some (xs[i]'(by simp at hi; omega)) := List.getElem?_eq_getElem _
            exact ⟨n, _, by rw [h1, h2]⟩)
          refine ⟨y, ?_, hv⟩
          rwa [List.drop_zero, List.take_of_length_le (by rw [hlen, sizeT_cells, hsz]; exact Nat.le_refl _)] at hr
        · cases hl
      · cases hl
    · rename_i n e hu
      split at hl
      · rename_i le hle
        split at hl
        · injection hl with hl; subst hl
          obtain ⟨xs, m, _, _, hlen, hxl, hx⟩ := DataW.trod_array hu h
          obtain ⟨y, hr, hv⟩ := read_items (cs := cs) hle ih n 0 (fun i _ hi => by
            have h1 := hx i (by omega)
            rw [sizeT_cells, shOf_size hle] at h1
            exact ⟨m, _, by rw [h1, List.getElem?_eq_getElem (by omega)]⟩)
          refine ⟨y, ?_, hv⟩
          rw [Nat.zero_mul, List.drop_zero, List.take_of_length_le (by rw [hlen, sizeT_cells, hsz]; simp)] at hr
          exact hr
        · cases hl
      · cases hl
    · cases hl

/-- an argument -/
theorem read_arg {d base b0 : Nat} {r : Reach} {spare : Nat → Bool} {held : Bool} {t : TypeId} {v : Value} {dd : DataW H} {ps : List MemPlace} {s : Sh} (hval : Value.okWide P w r b0 t v) (h : DataW.Trod enc' P w base spare held t v dd ps) (hs : argSh P d t = some s) :
    ∃ y : Dat s, Rel (Cx.all w) w (enc s y) v ∧ Valid s y := by
  obtain ⟨fuel, h⟩ := h
  unfold argSh at hs
  split at hs
  · cases hs
  · rename_i l hl
    split at hs
    · rename_i ha
      injection hs with hs; subst hs
      obtain ⟨y, hr, hv⟩ := read_cells d _ _ _ _ h l hl
      have hagg : ∃ cs, v = .agg cs := by
        unfold Value.okWide at hval
        unfold isAgg at ha
        split at ha
        · rename_i fs hu; rw [hu] at hval; obtain ⟨cs, h1, _⟩ := hval; exact ⟨cs, h1⟩
        · rename_i n e hu; rw [hu] at hval; obtain ⟨cs, h1, _⟩ := hval; exact ⟨cs, h1⟩
        · cases ha
        · cases ha
      obtain ⟨cs, rfl⟩ := hagg
      refine ⟨y, ?_, ?_⟩
      · unfold enc; exact .agg _ _ hr
      · unfold Valid; exact hv
    · split at hs
      · injection hs with hs; subst hs
        obtain ⟨y, hr, hv⟩ := read_cells d _ _ _ _ h _ hl
        have ha : isAgg P t = some false := by assumption
        have hone : v.cells.toList = [v] := by
          unfold isAgg at ha
          have hsz := shOf_size hl
          cases d with
          | zero => simp [shOf] at hl
          | succ d =>
            unfold shOf at hl
            split at hl
            · rename_i k hu; obtain ⟨n, h1, _⟩ := DataW.trod_int hu h
              unfold Value.okWide Cell.okWide Cell.ok at hval
              simp only [hu] at hval
              cases v <;> simp at hval <;> rfl
            · rename_i hu; obtain ⟨n, h1, _⟩ := DataW.trod_bool hu h
              unfold Value.okWide Cell.okWide Cell.ok at hval
              simp only [hu] at hval
              cases v <;> simp at hval <;> rfl
            · rename_i e hu
              unfold Value.okWide Cell.okWide Cell.ok at hval
              simp only [hu] at hval
              cases v <;> simp at hval <;> rfl
            · rename_i fs hu; simp [hu] at ha
            · rename_i n e hu; simp [hu] at ha
            · cases hl
        rw [hone] at hr
        cases hr with
        | cons _ _ _ _ h1 h2 =>
          unfold ValidL at hv
          exact ⟨y.1, h1, hv.1⟩
      · cases hs
    · cases hs

theorem read_all {d base b0 : Nat} {r : Reach} {spare : Nat → Bool} {held : Bool} : ∀ {ts : List TypeId} {vs : List Value} {ds : List (DataW H)} {ps : List MemPlace} {shs : List Sh}, DataW.TrodAll enc' P w base spare held ts vs ds ps →
    (∀ (j : Nat) (t : TypeId) (v : Value), ts[j]? = some t → vs[j]? = some v → Value.okWide P w r b0 t v) → argShs P d ts = some shs → ∃ x : DatL shs, RelL (Cx.all w) w (encL shs x) vs ∧ ValidL shs x
  | [], vs, ds, ps, shs, h, _, hs => by
    unfold argShs at hs
    injection hs with hs; subst hs
    obtain ⟨rfl, _, _⟩ := trodAll_nil h
    exact ⟨(), by unfold encL; exact .nil, trivial⟩
  | t :: ts, vs, ds, ps, shs, h, hok, hs => by
    unfold argShs at hs
    split at hs
    · rename_i s l h1 h2
      injection hs with hs; subst hs
      obtain ⟨v, vs, dd, ds, p, q, rfl, rfl, rfl, h3, h4⟩ := trodAll_cons h
      obtain ⟨y, hr, hv⟩ := read_arg (hok 0 t v rfl rfl) h3 h1
      obtain ⟨x, hrs, hvs⟩ := read_all h4 (fun j t' v' ht hv => hok (j + 1) t' v' (by simpa using ht) (by simpa using hv)) h2
      exact ⟨(y, x), by unfold encL; exact .cons _ _ _ _ hr hrs, by unfold ValidL; exact ⟨hv, hvs⟩⟩
    · cases hs
end
end Abs
end Go.Proofs.Ytjblicdceafcpaa

/- From a law's contract to its row. -/
namespace Go.Proofs.Ytjblicdceafcpaa
namespace Abs
open Go Go.RowKit Go.ChangeShapes Go.WideShapes

section
variable {H : Type} {enc' : TypeId × Value → H} {P : Program} {W W' : World}

theorem trodAll_stays (laid : laidOutB P = true) (hb : Below W.heap.size W W') : ∀ {ts : List TypeId} {vs : List Value} {ds : List (DataW H)} {ps : List MemPlace}, (ts.all fun t => P.readableRec t && decide (t < P.types.size)) = true →
    DataW.TrodAll enc' P W 0 (fun _ => true) true ts vs ds ps → (∀ x ∈ ps, x.block < W.heap.size) → DataW.TrodAll enc' P W' 0 (fun b => decide (b < W.heap.size)) true ts vs ds ps
  | [], vs, ds, ps, _, h, _ => by
    obtain ⟨rfl, rfl, rfl⟩ := trodAll_nil h
    exact trodAll_mk0
  | t :: ts, vs, ds, ps, hr, h, hlt => by
    obtain ⟨v, vs, d, ds, p, q, rfl, rfl, rfl, h1, h2⟩ := trodAll_cons h
    simp only [List.all_cons, Bool.and_eq_true, decide_eq_true_eq] at hr
    exact trodAll_cons_mk (Below.trod laid hr.1.1 hr.1.2 h1 hb fun x hx => hlt x (List.mem_append_left _ hx)) (trodAll_stays laid hb hr.2 h2 fun x hx => hlt x (List.mem_append_right _ hx))

theorem trodAll_len : ∀ {ts : List TypeId} {vs : List Value} {ds : List (DataW H)} {ps : List MemPlace} {base : Nat} {sp : Nat → Bool} {held : Bool}, DataW.TrodAll enc' P W base sp held ts vs ds ps → ds.length = ts.length
  | [], vs, ds, ps, _, _, _, h => by
    obtain ⟨rfl, rfl, rfl⟩ := trodAll_nil h
    rfl
  | t :: ts, vs, ds, ps, _, _, _, h => by
    obtain ⟨v, vs, d, ds, p, q, rfl, rfl, rfl, h1, h2⟩ := trodAll_cons h
    simp [trodAll_len h2]

theorem law_post {f : Func} {s : ChangeSpec} {tb : TypeId} {apart handsOn fresh : Bool} (laid : laidOutB P = true) (hrt : f.resultTypes = #[tb]) (hub : P.underlying tb = some .bool) (hpar : (f.params.toList.all fun t => P.readableRec t && decide (t < P.types.size)) = true)
    (hsv : s.vars = []) {args : Array Value} {ds gs : List (DataW H)} {before : List MemPlace} (n : Nat) (hn : f.params.toList.length = n) (hsf0 : ∀ ds : List (DataW H), ds.length = n → (s.fn H ds).results = [.lit (.bool true)] ∧ (s.fn H ds).args = ds ∧ (s.fn H ds).vars = [])
    (hW : DataW.Whole enc' P f.params.toList s.vars apart W args.toList ds gs before) (hb : Below W.heap.size W W') : s.post enc' P f apart fresh handsOn false W args (.bool true) W' := by
  have hlt := hW.lt
  have hW' := hW
  obtain ⟨p, q, hA, hV, rfl, hfz, hnd⟩ := hW
  have hsf := hsf0 ds ((trodAll_len hA).trans hn)
  rw [hsv] at hV
  obtain ⟨rfl, rfl⟩ := trodVars_none hV
  rw [List.append_nil] at hlt hW'
  refine ⟨ds, [], p, [], p, [], hW', ?_, ?_, ?_, hb.frame _, fun h => by cases h⟩
  · rw [List.append_nil, hsf.1, hrt]
    exact trodAll_mk1 (shut_bool hub true)
  · rw [List.append_nil, hsf.2.1]
    exact trodAll_stays laid hb hpar hA hlt
  · rw [hsv, List.append_nil, hsf.2.2]
    exact rfl

/-- the law's contract: it answers true to whatever can be read -/
def LawFn (P : Program) (f : FuncId) (shs : List Sh) : Prop := FnSpec P f shs ⟨ValidL shs, fun _ => .sb true⟩

theorem law_calls {f : FuncId} {fn : Func} {shs : List Sh} (hl : LawFn P f shs) {d : Nat} {args : Array Value} {ds : List (DataW H)} {ps : List MemPlace} (hs : argShs P d fn.params.toList = some shs)
    (hA : DataW.TrodAll enc' P W 0 (fun _ => true) true fn.params.toList args.toList ds ps) {r : Reach} {base : Nat} (hval : ∀ (j : Nat) t v, fn.params[j]? = some t → args[j]? = some v → Value.okWide P W r base t v) :
    Calls P f args W fun e W' => e = .returned (.bool true) ∧ Below W.heap.size W W' := by
  obtain ⟨x, hr, hv⟩ := read_all (d := d) hA (fun j t v ht hv => hval j t v (by simpa using ht) (by simpa using hv)) hs
  have := hl x hv (Cx.all W) W args.toList (hr_all W) hr
  refine Calls.mono this ?_
  rintro e w' ⟨v, C', he, h1, h2, h3⟩
  cases h2
  exact ⟨he, h3.os, h3.tape, h3.output, h3.size, fun k hk => h3.keep k hk fun i b c n hi => by simp at hi⟩
end
end Abs
end Go.Proofs.Ytjblicdceafcpaa

/- A call whose callee turns some of the caller's own objects: its contract over these alone, in numbers of its own. -/
namespace Go.Proofs.Ytjblicdceafcpaa
namespace Abs
open Go Go.RowKit

/-- other numbers for one's own objects -/
def renA (f : Nat → Nat) : AV → AV
  | .own i off => .own (f i) off
  | .row i => .row (f i)
  | .agg l => .agg (renL f l)
  | .tup l => .tup (renL f l)
  | .fn g a b => .fn g (renL f a) (renL f b)
  | a => a
where renL (f : Nat → Nat) : List AV → List AV
  | [] => []
  | a :: l => renA f a :: renL f l
/-- all of one's own objects inside are among those of p -/
def okR (p : Nat → Bool) : AV → Bool
  | .own i _ => p i
  | .row i => p i
  | .elt _ _ _ _ => false
  | .lsl _ _ _ => false
  | .gd _ _ => false
  | .agg l => okRL p l
  | .tup l => okRL p l
  | .fn _ a b => okRL p a && okRL p b
  | _ => true
where okRL (p : Nat → Bool) : List AV → Bool
  | [] => true
  | a :: l => okR p a && okRL p l
def renB (f : Nat → Nat) : Blk → Blk
  | .cells t l => .cells t (renA.renL f l)
  | b => b
def okRB (p : Nat → Bool) : Blk → Bool
  | .cells _ l => okR.okRL p l
  | _ => true
def okRH (p : Nat → Bool) : Heap → Bool
  | [] => true
  | b :: l => okRB p b && okRH p l
def posD : List Nat → Nat → Nat
  | [], _ => 0
  | j :: l, i => (match Nat.beq j i with | true => 0 | false => posD l i + 1)
def nodupB : List Nat → Bool
  | [] => true
  | j :: l => !(memN j l) && nodupB l
/-- the objects that are handed over -/
def subH (js : List Nat) (hp : Heap) : List Nat → Heap
  | [] => []
  | j :: l => renB (posD js) (getB hp j) :: subH js hp l
def okSub (js : List Nat) (hp : Heap) : List Nat → Bool
  | [] => true
  | j :: l => okRB (fun i => memN i js) (getB hp j) && okSub js hp l
/-- the callee's numbers in the caller's -/
def outN (js : List Nat) (n : Nat) (k : Nat) : Nat := match js[k]? with | some i => i | none => n + (k - js.length)
def putH (js : List Nat) (f : Nat → Nat) (h1 : Heap) : Nat → Heap → Heap
  | _, [] => []
  | i, b :: l => (match memN i js with | true => renB f (getB h1 (posD js i)) | false => b) :: putH js f h1 (i + 1) l
def newH (f : Nat → Nat) : Nat → Heap → Heap
  | _, [] => []
  | 0, b :: l => renB f b :: newH f 0 l
  | m + 1, _ :: l => newH f m l

section
variable {P : Program} {S : Sums} {C C' C1 : Cx} {w w' : World} {H hp : Heap}

theorem ren_rel {f : Nat → Nat} {p : Nat → Bool} (hρ : ∀ i q, p i = true → C.ρ i = some q → C'.ρ (f i) = some q) (hI : ∀ b, C.I b → C'.I b) {a : AV} {v : Value} (h : Rel C w a v) : okR p a = true → Rel C' w (renA f a) v := by
  refine Rel.rec (C := C) (w := w) (motive_1 := fun a v _ => okR p a = true → Rel C' w (renA f a) v) (motive_2 := fun l vs _ => okR.okRL p l = true → RelL C' w (renA.renL f l) vs)
    ?_ ?_ ?_ ?_ ?_ ?_ ?_ ?_ ?_ ?_ ?_ ?_ ?_ ?_ ?_ ?_ ?_ ?_ ?_ h
  · exact fun v _ => .top v
  · exact fun k a v ho => by simp [okR] at ho
  · exact fun k n _ => .li k n
  · exact fun k n _ => .si k n
  · exact fun b _ => .lb b
  · exact fun b _ => .sb b
  · exact fun x _ => .v x
  · exact fun l vs _ h ho => .agg _ vs (h (by simpa [okR] using ho))
  · exact fun l vs _ h ho => .tup _ vs (h (by simpa [okR] using ho))
  · exact fun i off b c n h ho => .own _ _ _ _ _ (hρ _ _ (by simpa [okR] using ho) h)
  · exact fun i sz k off b c n h hk ho => by simp [okR] at ho
  · exact fun i b c n h ho => .row _ _ _ _ (hρ _ _ (by simpa [okR] using ho) h)
  · exact fun i n sz b c m h ho => by simp [okR] at ho
  · exact fun i h ho => .rown _ (hρ _ _ (by simpa [okR] using ho) h)
  · intro n sz el A cap vs hcap hA hr hl hn _ _
    exact (Rel.slc n sz el A cap vs hcap hA hr hl hn).change hI rfl
  · intro l ad vs hr hI' hc hn _ _
    exact (Rel.xp l ad vs hr hI' hc hn).change hI rfl
  · exact fun g l m vs ws _ _ h h' ho => by
      simp [okR] at ho
      exact .fn _ _ _ vs ws (h ho.1) (h' ho.2)
  · exact fun _ => .nil
  · exact fun a l v vs _ _ h h' ho => by
      simp [okR.okRL] at ho
      exact .cons _ _ v vs (h ho.1) (h' ho.2)
theorem ren_relL {f : Nat → Nat} {p : Nat → Bool} (hρ : ∀ i q, p i = true → C.ρ i = some q → C'.ρ (f i) = some q) (hI : ∀ b, C.I b → C'.I b) : ∀ {l : List AV} {vs : List Value}, RelL C w l vs → okR.okRL p l = true → RelL C' w (renA.renL f l) vs
  | _, _, .nil, _ => .nil
  | _, _, .cons a l v vs h h', ho => by
    simp [okR.okRL] at ho
    exact .cons _ _ _ _ (ren_rel hρ hI h ho.1) (ren_relL hρ hI h' ho.2)
theorem ren_brel {f : Nat → Nat} {p : Nat → Bool} (hρ : ∀ i q, p i = true → C.ρ i = some q → C'.ρ (f i) = some q) (hI : ∀ b, C.I b → C'.I b) {b : Blk} {q : Pl} (h : BRel C w q b) (ho : okRB p b = true) : BRel C' w q (renB f b) := by
  cases b with
  | dead => cases q <;> exact h.elim
  | cells t l =>
    cases q with
    | nil => exact h.elim
    | «at» x cap n =>
      obtain ⟨vs, hr, hh⟩ := h
      exact ⟨vs, ren_relL hρ hI hr ho, hh⟩
  | row e sz m el =>
    cases q with
    | nil => exact h
    | «at» x cap n =>
      obtain ⟨h1, h2, h3, cs, vs, hh, hs, hc⟩ := h
      exact ⟨h1, h2, h3, cs, vs, hh, hs, fun k hk => ⟨(hc k hk).1.change hI (own_ok (hc k hk).2.1), (hc k hk).2⟩⟩

theorem pos_mem : ∀ {js : List Nat} {i : Nat}, memN i js = true → js[posD js i]? = some i
  | [], i, h => by simp [memN] at h
  | j :: l, i, h => by
    unfold memN at h
    unfold posD
    split at h
    · rename_i e; rw [e]; have := Nat.eq_of_beq_eq_true e; subst this; rfl
    · rename_i e; rw [e]; simpa using pos_mem h
theorem mem_get : ∀ {js : List Nat} {k i : Nat}, js[k]? = some i → memN i js = true
  | [], k, i, h => by simp at h
  | j :: l, 0, i, h => by
    simp at h; subst h
    unfold memN; rw [Nat.beq_refl]
  | j :: l, k + 1, i, h => by
    simp at h
    unfold memN
    split
    · rfl
    · exact mem_get h
theorem nodup_inj : ∀ {js : List Nat} {k k' i : Nat}, nodupB js = true → js[k]? = some i → js[k']? = some i → k = k'
  | [], k, k', i, _, h, _ => by simp at h
  | j :: l, 0, 0, i, _, _, _ => rfl
  | j :: l, 0, k' + 1, i, hn, h, h' => by
    simp at h h'; subst h
    simp [nodupB, mem_get h'] at hn
  | j :: l, k + 1, 0, i, hn, h, h' => by
    simp at h h'; subst h'
    simp [nodupB, mem_get h] at hn
  | j :: l, k + 1, k' + 1, i, hn, h, h' => by
    simp at h h'
    simp [nodupB] at hn
    rw [nodup_inj hn.2 h h']
theorem getB_sub (js : List Nat) (hp : Heap) : ∀ (l : List Nat) (k i : Nat), l[k]? = some i → getB (subH js hp l) k = renB (posD js) (getB hp i)
  | [], k, i, h => by simp at h
  | j :: l, 0, i, h => by simp at h; subst h; rfl
  | j :: l, k + 1, i, h => by simp at h; exact getB_sub js hp l k i h
theorem len_sub (js : List Nat) (hp : Heap) : ∀ l : List Nat, (subH js hp l).length = l.length
  | [] => rfl
  | _ :: l => by simp [subH, len_sub js hp l]
theorem ok_sub (js : List Nat) (hp : Heap) : ∀ (l : List Nat) (k i : Nat), okSub js hp l = true → l[k]? = some i → okRB (fun i => memN i js) (getB hp i) = true
  | [], k, i, _, h => by simp at h
  | j :: l, 0, i, ho, h => by simp at h; subst h; simp [okSub] at ho; exact ho.1
  | j :: l, k + 1, i, ho, h => by simp at h; simp [okSub] at ho; exact ok_sub js hp l k i ho.2 h
theorem len_put (js : List Nat) (f : Nat → Nat) (h1 : Heap) : ∀ (i : Nat) (l : Heap), (putH js f h1 i l).length = l.length
  | _, [] => rfl
  | i, _ :: l => by simp [putH, len_put js f h1 (i + 1) l]
theorem getB_put (js : List Nat) (f : Nat → Nat) (h1 : Heap) : ∀ (i k : Nat) (l : Heap), k < l.length → getB (putH js f h1 i l) k = (match memN (i + k) js with | true => renB f (getB h1 (posD js (i + k))) | false => getB l k)
  | i, k, [], h => by simp at h
  | i, 0, b :: l, _ => rfl
  | i, k + 1, b :: l, h => by
    have := getB_put js f h1 (i + 1) k l (by simpa using h)
    rw [show i + 1 + k = i + (k + 1) by omega] at this
    exact this
theorem getB_new (f : Nat → Nat) : ∀ (m k : Nat) (l : Heap), getB (newH f m l) k = renB f (getB l (k + m))
  | m, k, [] => by cases m <;> rfl
  | 0, 0, b :: l => rfl
  | 0, k + 1, b :: l => by have := getB_new f 0 k l; exact this
  | m + 1, k, b :: l => by have := getB_new f m k l; rw [show k + (m + 1) = (k + m) + 1 by omega]; exact this
theorem okRH_get {p : Nat → Bool} : ∀ {l : Heap} {k : Nat}, okRH p l = true → okRB p (getB l k) = true
  | [], _, _ => rfl
  | b :: l, 0, h => by simp [okRH] at h; exact h.1
  | b :: l, k + 1, h => by simp [okRH] at h; exact okRH_get (l := l) h.2

/-- THE CALL, over the objects that it is handed. -/
theorem Fn.focus {f : FuncId} {args : List AV} {js : List Nat} {res : AV} {h1 : Heap} (hnd : nodupB js = true) (hoa : okR.okRL (fun i => memN i js) args = true) (hoh : okSub js hp js = true)
    (hor : okR (fun _ => true) res = true) (ho1 : okRH (fun _ => true) h1 = true)
    (h : Fn P f (renA.renL (posD js) args) (subH js hp js) res h1) :
    Fn P f args hp (renA (outN js hp.length) res) (putH js (outN js hp.length) h1 0 hp ++ newH (outN js hp.length) js.length h1) := by
  intro C w vs hH ha
  have hpos : ∀ i q, memN i js = true → C.ρ i = some q → (⟨fun k => match js[k]? with | some i => C.ρ i | none => none, C.I⟩ : Cx).ρ (posD js i) = some q := fun i q hm hq => by
    simp only [pos_mem hm]; exact hq
  have hC0 : ∀ k q, (⟨fun k => match js[k]? with | some i => C.ρ i | none => none, C.I⟩ : Cx).ρ k = some q → ∃ i, js[k]? = some i ∧ C.ρ i = some q := fun k q hq => by
    simp only at hq
    split at hq
    · rename_i i hi; exact ⟨i, hi, hq⟩
    · cases hq
  have hH0 : HR (⟨fun k => match js[k]? with | some i => C.ρ i | none => none, C.I⟩ : Cx) (subH js hp js) w := by
    refine ⟨fun k q hq => ?_, fun k k' b c n b' c' n' hq hq' hne => ?_, fun k b c n hq => ?_, hH.ilt⟩
    · obtain ⟨i, hi, hq⟩ := hC0 k q hq
      rw [getB_sub js hp js k i hi]
      exact ren_brel hpos (fun _ h => h) (hH.live i q hq) (ok_sub js hp js k i hoh hi)
    · obtain ⟨i, hi, hq⟩ := hC0 _ _ hq
      obtain ⟨i', hi', hq'⟩ := hC0 _ _ hq'
      exact hH.inj i i' _ _ _ _ _ _ hq hq' fun e => hne (by subst e; exact nodup_inj hnd hi hi')
    · obtain ⟨i, hi, hq⟩ := hC0 _ _ hq
      exact hH.fresh _ _ _ _ hq
  refine (h _ w vs hH0 (ren_relL hpos (fun _ h => h) ha hoa)).mono ?_
  rintro e w' ⟨v, C1, he, h2, h3, h4⟩
  rw [len_sub] at h4
  have hlt : ∀ {i : Nat} {p : Pl}, C.ρ i = some p → i < hp.length := fun hi => hH.lt hi
  have hkeep : ∀ b, b < w.heap.size → (∀ i c n, memN i js = true → C.ρ i ≠ some (.at b c n)) → w'.heap[b]? = w.heap[b]? := fun b hb hn => h4.keep b hb fun k b' c n hk hq e => by
    subst e
    obtain ⟨i, hi, hq⟩ := hC0 _ _ hq
    exact hn i c n (mem_get hi) hq
  let C' : Cx := ⟨fun i => if i < hp.length then C.ρ i else C1.ρ (i - hp.length + js.length), C1.I⟩
  have hρ1 : ∀ k i, js[k]? = some i → C1.ρ k = C.ρ i := fun k i hi => by
    rw [h4.rho k (List.getElem?_eq_some_iff.1 hi).1]; simp only [hi]
  have hout : ∀ k q, (fun _ : Nat => true) k = true → C1.ρ k = some q → C'.ρ (outN js hp.length k) = some q := fun k q _ hq => by
    unfold outN
    cases hk : js[k]? with
    | some i =>
      rw [hρ1 k i hk] at hq
      show (if i < hp.length then C.ρ i else _) = _
      rw [if_pos (hlt hq)]; exact hq
    | none =>
      have := List.getElem?_eq_none_iff.1 hk
      show (if hp.length + (k - js.length) < hp.length then _ else C1.ρ (hp.length + (k - js.length) - hp.length + js.length)) = _
      rw [if_neg (by omega), show hp.length + (k - js.length) - hp.length + js.length = k by omega]; exact hq
  have hx : Cext C w C' w' := ⟨fun i p hi => by show (if i < hp.length then _ else _) = _; rw [if_pos (hlt hi)]; exact hi, fun b hb => h4.imm b hb, fun b hb => hkeep b (hH.ilt b hb) fun i c n _ hq => (hH.fresh _ _ _ _ hq).2 hb⟩
  have hold : ∀ {i : Nat} {q : Pl}, i < hp.length → C'.ρ i = some q → C.ρ i = some q := fun hi hq => by
    have hq : (if _ < hp.length then C.ρ _ else C1.ρ _) = some _ := hq
    rwa [if_pos hi] at hq
  have hnew : ∀ {i : Nat} {q : Pl}, ¬ i < hp.length → C'.ρ i = some q → C1.ρ (i - hp.length + js.length) = some q := fun hi hq => by
    have hq : (if _ < hp.length then C.ρ _ else C1.ρ _) = some _ := hq
    rwa [if_neg hi] at hq
  have hlen := len_put js (outN js hp.length) h1 0 hp
  refine ⟨v, C', he, ⟨fun i q hi => ?_, fun i j b c n b' c' n' hi hj hne => ?_, fun i b c n hi => ?_, h2.ilt⟩, ren_rel hout (fun _ h => h) h3 hor, ?_⟩
  · by_cases hin : i < hp.length
    · have hq := hold hin hi
      rw [getB_eq, List.getD_eq_getElem?_getD, List.getElem?_append_left (by omega), ← List.getD_eq_getElem?_getD, ← getB_eq, getB_put _ _ _ _ _ _ hin, Nat.zero_add]
      cases hm : memN i js with
      | true =>
        have hk := pos_mem hm
        have := h2.live (posD js i) q (by rw [hρ1 _ _ hk]; exact hq)
        exact ren_brel hout (fun _ h => h) this (okRH_get ho1)
      | false =>
        refine (hH.live i q hq).mono hx fun b c n e => ?_
        subst e
        refine hkeep b (hH.fresh _ _ _ _ hq).1 fun j c' n' hj hq' => ?_
        have : i ≠ j := fun e => by subst e; rw [hm] at hj; cases hj
        exact hH.inj _ _ _ _ _ _ _ _ hq hq' this rfl
    · have hq := hnew hin hi
      rw [getB_eq, List.getD_eq_getElem?_getD, List.getElem?_append_right (by omega), ← List.getD_eq_getElem?_getD, ← getB_eq, hlen, getB_new]
      exact ren_brel hout (fun _ h => h) (h2.live _ q hq) (okRH_get ho1)
  · by_cases hi' : i < hp.length <;> by_cases hj' : j < hp.length
    · exact hH.inj _ _ _ _ _ _ _ _ (hold hi' hi) (hold hj' hj) hne
    · have h5 := (hH.fresh _ _ _ _ (hold hi' hi)).1
      have h6 := h4.own _ _ _ _ (by omega) (hnew hj' hj)
      omega
    · have h5 := (hH.fresh _ _ _ _ (hold hj' hj)).1
      have h6 := h4.own _ _ _ _ (by omega) (hnew hi' hi)
      omega
    · exact h2.inj _ _ _ _ _ _ _ _ (hnew hi' hi) (hnew hj' hj) (by omega)
  · by_cases hi' : i < hp.length
    · have h5 := hH.fresh _ _ _ _ (hold hi' hi)
      refine ⟨Nat.lt_of_lt_of_le h5.1 h4.size, fun hI => ?_⟩
      rcases h4.imm' b hI with h6 | h6
      · exact h5.2 h6
      · omega
    · exact h2.fresh _ _ _ _ (hnew hi' hi)
  · refine ⟨h4.os, h4.tape, h4.output, h4.size, fun k hk hno => hkeep k hk fun i c n _ hq => ?_, h4.imm, h4.imm', fun i hi => ?_, fun i b c n hi hq => h4.own _ _ _ _ (by omega) (hnew (by omega) hq)⟩
    · exact hno i k c n (hlt hq) hq rfl
    · show (if i < hp.length then _ else _) = _; rw [if_pos hi]
end
end Abs
end Go.Proofs.Ytjblicdceafcpaa

/- Contracts of functions that turn objects of the caller's: by data. -/
namespace Go.Proofs.Ytjblicdceafcpaa
namespace Abs
open Go Go.RowKit

inductive OB where
  | cells (t : TypeId) (l : List Sh)
  | row (e : TypeId) (sz : Nat) (l : List Sh)
@[reducible] def DatB : OB → Type
  | .cells _ l => DatL l
  | .row _ _ l => Nat × (Nat → DatL l)
@[reducible] def DatH : List OB → Type
  | [] => Unit
  | b :: l => DatB b × DatH l
def encB : (b : OB) → DatB b → Blk
  | .cells t l, x => .cells t (encL l x)
  | .row e sz l, x => .row e sz (.sym x.1) (fun k => encL l (x.2 k))
def encH : (l : List OB) → DatH l → Heap
  | [], _ => []
  | b :: l, x => encB b x.1 :: encH l x.2
def okB : OB → Blk → Bool
  | .cells t l, b => (match b with | .cells t' m => Nat.beq t' t && okShL l m | _ => false)
  | .row e sz l, b => (match b with | .row e' sz' _ _ => Nat.beq e' e && Nat.beq sz' sz && cellShL l | _ => false)
def okHB : List OB → Heap → Bool
  | [], h => (match h with | [] => true | _ => false)
  | b :: l, h => (match h with | c :: h => okB b c && okHB l h | [] => false)
def canB : OB → Blk → List Cd
  | .cells _ l, b => (match b with | .cells _ m => canShL l m | _ => [])
  | .row _ _ l, b => (match b with | .row _ _ n el => [⟨CanEl l, (n.val, el)⟩] | _ => [])
def canHB : List OB → Heap → List Cd
  | [], _ => []
  | b :: l, h => (match h with | c :: h => appP (canB b c) (canHB l h) | [] => [])
def decB : (b : OB) → Blk → DatB b
  | .cells _ l, b => (match b with | .cells _ m => decL l m | _ => decL l [])
  | .row _ _ l, b => (match b with | .row _ _ n el => (n.val, fun k => decL l (el k)) | _ => (0, fun _ => decL l []))
def decH : (l : List OB) → Heap → DatH l
  | [], _ => ()
  | b :: l, h => (match h with | c :: h => (decB b c, decH l h) | [] => (decB b .dead, decH l []))
def decBK {β : Type 1} : (b : OB) → Blk → (DatB b → β) → β
  | .cells _ l, b, f => (match b with | .cells _ m => decKL l m f | _ => f (decL l []))
  | .row _ _ l, b, f => (match b with | .row _ _ n el => (match n with | .lit n => f (n, fun k => decL l (el k)) | .sym n => f (n, fun k => decL l (el k))) | _ => f (0, fun _ => decL l []))
def decHK {β : Type 1} : (l : List OB) → Heap → (DatH l → β) → β
  | [], _, f => f ()
  | b :: l, h, f => (match h with | c :: h => decBK b c fun x => decHK l h fun y => f (x, y) | [] => f (decB b .dead, decH l []))

structure SpecF (obs : List OB) (shs : List Sh) where
  pre : DatH obs → DatL shs → Prop
  res : DatH obs → DatL shs → AV
  after : DatH obs → DatL shs → Heap
def FnSpecF (P : Program) (f : FuncId) (obs : List OB) (shs : List Sh) (sp : SpecF obs shs) : Prop :=
  ∀ o x, sp.pre o x → Fn P f (encL shs x) (encH obs o) (sp.res o x) (sp.after o x)

-- which objects are reached
def refsA : AV → List Nat
  | .own i _ => [i]
  | .row i => [i]
  | .agg l => refsL l
  | .tup l => refsL l
  | .fn _ a b => refsL a ++ refsL b
  | _ => []
where refsL : List AV → List Nat
  | [] => []
  | a :: l => refsA a ++ refsL l
def addJ (js : List Nat) : List Nat → List Nat
  | [] => js
  | i :: l => (match memN i js with | true => addJ js l | false => addJ (js ++ [i]) l)
def refsH (hp : Heap) : List Nat → List Nat
  | [] => []
  | j :: l => (match getB hp j with | .cells _ m => refsA.refsL m | _ => []) ++ refsH hp l
def forceN {β : Type 1} : List Nat → (List Nat → β) → β
  | [], k => k []
  | a :: l, k => forceN l fun l' => k (a :: l')
def mkSumF (obs : List OB) (shs : List Sh) (sp : SpecF obs shs) : Summ2 := fun args hp =>
  forceN (addJ [] (refsA.refsL args)) fun j1 => forceN (addJ j1 (refsH hp j1)) fun js =>
  match nodupB js && okR.okRL (fun i => memN i js) args && okSub js hp js && okHB obs (subH js hp js) && okShL shs (renA.renL (posD js) args) with
  | true => decHK obs (subH js hp js) fun o => decKL shs (renA.renL (posD js) args) fun x =>
    (match okR (fun _ => true) (sp.res o x) && okRH (fun _ => true) (sp.after o x) with
    | true => some ⟨appP (canHB obs (subH js hp js)) (appP (canShL shs (renA.renL (posD js) args)) [⟨fun z : DatH obs × DatL shs => sp.pre z.1 z.2, (o, x)⟩]),
        renA (outN js hp.length) (sp.res o x), putH js (outN js hp.length) (sp.after o x) 0 hp ++ newH (outN js hp.length) js.length (sp.after o x)⟩
    | false => none)
  | false => none

section
variable {P : Program} {S : Sums} {C C' C1 : Cx} {w w' : World} {H hp : Heap}
theorem forceN_eq {β : Type 1} : ∀ (l : List Nat) (k : List Nat → β), forceN l k = k l
  | [], _ => rfl
  | a :: l, k => by unfold forceN; rw [forceN_eq l]
theorem decBK_eq {β : Type 1} {b : OB} {c : Blk} {f : DatB b → β} (h : okB b c = true) : decBK b c f = f (decB b c) := by
  cases b with
  | cells t l =>
    unfold okB at h
    cases c <;> simp only at h <;> first | (cases h; done) | skip
    simp only [Bool.and_eq_true] at h
    unfold decBK decB
    exact decKL_eq h.2
  | row e sz l =>
    cases c <;> unfold okB at h <;> simp only at h <;> first | (cases h; done) | skip
    rename_i n _
    unfold decBK decB
    cases n <;> rfl
theorem decHK_eq {β : Type 1} : ∀ {l : List OB} {h : Heap} {f : DatH l → β}, okHB l h = true → decHK l h f = f (decH l h)
  | [], _, _, _ => rfl
  | b :: l, [], f, h => by cases h
  | b :: l, c :: h, f, ho => by
    unfold okHB at ho
    simp only [Bool.and_eq_true] at ho
    unfold decHK decH
    simp only
    rw [decBK_eq ho.1, decHK_eq ho.2]
theorem enc_decB {b : OB} {c : Blk} (h : okB b c = true) (hc : ∀ p ∈ canB b c, p.ok) {q : Pl} (hr : BRel C w q c) : BRel C w q (encB b (decB b c)) := by
  cases b with
  | cells t l =>
    unfold okB at h
    cases c <;> simp only at h <;> first | (cases h; done) | skip
    simp only [Bool.and_eq_true] at h
    obtain rfl := Nat.eq_of_beq_eq_true h.1
    unfold encB decB
    cases q with
    | nil => exact hr.elim
    | «at» x cap n =>
      obtain ⟨vs, h1, h2⟩ := hr
      exact ⟨vs, encL_dec (can_shL h.2 hc) h1, h2⟩
  | row e sz l =>
    cases c <;> unfold okB at h <;> simp only at h <;> first | (cases h; done) | skip
    rename_i e' sz' n el
    simp only [Bool.and_eq_true] at h
    obtain rfl := Nat.eq_of_beq_eq_true h.1.1
    obtain rfl := Nat.eq_of_beq_eq_true h.1.2
    unfold encB decB
    have hcan : CanEl l (n.val, el) := hc ⟨CanEl l, (n.val, el)⟩ (by unfold canB; exact List.mem_singleton.2 rfl)
    cases q with
    | nil => exact hr
    | «at» x cap m =>
      obtain ⟨h1, h2, h3, cs, vs, hh, hs, hcl⟩ := hr
      exact ⟨h1, h2, h3, cs, vs, hh, hs, fun k hk => ⟨encL_dec (hcan k (by rw [h1]; exact hk)) (hcl k hk).1, enc_okL h.2, (hcl k hk).2.2⟩⟩
theorem enc_decH : ∀ {l : List OB} {h : Heap}, okHB l h = true → (∀ p ∈ canHB l h, p.ok) → ∀ (i : Nat) {q : Pl}, BRel C w q (getB h i) → BRel C w q (getB (encH l (decH l h)) i)
  | [], [], _, _, i, q, hr => by cases q <;> exact hr.elim
  | [], _ :: _, h, _, _, _, _ => by cases h
  | b :: l, [], h, _, _, _, _ => by cases h
  | b :: l, c :: h, ho, hc, i, q, hr => by
    unfold okHB at ho
    simp only [Bool.and_eq_true] at ho
    obtain ⟨h1, h2⟩ := appP_mem (l := canB b c) (m := canHB l h) fun p hp => hc p (by unfold canHB; exact hp)
    cases i with
    | zero => exact enc_decB ho.1 h1 hr
    | succ i => exact enc_decH ho.2 h2 i hr
theorem len_encH : ∀ {l : List OB} {h : Heap}, okHB l h = true → (encH l (decH l h)).length = h.length
  | [], [], _ => rfl
  | [], _ :: _, h => by cases h
  | b :: l, [], h => by cases h
  | b :: l, c :: h, ho => by
    unfold okHB at ho
    simp only [Bool.and_eq_true] at ho
    unfold encH decH
    simp [len_encH ho.2]
theorem Fn.weakenH {f : FuncId} {args : List AV} {H0 : Heap} {r : AV} {H' : Heap} (h : Fn P f args H0 r H') (hl : H0.length = H.length) (hw : ∀ (C : Cx) (w : World) (i : Nat) (q : Pl), BRel C w q (getB H i) → BRel C w q (getB H0 i)) : Fn P f args H r H' :=
  fun C w vs hH ha => (h C w vs ⟨fun i q hi => hw C w i q (hH.live i q hi), hH.inj, hH.fresh, hH.ilt⟩ ha).mono fun _e _w' ⟨v, C', h1, h2, h3, h4⟩ => ⟨v, C', h1, h2, h3, hl ▸ h4⟩

def Summ2OK (P : Program) (f : FuncId) (s : Summ2) : Prop := ∀ args hp pre res hp', s args hp = some ⟨pre, res, hp'⟩ → (∀ p ∈ pre, p.ok) → Fn P f args hp res hp'
theorem mkSumF_ok {f : FuncId} {obs : List OB} {shs : List Sh} {sp : SpecF obs shs} (h : FnSpecF P f obs shs sp) : Summ2OK P f (mkSumF obs shs sp) := by
  intro args hp pre res hp' hm hpre
  unfold mkSumF at hm
  rw [forceN_eq, forceN_eq] at hm
  generalize addJ (addJ [] (refsA.refsL args)) (refsH hp (addJ [] (refsA.refsL args))) = js at hm
  split at hm
  · rename_i hok
    simp only [Bool.and_eq_true] at hok
    obtain ⟨⟨⟨⟨h1, h2⟩, h3⟩, h4⟩, h5⟩ := hok
    rw [decHK_eq h4, decKL_eq h5] at hm
    split at hm
    · rename_i h6
      simp only [Bool.and_eq_true] at h6
      injection hm with hm; injection hm with e1 e2 e3
      subst e1 e2 e3
      obtain ⟨h7, h8⟩ := appP_mem hpre
      obtain ⟨h9, h10⟩ := appP_mem h8
      have := h _ _ (h10 _ (List.mem_singleton.2 rfl))
      refine Fn.focus h1 h2 h3 h6.1 h6.2 ?_
      exact (this.weakenH (len_encH h4) fun C w i q => enc_decH h4 h7 i).weaken fun C w vs ha => encL_dec (can_shL h5 h9) ha
    · cases hm
  · cases hm
theorem SumsOK.addTwo {one : List (Nat × Summ)} {two : List (Nat × Summ2)} {lo : Nat} {eqs : List (Nat × List (Option IntKind))} {its : List (Nat × Iter)} (hS : SumsOK P ⟨one, two, lo, eqs, its⟩) {f : FuncId} {fn : Func} (hf : P.funcs[f]? = some fn) (hn : (fn.name == "runtime.NumGoroutine") = false) (hb : fn.body.isNone = false)
    {s : Summ2} (h : Summ2OK P f s) : SumsOK P ⟨one, (f, s) :: two, lo, eqs, its⟩ := by
  refine ⟨hS.one, fun g s1 hg => ?_, hS.eqs, hS.bodyOne, fun g s1 hg => ?_, hS.its⟩
  · simp only [findS] at hg
    split at hg
    · rename_i e
      injection hg with hg; subst hg
      obtain rfl := Nat.eq_of_beq_eq_true e
      exact h
    · exact hS.two g s1 hg
  · simp only [findS] at hg
    split at hg
    · rename_i e
      obtain rfl := Nat.eq_of_beq_eq_true e
      exact ⟨fn, hf, hn, hb⟩
    · exact hS.bodyTwo g s1 hg
theorem SumsOK.setLo {one : List (Nat × Summ)} {two : List (Nat × Summ2)} {lo : Nat} {eqs : List (Nat × List (Option IntKind))} {its : List (Nat × Iter)} (hS : SumsOK P ⟨one, two, lo, eqs, its⟩) (n : Nat) : SumsOK P ⟨one, two, n, eqs, its⟩ :=
  ⟨hS.one, hS.two, hS.eqs, hS.bodyOne, hS.bodyTwo, hS.its⟩
theorem SumsOK.setEqs {one : List (Nat × Summ)} {two : List (Nat × Summ2)} {lo : Nat} {eqs eqs' : List (Nat × List (Option IntKind))} {its : List (Nat × Iter)} (hS : SumsOK P ⟨one, two, lo, eqs, its⟩) (h : ∀ t ks, findS eqs' t = some ks → EqOK P t ks) : SumsOK P ⟨one, two, lo, eqs', its⟩ :=
  ⟨hS.one, hS.two, h, hS.bodyOne, hS.bodyTwo, hS.its⟩
theorem encH_len : ∀ {l : List OB} {x : DatH l}, (encH l x).length = l.length
  | [], _ => rfl
  | b :: l, x => by simp [encH, encH_len]
theorem FnSpecF.of {one : List (Nat × Summ)} {two : List (Nat × Summ2)} {lo : Nat} {eqs : List (Nat × List (Option IntKind))} {its : List (Nat × Iter)} (hS : SumsOK P ⟨one, two, lo, eqs, its⟩) (hm : P.follows .mixedOrders = true) {obs : List OB} {shs : List Sh} {U : Nat} {I : DatH obs → DatL shs → Anns} {f : FuncId} {fn : Func} {c : Code} (hf : P.funcs[f]? = some fn) (hb : fn.body = some c) (hok : codeOK c = true) {sp : SpecF obs shs}
    (hany : noAny shs = true) (hn : shs.length ≤ fn.ntmps) (h : ∀ o x, sp.pre o x → FnSat P ⟨one, two, obs.length, eqs, its⟩ U (I o x) fn (encL shs x) (encH obs o) (sp.res o x) (sp.after o x)) : FnSpecF P f obs shs sp :=
  fun o x hx => Fn.of (hS.setLo obs.length) hm hf hb hok (by rw [encH_len]) (encL_ng hany) (by rw [encL_len]; exact hn) (h o x hx)
end
end Abs
end Go.Proofs.Ytjblicdceafcpaa
