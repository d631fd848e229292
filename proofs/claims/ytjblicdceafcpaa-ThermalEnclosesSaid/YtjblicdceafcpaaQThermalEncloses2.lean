/- Law: temperatures of a box lead into the next box. -/
import Derived.Test.YtjblicdceafcpaaQThermalEncloses1
import Derived.Test.YtjblicdceafcpaaRows
namespace Go.Proofs.Ytjblicdceafcpaa
namespace Abs
open Go Go.RowKit
theorem nbE_iff {s : Sys} {sl mo : Int} {b : Bx} : nbE s sl mo b = 0 ↔ checkB s = true ∧ 0 ≤ sl ∧ sl < s.nld ∧ 0 ≤ mo ∧ mo < s.nmd ∧ b.len = s.lim.len ∧ nearV b 1073741824 = true := by
  unfold nbE
  cases checkB s <;> cases nearV b 1073741824 <;> by_cases h : 0 ≤ sl ∧ sl < (s.nld : Int) ∧ 0 ≤ mo ∧ mo < (s.nmd : Int) <;> by_cases h' : b.len = s.lim.len <;> simp [h, h'] <;> omega
theorem u8_of {a l : Vx} {s : Dat sysSh} {sl mo : Int} {b : Dat spansSh} (hv : ValidL [sysSh, .int .i64, .int .i64, spansSh, .slice 1 [.int .u8], .slice 1 [.int .u8]] (s, sl, mo, b, (a.len, fun k => (a.at k, ())), (l.len, fun k => (l.at k, ())), ())) :
    (∀ k, k < a.len → 0 ≤ a.at k ∧ a.at k ≤ 255) ∧ ∀ k, k < l.len → 0 ≤ l.at k ∧ l.at k ≤ 255 := by
  simp only [ValidL, Valid] at hv
  obtain ⟨_, _, _, _, h1, h2, _⟩ := hv
  refine ⟨fun k hk => ?_, fun k hk => ?_⟩
  · have h := (h1.2 k hk).1
    simp [InR, IntKind.min, IntKind.max, IntKind.signed, IntKind.bits] at h
    omega
  · have h := (h2.2 k hk).1
    simp [InR, IntKind.min, IntKind.max, IntKind.signed, IntKind.bits] at h
    omega
@[irreducible] def partV (lo hi p : Int) : Int := lo + (hi - lo) * p / 255
def partS : Spec [spanSh, .int .u8] := ⟨fun (((lo : Int), (hi : Int), _), (p : Int), _) => -4294967296 ≤ lo ∧ lo ≤ hi ∧ hi ≤ 4294967296 ∧ 0 ≤ p ∧ p ≤ 255, fun (((lo : Int), (hi : Int), _), (p : Int), _) => .si .i64 (partV lo hi p)⟩
set_option maxRecDepth 100000 in
theorem part_ok : FnSpec Try.prog 18 _ partS := by
  refine FnSpec.of SL1_ok mixed (U := 0) (I := fun _ => []) Try.func18 rfl (by kernel_rfl) rfl rfl (by decide +kernel) ?_
  rintro ⟨⟨(lo : Int), (hi : Int), ⟨⟩⟩, (p : Int), ⟨⟩⟩ hpre
  obtain ⟨p1, p2, p3, p4, p5⟩ : -4294967296 ≤ lo ∧ lo ≤ hi ∧ hi ≤ 4294967296 ∧ 0 ≤ p ∧ p ≤ 255 := hpre
  unfold FnSat
  conv => arg 2; reduce
  simp [partS, and_assoc]
  have h0 : 0 ≤ hi - lo := by omega
  have h1 : 0 ≤ (hi - lo) * p := Int.mul_nonneg h0 p4
  have h2 : (hi - lo) * p ≤ (hi - lo) * 255 := Int.mul_le_mul_of_nonneg_left p5 h0
  rw [Int.tdiv_eq_ediv_of_nonneg h1]
  refine ⟨by omega, by omega, by omega, by omega, by omega, by omega, by omega, by omega, by omega, by omega, ?_⟩
  unfold partV; rfl
def SX0 : Sums := ⟨(18, mkSum _ partS) :: SL1.one, SL1.two, SL1.lo, SL1.eqs, SL1.its⟩
theorem SX0_ok : SumsOK Try.prog SX0 := (SL1_ok.cons Try.func18 (by kernel_rfl) (by kernel_rfl) part_ok)
@[irreducible] def prtV (x : Vx) (k : Nat) : Int := if k < x.len then x.at k else 0
@[irreducible] def ptF (b : Bx) (x : Vx) (k : Nat) : Int := partV (b.lo k) (b.hi k) (prtV x k)
noncomputable def encI : DatL [sysSh, .int .i64, .int .i64, spansSh, .slice 1 [.int .u8], .slice 1 [.int .u8]] → Anns := fun (s, (sl : Int), (mo : Int), b, a, l, _) => [
  (9, [(16, 2, 1), (17, 2, 1), (18, 2, 1), (19, 2, 1), (20, 2, 1), (21, 2, 1)], fun fr hp => ⟨Nat, fun g => ⟨frI [.k 22, .s (.si .i64 (icast g)), .t 3, .k 50, .t 70, .k 110] fr,
    putR (putR (putR (putR (putR (putR hp (lenH hp - 6) (.sym g) (fun k => [.si .i64 (ptF (bxOf b) (vxOf a) k)])) (lenH hp - 5) (.sym g) (fun k => [.si .i64 (ptF ((sysOf s).ld (nat sl)) (vxOf l) k)])) (lenH hp - 4) (.sym g) (fun k => [.si .i64 ((bxOf b).lo k)]))
      (lenH hp - 3) (.sym g) (fun k => [.si .i64 ((bxOf b).hi k)])) (lenH hp - 2) (.sym g) (fun k => [.si .i64 (((sysOf s).ld (nat sl)).lo k)])) (lenH hp - 1) (.sym g) (fun k => [.si .i64 (((sysOf s).ld (nat sl)).hi k)])⟩, Nat × Nat, fun g => (g, s.1.1), fun (g, n) => g ≤ n, fun g => nsub s.1.1 g⟩),
  (29, [], fun fr hp => ⟨Nat, fun g => ⟨frI [.k 31, .s (.si .i64 (icast g)), .k 172, .t 52] fr, hp⟩, Nat × Nat, fun g => (g, s.1.1), fun (g, n) => g ≤ n, fun g => nsub s.1.1 g⟩)]
set_option maxRecDepth 100000 in
set_option maxHeartbeats 20000000 in
theorem thermalEncloses_law : LawFn Try.prog 3 [sysSh, .int .i64, .int .i64, spansSh, .slice 1 [.int .u8], .slice 1 [.int .u8]] := by
  refine FnSpec.of SX0_ok mixed (U := 0) (I := encI) Try.func3 rfl (by kernel_rfl) rfl rfl (by decide +kernel) ?_
  rintro ⟨s, (sl : Int), (mo : Int), b, a, l, ⟨⟩⟩ hv
  obtain ⟨s, rfl⟩ := sys_ex s
  obtain ⟨b, rfl⟩ := bx_ex b
  obtain ⟨a, rfl⟩ := vx_ex a
  obtain ⟨l, rfl⟩ := vx_ex l
  unfold FnSat
  conv => arg 2; reduce
  simp [worksS, validS11, nxtS, nbS, partS, maxRow, ElEq, and_assoc] at hv ⊢
  intro h1 h2 h3 h4
  have hc := (validB_iff.1 h1).2
  have hsm := short_max (validB_iff.1 h1).1
  have ck := checkB_iff.1 hc
  have ub : ∀ x : Vx, (∀ k, k < x.len → 0 ≤ x.at k ∧ x.at k ≤ 255) → ∀ k, 0 ≤ prtV x k ∧ prtV x k ≤ 255 := fun x h k => by
    unfold prtV
    split
    · exact h k (by assumption)
    · omega
  have hu : (∀ k, k < a.len → 0 ≤ a.at k ∧ a.at k ≤ 255) ∧ ∀ k, k < l.len → 0 ≤ l.at k ∧ l.at k ≤ 255 := u8_of hv
  refine ⟨hsm, by unfold maxLen; omega, ?_, fun e1 e2 => ?_⟩
  · rintro (h | h)
    · exact h
    · intro he
      have := (nbE_iff.1 he).2.2.2.2.2.1
      omega
  obtain ⟨_, s0, s1, m0, m1, hbl, hbn⟩ := nbE_iff.1 e1
  have hld := ck.2.2.2.2.2.2.2.2.2.1 sl.toNat (by omega)
  have hbk := nearV_iff.1 hbn
  have hlk := nearV_iff.1 hld.2
  have hpt : ∀ (c : Bx) (x : Vx) (k : Nat), c.lo k ≤ c.hi k → (∀ k, 0 ≤ prtV x k ∧ prtV x k ≤ 255) → c.lo k ≤ ptF c x k ∧ ptF c x k ≤ c.hi k := fun c x k h0 hx => by
    have hx := hx k
    have h1 : 0 ≤ c.hi k - c.lo k := by omega
    have h2 : 0 ≤ (c.hi k - c.lo k) * prtV x k := Int.mul_nonneg h1 hx.1
    have h3 : (c.hi k - c.lo k) * prtV x k ≤ (c.hi k - c.lo k) * 255 := Int.mul_le_mul_of_nonneg_left hx.2 h1
    unfold ptF partV
    omega
  refine ⟨⟨0, rfl, rfl, fun j => by omega, rfl, fun j => by omega, rfl, fun j => by omega, rfl, fun j => by omega, rfl, fun j => by omega, rfl, fun j => by omega, by omega⟩, fun g hg => ⟨fun hlt => ?_, fun hge => ?_⟩⟩
  · have k1 := hbk g (by omega)
    have k2 := hlk g (by omega)
    have ap : ∀ (f : Nat → Int) (v : Int), f g = v → ∀ j, j < g + 1 → nrmL (catE g (fun k => [AV.si IntKind.i64 (f k)]) (rowAt 1 [AV.si IntKind.i64 v]) j) = [AV.si IntKind.i64 (f j)] := fun f v hf j hj =>
      app_one hj (fun _ => rfl) (fun h => by subst h; rw [hf]; rfl)
    have q1 : ∀ (c : Bx) (x : Vx), g < x.len → ptF c x g = partV (c.lo g) (c.hi g) (x.at g) := fun c x h => by unfold ptF prtV; rw [if_pos h]
    have q0 : ∀ (c : Bx) (x : Vx), x.len ≤ g → ptF c x g = partV (c.lo g) (c.hi g) 0 := fun c x h => by unfold ptF prtV; rw [if_neg (by omega)]
    have u1 := hu.1 g
    have u2 := hu.2 g
    repeat' (first | refine And.intro ?_ ?_ | intro _)
    all_goals first
      | omega
      | (refine ⟨g + 1, by omega, rfl, ap _ _ ?_, rfl, ap _ _ ?_, rfl, ap _ _ rfl, rfl, ap _ _ rfl, rfl, ap _ _ rfl, rfl, ap _ _ rfl, by omega, by omega⟩
         · first | exact q1 _ _ (by assumption) | exact q0 _ _ (by assumption)
         · first | exact q1 _ _ (by assumption) | exact q0 _ _ (by assumption))
  · obtain rfl : g = s.lim.len := by omega
    have nx0 : ∀ f f' : Nat → Int, (∀ k, k < s.lim.len → -1073741824 ≤ f k ∧ f k ≤ 1073741824) → (∀ k, k < s.lim.len → -1073741824 ≤ f' k ∧ f' k ≤ 1073741824) → nxE s mo (vxOf (s.lim.len, fun k => (f k, ()))) (vxOf (s.lim.len, fun k => (f' k, ()))) = 0 ∧
        nxN s mo (vxOf (s.lim.len, fun k => (f k, ()))) (vxOf (s.lim.len, fun k => (f' k, ()))) = s.lim.len := fun f f' hf hf' => by
      have he : nxE s mo (vxOf (s.lim.len, fun k => (f k, ()))) (vxOf (s.lim.len, fun k => (f' k, ()))) = 0 := nxE_iff.2 ⟨hc, m0, m1, by simp, by simp, fun k hk => by
          simp at hk ⊢; have := hf k hk; unfold farB; simp; omega, fun k hk => by
          simp at hk ⊢; have := hf' k hk; unfold farB; simp; omega⟩
      exact ⟨he, by unfold nxN; rw [if_pos he]; simp⟩
    have z1 : ∀ k, k < s.lim.len → b.lo k ≤ ptF b a k ∧ ptF b a k ≤ b.hi k := fun k hk => hpt b a k (hbk k (by omega)).1 (ub a hu.1)
    have z2 : ∀ k, k < s.lim.len → (s.ld sl.toNat).lo k ≤ ptF (s.ld sl.toNat) l k ∧ ptF (s.ld sl.toNat) l k ≤ (s.ld sl.toNat).hi k := fun k hk => hpt _ l k (hlk k (by omega)).1 (ub l hu.2)
    obtain ⟨E1, N1⟩ := nx0 (ptF b a) (ptF (s.ld sl.toNat) l) (fun k hk => by have := z1 k hk; have := hbk k (by omega); omega) (fun k hk => by have := z2 k hk; have := hlk k (by omega); omega)
    obtain ⟨E2, N2⟩ := nx0 b.lo (s.ld sl.toNat).lo (fun k hk => by have := hbk k (by omega); omega) (fun k hk => by have := hlk k (by omega); omega)
    obtain ⟨E3, N3⟩ := nx0 b.hi (s.ld sl.toNat).hi (fun k hk => by have := hbk k (by omega); omega) (fun k hk => by have := hlk k (by omega); omega)
    have NB : nbN s sl mo b = s.lim.len := by unfold nbN; rw [if_pos e1, hbl]
    have hmd : modeB (s.md mo.toNat) ((s.lim.len : Nat) : Int) = true := ck.2.2.2.2.2.2.2.2.2.2 mo.toNat (by omega)
    have hlo : ∀ k, k < s.lim.len → nxV (s.md mo.toNat) b.lo (s.ld sl.toNat).lo k ≤ nxV (s.md mo.toNat) (ptF b a) (ptF (s.ld sl.toNat) l) k := fun k hk => nxV_mono hmd ck.2.1 (fun k hk => (z1 k hk).1) (fun k hk => (z2 k hk).1) hk
    have hhi : ∀ k, k < s.lim.len → nxV (s.md mo.toNat) (ptF b a) (ptF (s.ld sl.toNat) l) k ≤ nxV (s.md mo.toNat) b.hi (s.ld sl.toNat).hi k := fun k hk => nxV_mono hmd ck.2.1 (fun k hk => (z1 k hk).2) (fun k hk => (z2 k hk).2) hk
    have hml : s.lim.len ≤ maxLen := by unfold maxLen; omega
    simp [E1, N1, E2, N2, E3, N3, NB, hsm, hml, adV_lo, adV_hi]
    refine ⟨⟨0, rfl, by omega⟩, fun g' _ hg' => ?_⟩
    have y1 := hlo g' hg'
    have y2 := hhi g' hg'
    simp [hg', y1, y2]
    exact ⟨by omega, by omega, g' + 1, by omega, by omega, by omega⟩
end Abs
open Go.ChangeShapes Go.WideShapes Go.ChangeAt Go.RowKit
set_option maxRecDepth 100000 in
theorem thermalEncloses_lifted (os : Os) (started : os.Started) (H : Type) (enc : TypeId × Value → H) :
    ReturnsInHanded {} Try.checked os 3 .any (Rows.thermalEnclosesSpec.pre6 enc Try.prog Try.f3 Rows.thermalEnclosesRow.domain false) (Rows.thermalEnclosesSpec.post enc Try.prog Try.f3 false true false false) := by
  refine returnsInHanded_of_change (C := Try.checked) (show ownKnob Try.prog.godebug = none by kernel_rfl) started (by kernel_rfl) Try.func3
    (ChangeSpec.witness6 (enc := enc) (C := Try.checked) false ⟨#[], #[.agg #[.slice none 0 0, .slice none 0 0, .slice none 0 0, .slice none 0 0], .int .i64 0, .int .i64 0, .slice none 0 0, .slice none 0 0, .slice none 0 0], []⟩ 8 (by kernel_rfl) (by kernel_rfl) (by kernel_rfl) (by kernel_rfl)) ?_
  intro W base args ds gs before hval0 hW hcnd _
  have hW0 := hW
  obtain ⟨p, q, hA, hV, rfl, hfz, hnd⟩ := hW0
  refine (Abs.law_calls (enc' := enc) Abs.thermalEncloses_law (fn := Try.f3) (d := 6) (by kernel_rfl) hA hval0).mono fun e W' hh => ?_
  obtain ⟨he, hb⟩ := hh
  subst he
  exact ⟨_, rfl, Abs.law_post (s := Rows.thermalEnclosesSpec) (f := Try.f3) (by kernel_rfl) rfl (by kernel_rfl) (by kernel_rfl) rfl 6 (by kernel_rfl) (fun ds hl => by
    rcases ds with _ | ⟨d0, _ | ⟨d1, _ | ⟨d2, _ | ⟨d3, _ | ⟨d4, _ | ⟨d5, _ | ⟨d6, _⟩⟩⟩⟩⟩⟩⟩
    all_goals first | exact ⟨rfl, rfl, rfl⟩ | (exfalso; simp only [List.length_cons, List.length_nil] at hl; omega)) hW hb⟩
theorem thermalEncloses_holds : Rows.ThermalEnclosesSaid :=
  OpenClaim.holds_of_wide 3 Try.f3 rfl rfl rfl rfl rfl rfl rfl ⟨rfl, rfl, rfl, rfl, rfl⟩ rfl rfl rfl rfl rfl (by kernel_rfl) Try.func3 (by kernel_rfl)
    (of_decide_eq_true (by kernel_rfl)) (by unfold Func.isWrapper; first | (rw [if_pos (by decide +kernel)]; kernel_rfl) | (rw [if_neg (by decide +kernel)]; exact ⟨rfl, rfl⟩))
    (fun os started H enc _ => thermalEncloses_lifted os started H enc)
end Go.Proofs.Ytjblicdceafcpaa
