/- A part of the proof: no statement of its own. -/
import Derived.Test.YtlabbaglbcmofaaQG351849ee
set_option linter.unusedSimpArgs false
set_option linter.unusedVariables false
/- The next box is one, whatever lies in it. -/
namespace Go.Proofs.Ytlabbaglbcmofaa
namespace Abs
open Go Go.RowKit
theorem nb_box {c : Cel} {lo hi bl bh : Nat → Int} {a b u v : Int} (h : ChkOK c 7 lo hi 5 bl bh) (hI : insV (-1048576) a b 1048576 = true) (hU : insV 0 u v 400000 = true) (hf : farB (widV c lo hi 5 bl bh) a b = true) :
    BoxOK (nbL (widV c lo hi 5 bl bh) a b u v) (nbH (widV c lo hi 5 bl bh) a b u v) := by
  obtain ⟨i0, i1, i2⟩ := insV_iff.1 hI
  obtain ⟨j0, j1, j2⟩ := insV_iff.1 hU
  let s : Sta := ⟨bl 0, bl 1, bl 2, bl 3, bl 4⟩
  have sv : ∀ k, k < 5 → stV s k = bl k := fun k hk => by
    have : k = 0 ∨ k = 1 ∨ k = 2 ∨ k = 3 ∨ k = 4 := by omega
    obtain ⟨e0, e1, e2, e3, e4⟩ := stV_n s
    rcases this with rfl | rfl | rfl | rfl | rfl
    · rw [e0]; exact Sta.q_mk _ _ _ _ _
    · rw [e1]; exact Sta.rx_mk _ _ _ _ _
    · rw [e2]; exact Sta.tp_mk _ _ _ _ _
    · rw [e3]; exact Sta.th_mk _ _ _ _ _
    · rw [e4]; exact Sta.ag_mk _ _ _ _ _
  have bx := h.bx
  have p : Part lo hi lo lo bl bh (stV s) (stV s) := by
    refine ⟨fun k hk => ⟨Int.le_refl _, Int.le_refl _, ?_⟩, fun k hk => ?_⟩
    · have := spanOK_iff.1 (h.le k hk); omega
    · rw [sv k hk]
      refine ⟨Int.le_refl _, Int.le_refl _, ?_⟩
      have : k = 0 ∨ k = 1 ∨ k = 2 ∨ k = 3 ∨ k = 4 := by omega
      rcases this with rfl | rfl | rfl | rfl | rfl
      · exact bx.q1
      · exact bx.x1
      · exact bx.t1
      · exact bx.h1
      · exact bx.a1
  refine next_box (w := nbL (widV c lo lo 5 (stV s) (stV s)) a a u u) (wid_of h) hI hf fun k hk => ?_
  have w := nb_sub (part_sub p h) (wid_of (part_chk p h)) (wid_of h) (Int.le_refl a) (Int.le_refl a) i1 hI (Int.le_refl u) j1 k hk
  have e : nbL (widV c lo lo 5 (stV s) (stV s)) a a u u k = nbH (widV c lo lo 5 (stV s) (stV s)) a a u u k := by
    rw [pt_wid, (pt_next _ _ _ _ k hk).1, (pt_next _ _ _ _ k hk).2]
  exact ⟨w.1, e ▸ w.2⟩
end Abs
end Go.Proofs.Ytlabbaglbcmofaa

/- Watchers, by the program: the box of now. -/
namespace Go.Proofs.Ytlabbaglbcmofaa
namespace Abs
open Go Go.RowKit
noncomputable section
attribute [local irreducible] FnSat decL
def nwP (w : Wt) (l h : Nat → Int) : Nat → (Nat → Int) × (Nat → Int)
  | 0 => (l, h)
  | g + 1 => (nbL (widV w.cel w.tl w.th 5 (nwP w l h g).1 (nwP w l h g).2) w.cl w.ch w.al w.ah, nbH (widV w.cel w.tl w.th 5 (nwP w l h g).1 (nwP w l h g).2) w.cl w.ch w.al w.ah)
@[irreducible] def nwL (w : Wt) (l h : Nat → Int) (g : Nat) : Nat → Int := (nwP w l h g).1
@[irreducible] def nwH (w : Wt) (l h : Nat → Int) (g : Nat) : Nat → Int := (nwP w l h g).2
theorem nwL_0 (w : Wt) (l h : Nat → Int) : nwL w l h 0 = l := by unfold nwL; rfl
theorem nwH_0 (w : Wt) (l h : Nat → Int) : nwH w l h 0 = h := by unfold nwH; rfl
theorem nwL_s (w : Wt) (l h : Nat → Int) (g : Nat) : nwL w l h (g + 1) = nbL (widV w.cel w.tl w.th 5 (nwL w l h g) (nwH w l h g)) w.cl w.ch w.al w.ah := by unfold nwL nwH; rfl
theorem nwH_s (w : Wt) (l h : Nat → Int) (g : Nat) : nwH w l h (g + 1) = nbH (widV w.cel w.tl w.th 5 (nwL w l h g) (nwH w l h g)) w.cl w.ch w.al w.ah := by unfold nwL nwH; rfl
-- no round before the g-th is too far
def nwA (w : Wt) (l h : Nat → Int) : Nat → Bool
  | 0 => true
  | g + 1 => nwA w l h g && farB (widV w.cel w.tl w.th 5 (nwL w l h g) (nwH w l h g)) w.cl w.ch
@[irreducible] def nwB (w : Wt) (l h : Nat → Int) (g : Nat) : Bool := nwA w l h g
theorem nwB_0 (w : Wt) (l h : Nat → Int) : nwB w l h 0 = true := by unfold nwB; rfl
theorem nwB_s (w : Wt) (l h : Nat → Int) (g : Nat) : nwB w l h (g + 1) = (nwB w l h g && farB (widV w.cel w.tl w.th 5 (nwL w l h g) (nwH w l h g)) w.cl w.ch) := by unfold nwB; rfl
theorem nwB_no {w : Wt} {l h : Nat → Int} {g : Nat} (hg : nwB w l h (g + 1) = false) : ∀ d, nwB w l h (g + 1 + d) = false
  | 0 => hg
  | d + 1 => by rw [← Nat.add_assoc, nwB_s, nwB_no hg d]; rfl
/-- every round's box is one -/
theorem nw_chk {e : Ew} (hk : EwOK e) : ∀ g, nwB e.w e.l e.h g = true → ChkOK e.w.cel e.w.tn e.w.tl e.w.th 5 (nwL e.w e.l e.h g) (nwH e.w e.l e.h g)
  | 0, _ => by rw [nwL_0, nwH_0]; have := hk.chk; rwa [ew_five hk] at this
  | g + 1, h => by
    rw [nwB_s, Bool.and_eq_true] at h
    have hc := nw_chk hk g h.1
    obtain ⟨_, _, _, g3, g4, _⟩ := wcB_iff.1 hk.wat
    have hn := hc.n
    have hc' := hc
    rw [hn] at hc'
    rw [nwL_s, nwH_s]
    exact ⟨hc.cel, hc.n, rfl, hc.cl, hc.ch, hc.le, nb_box hc' g3 g4 h.2⟩
@[irreducible] def nowE (e : Ew) : Int := if nwB e.w e.l e.h (nat e.w.dly) = true then 0 else 4
@[irreducible] def nowN (e : Ew) : Nat := if nwB e.w e.l e.h (nat e.w.dly) = true then e.n else 0
@[irreducible] def nowL (e : Ew) : Nat → Int := nwL e.w e.l e.h (nat e.w.dly)
@[irreducible] def nowH (e : Ew) : Nat → Int := nwH e.w e.l e.h (nat e.w.dly)
theorem now_yes {e : Ew} (h : nwB e.w e.l e.h e.w.dly.toNat = true) : nowE e = 0 ∧ nowN e = e.n := by unfold nowE nowN nat; rw [h]; exact ⟨rfl, rfl⟩
theorem now_no {e : Ew} (h : nwB e.w e.l e.h e.w.dly.toNat = false) : nowE e = 4 ∧ nowN e = 0 := by unfold nowE nowN nat; rw [h]; exact ⟨rfl, rfl⟩
theorem now_step {e : Ew} (hk : EwOK e) {g : Nat} (hb : nwB e.w e.l e.h g = true) (hlt : (g : Int) < e.w.dly) {il ih : Nat → Int} (i0 : il 0 = e.w.cl) (i1 : ih 0 = e.w.ch) (i2 : il 1 = e.w.al) (i3 : ih 1 = e.w.ah) :
    (¬ sbE e.w.cel e.w.tn e.w.tl e.w.th e.n (nwL e.w e.l e.h g) (nwH e.w e.l e.h g) 2 il ih = 0 → nowN e = 0 ∧ sbE e.w.cel e.w.tn e.w.tl e.w.th e.n (nwL e.w e.l e.h g) (nwH e.w e.l e.h g) 2 il ih = nowE e) ∧ (sbE e.w.cel e.w.tn e.w.tl e.w.th e.n (nwL e.w e.l e.h g) (nwH e.w e.l e.h g) 2 il ih = 0 → -9223372036854775808 ≤ (g : Int) + 1 ∧ (g : Int) + 1 ≤ 9223372036854775807 ∧
      ∃ g1, g1 ≤ e.w.dly.toNat ∧ nwB e.w e.l e.h g1 = true ∧ e.w.dly.toNat - g1 < e.w.dly.toNat - g ∧ sbN (sbE e.w.cel e.w.tn e.w.tl e.w.th e.n (nwL e.w e.l e.h g) (nwH e.w e.l e.h g) 2 il ih) = e.n ∧
        (∀ j : Nat, j < e.n → nbL (widV e.w.cel e.w.tl e.w.th e.n (nwL e.w e.l e.h g) (nwH e.w e.l e.h g)) e.w.cl e.w.ch e.w.al e.w.ah j = nwL e.w e.l e.h g1 j ∧ nbH (widV e.w.cel e.w.tl e.w.th e.n (nwL e.w e.l e.h g) (nwH e.w e.l e.h g)) e.w.cl e.w.ch e.w.al e.w.ah j = nwH e.w e.l e.h g1 j) ∧ (g : Int) + 1 = (g1 : Int)) := by
  have h5 := ew_five hk
  have hc := nw_chk hk g hb
  obtain ⟨_, d0, d1, g3, g4, _⟩ := wcB_iff.1 hk.wat
  have hS := sbE_far (il := il) (ih := ih) hc (by rw [i0, i1]; exact g3) (by rw [i2, i3]; exact g4)
  rw [i0, i1, ← h5] at hS
  rw [hS]
  cases hf : farB (widV e.w.cel e.w.tl e.w.th e.n (nwL e.w e.l e.h g) (nwH e.w e.l e.h g)) e.w.cl e.w.ch with
  | true =>
    refine ⟨fun h => absurd rfl h, fun _ => ⟨by omega, by omega, g + 1, by omega, ?_, by omega, ?_, fun j _ => ?_, by omega⟩⟩
    · rw [nwB_s, hb, ← h5, hf]; rfl
    · rw [if_pos rfl, sbN_5 rfl, h5]
    · rw [nwL_s, nwH_s, ← h5]; exact ⟨rfl, rfl⟩
  | false =>
    refine ⟨fun _ => ?_, fun h => by simp at h⟩
    have h1 : nwB e.w e.l e.h (g + 1) = false := by rw [nwB_s, hb, ← h5, hf]; rfl
    have h2 := nwB_no h1 (e.w.dly.toNat - (g + 1))
    rw [show g + 1 + (e.w.dly.toNat - (g + 1)) = e.w.dly.toNat by omega] at h2
    obtain ⟨n1, n2⟩ := now_no h2
    rw [n1, n2]
    exact ⟨rfl, rfl⟩
def nowS : Spec [.ptr ewCells] := ⟨fun ((m, x), _) => m = true ∧ EwOK (ewOf x), fun ((_, x), _) => .tup [.slc (.sym (nowN (ewOf x))) 2 (fun k => [.si .i64 (nowL (ewOf x) k), .si .i64 (nowH (ewOf x) k)]), .si .i64 (nowE (ewOf x))]⟩
noncomputable def Svq : Sums := ⟨(28, mkSum _ sbS) :: Svd.one, Svd.two, Svd.lo, Svd.eqs, Svd.its, Svd.imm⟩
theorem Svq_ok : SumsOK Try.prog Svq := (Svd_ok.cons Try.func28 (by kernel_rfl) (by kernel_rfl) sb_ok)
def nowI : DatL [.ptr ewCells] → Anns := fun ((_, x), _) =>
  [(5, [], fun fr hp => ⟨Nat, fun g => ⟨frI [.k 4, .s (.slc (.sym (ewOf x).n) 2 (fun k => [.si .i64 (nwL (ewOf x).w (ewOf x).l (ewOf x).h g k), .si .i64 (nwH (ewOf x).w (ewOf x).l (ewOf x).h g k)])), .t 2, .k 13, .s (.si .i64 (icast g)), .t 33] fr, hp⟩,
    Nat × Nat × Bool, fun g => (g, nat (ewOf x).w.dly, nwB (ewOf x).w (ewOf x).l (ewOf x).h g), fun (g, d, b) => g ≤ d ∧ b = true, fun g => nsub (nat (ewOf x).w.dly) g⟩)]
end
end Abs
end Go.Proofs.Ytlabbaglbcmofaa

/- Cells with tolerances, by the document: the spans of a box, as a value; their parts. -/
namespace Go.Proofs.Ytlabbaglbcmofaa
namespace Abs
open Go Go.RowKit
noncomputable section
attribute [local irreducible] FnSat
structure Rsp where
  a0 : Cel
  a1 : Cel
  a2 : Int
  a3 : Int
  a4 : Int
  a5 : Int
  a6 : Int
  a7 : Int
  a8 : Int
  a9 : Int
  a10 : Int
  a11 : Int
@[irreducible] def Rsp.lo (x : Rsp) : Cel := x.a0
@[irreducible] def Rsp.hi (x : Rsp) : Cel := x.a1
@[irreducible] def Rsp.wl (x : Rsp) : Int := x.a2
@[irreducible] def Rsp.wh (x : Rsp) : Int := x.a3
@[irreducible] def Rsp.cl (x : Rsp) : Int := x.a4
@[irreducible] def Rsp.ch (x : Rsp) : Int := x.a5
@[irreducible] def Rsp.fl (x : Rsp) : Int := x.a6
@[irreducible] def Rsp.fh (x : Rsp) : Int := x.a7
@[irreducible] def Rsp.ol (x : Rsp) : Int := x.a8
@[irreducible] def Rsp.oh (x : Rsp) : Int := x.a9
@[irreducible] def Rsp.rl (x : Rsp) : Int := x.a10
@[irreducible] def Rsp.rh (x : Rsp) : Int := x.a11
@[reducible] def rspCells : List Sh := [.int .i64, intsSh, intsSh, .int .i64, intsSh, intsSh, .int .i64, .int .i64, .int .i64, .int .i64, .int .i64, .int .i64, intsSh, intsSh, .int .i64, .int .i64, .int .i64, .int .i64, intsSh, intsSh, .int .i64, intsSh, intsSh, .int .i64, .int .i64, .int .i64, .int .i64, .int .i64, .int .i64, intsSh, intsSh, .int .i64, .int .i64, .int .i64, .int .i64, .int .i64, .int .i64, .int .i64, .int .i64, .int .i64, .int .i64, .int .i64, .int .i64, .int .i64]
@[reducible] def rspSh : Sh := .agg rspCells
abbrev RspD := Int × IntsD × IntsD × Int × IntsD × IntsD × Int × Int × Int × Int × Int × Int × IntsD × IntsD × Int × Int × Int × Int × IntsD × IntsD × Int × IntsD × IntsD × Int × Int × Int × Int × Int × Int × IntsD × IntsD × Int × Int × Int × Int × Int × Int × Int × Int × Int × Int × Int × Int × Int × Unit
@[irreducible] def rspOf (x : RspD) : Rsp :=
  let (a0, a1, a2, a3, a4, a5, a6, a7, a8, a9, a10, a11, a12, a13, a14, a15, a16, b0, b1, b2, b3, b4, b5, b6, b7, b8, b9, b10, b11, b12, b13, b14, b15, b16, w0, w1, w2, w3, w4, w5, w6, w7, w8, w9, _) := x
  ⟨celOf (a0, a1, a2, a3, a4, a5, a6, a7, a8, a9, a10, a11, a12, a13, a14, a15, a16, ()), celOf (b0, b1, b2, b3, b4, b5, b6, b7, b8, b9, b10, b11, b12, b13, b14, b15, b16, ()), w0, w1, w2, w3, w4, w5, w6, w7, w8, w9⟩
@[reducible] def rspD (x : Rsp) : RspD := (x.lo.cap, (x.lo.ocv.nx, fun k => (x.lo.ocv.x k, ())), (x.lo.ocv.ny, fun k => (x.lo.ocv.y k, ())), x.lo.shift, (x.lo.cold.nx, fun k => (x.lo.cold.x k, ())), (x.lo.cold.ny, fun k => (x.lo.cold.y k, ())), x.lo.extra, x.lo.pair, x.lo.keep, x.lo.leak, x.lo.hcap, x.lo.cool, (x.lo.stress.nx, fun k => (x.lo.stress.x k, ())), (x.lo.stress.ny, fun k => (x.lo.stress.y k, ())), x.lo.cyc, x.lo.agel, x.lo.grow, x.hi.cap, (x.hi.ocv.nx, fun k => (x.hi.ocv.x k, ())), (x.hi.ocv.ny, fun k => (x.hi.ocv.y k, ())), x.hi.shift, (x.hi.cold.nx, fun k => (x.hi.cold.x k, ())), (x.hi.cold.ny, fun k => (x.hi.cold.y k, ())), x.hi.extra, x.hi.pair, x.hi.keep, x.hi.leak, x.hi.hcap, x.hi.cool, (x.hi.stress.nx, fun k => (x.hi.stress.x k, ())), (x.hi.stress.ny, fun k => (x.hi.stress.y k, ())), x.hi.cyc, x.hi.agel, x.hi.grow, x.wl, x.wh, x.cl, x.ch, x.fl, x.fh, x.ol, x.oh, x.rl, x.rh, ())
@[simp] theorem rspOf_mk (x : Rsp) : rspOf (x.lo.cap, (x.lo.ocv.nx, fun k => (x.lo.ocv.x k, ())), (x.lo.ocv.ny, fun k => (x.lo.ocv.y k, ())), x.lo.shift, (x.lo.cold.nx, fun k => (x.lo.cold.x k, ())), (x.lo.cold.ny, fun k => (x.lo.cold.y k, ())), x.lo.extra, x.lo.pair, x.lo.keep, x.lo.leak, x.lo.hcap, x.lo.cool, (x.lo.stress.nx, fun k => (x.lo.stress.x k, ())), (x.lo.stress.ny, fun k => (x.lo.stress.y k, ())), x.lo.cyc, x.lo.agel, x.lo.grow, x.hi.cap, (x.hi.ocv.nx, fun k => (x.hi.ocv.x k, ())), (x.hi.ocv.ny, fun k => (x.hi.ocv.y k, ())), x.hi.shift, (x.hi.cold.nx, fun k => (x.hi.cold.x k, ())), (x.hi.cold.ny, fun k => (x.hi.cold.y k, ())), x.hi.extra, x.hi.pair, x.hi.keep, x.hi.leak, x.hi.hcap, x.hi.cool, (x.hi.stress.nx, fun k => (x.hi.stress.x k, ())), (x.hi.stress.ny, fun k => (x.hi.stress.y k, ())), x.hi.cyc, x.hi.agel, x.hi.grow, x.wl, x.wh, x.cl, x.ch, x.fl, x.fh, x.ol, x.oh, x.rl, x.rh, ()) = x := by
  unfold rspOf
  simp only [celOf_mk]
  unfold Rsp.lo Rsp.hi Rsp.wl Rsp.wh Rsp.cl Rsp.ch Rsp.fl Rsp.fh Rsp.ol Rsp.oh Rsp.rl Rsp.rh
  rfl
@[simp] theorem rspOf_D (x : Rsp) : rspOf (rspD x) = x := rspOf_mk x
theorem rsp_ex (x : Dat rspSh) : ∃ w : Rsp, x = rspD w := by
  obtain ⟨a0, a1, a2, a3, a4, a5, a6, a7, a8, a9, a10, a11, a12, a13, a14, a15, a16, b0, b1, b2, b3, b4, b5, b6, b7, b8, b9, b10, b11, b12, b13, b14, b15, b16, w0, w1, w2, w3, w4, w5, w6, w7, w8, w9, ⟨⟩⟩ := x
  obtain ⟨c, hc⟩ := cel_ex (a0, a1, a2, a3, a4, a5, a6, a7, a8, a9, a10, a11, a12, a13, a14, a15, a16, ())
  obtain ⟨d, hd⟩ := cel_ex (b0, b1, b2, b3, b4, b5, b6, b7, b8, b9, b10, b11, b12, b13, b14, b15, b16, ())
  refine ⟨⟨c, d, w0, w1, w2, w3, w4, w5, w6, w7, w8, w9⟩, ?_⟩
  simp only [celD, Prod.mk.injEq] at hc hd
  obtain ⟨rfl, rfl, rfl, rfl, rfl, rfl, rfl, rfl, rfl, rfl, rfl, rfl, rfl, rfl, rfl, rfl, rfl, -⟩ := hc
  obtain ⟨rfl, rfl, rfl, rfl, rfl, rfl, rfl, rfl, rfl, rfl, rfl, rfl, rfl, rfl, rfl, rfl, rfl, -⟩ := hd
  unfold rspD Rsp.lo Rsp.hi Rsp.wl Rsp.wh Rsp.cl Rsp.ch Rsp.fl Rsp.fh Rsp.ol Rsp.oh Rsp.rl Rsp.rh
  rfl
theorem enc_rsp (x : Rsp) : enc rspSh (rspD x) = .agg [.si .i64 x.lo.cap, .slc (.sym x.lo.ocv.nx) 1 (fun k => [.si .i64 (x.lo.ocv.x k)]), .slc (.sym x.lo.ocv.ny) 1 (fun k => [.si .i64 (x.lo.ocv.y k)]), .si .i64 x.lo.shift, .slc (.sym x.lo.cold.nx) 1 (fun k => [.si .i64 (x.lo.cold.x k)]), .slc (.sym x.lo.cold.ny) 1 (fun k => [.si .i64 (x.lo.cold.y k)]), .si .i64 x.lo.extra, .si .i64 x.lo.pair, .si .i64 x.lo.keep, .si .i64 x.lo.leak, .si .i64 x.lo.hcap, .si .i64 x.lo.cool, .slc (.sym x.lo.stress.nx) 1 (fun k => [.si .i64 (x.lo.stress.x k)]), .slc (.sym x.lo.stress.ny) 1 (fun k => [.si .i64 (x.lo.stress.y k)]), .si .i64 x.lo.cyc, .si .i64 x.lo.agel, .si .i64 x.lo.grow, .si .i64 x.hi.cap, .slc (.sym x.hi.ocv.nx) 1 (fun k => [.si .i64 (x.hi.ocv.x k)]), .slc (.sym x.hi.ocv.ny) 1 (fun k => [.si .i64 (x.hi.ocv.y k)]), .si .i64 x.hi.shift, .slc (.sym x.hi.cold.nx) 1 (fun k => [.si .i64 (x.hi.cold.x k)]), .slc (.sym x.hi.cold.ny) 1 (fun k => [.si .i64 (x.hi.cold.y k)]), .si .i64 x.hi.extra, .si .i64 x.hi.pair, .si .i64 x.hi.keep, .si .i64 x.hi.leak, .si .i64 x.hi.hcap, .si .i64 x.hi.cool, .slc (.sym x.hi.stress.nx) 1 (fun k => [.si .i64 (x.hi.stress.x k)]), .slc (.sym x.hi.stress.ny) 1 (fun k => [.si .i64 (x.hi.stress.y k)]), .si .i64 x.hi.cyc, .si .i64 x.hi.agel, .si .i64 x.hi.grow, .si .i64 x.wl, .si .i64 x.wh, .si .i64 x.cl, .si .i64 x.ch, .si .i64 x.fl, .si .i64 x.fh, .si .i64 x.ol, .si .i64 x.oh, .si .i64 x.rl, .si .i64 x.rh] := rfl
theorem wear_mv (c : Cel) (d : Nat → Int) (t a : Int) : wearV (mvC c d) t a = wearV c t a := by unfold wearV; rw [mvC_cyc, mvC_agel]
@[irreducible] def rspV (c : Cel) (lo hi bl bh : Nat → Int) : Rsp := ⟨mvC c lo, mvC c hi, wdWL c bl, wdWL c bh, roomV (mvC c lo) (wdWL c bh), roomV (mvC c hi) (wdWL c bl), wdFL c hi bl bh, wdFH c lo bl bh, openV (mvC c lo) (wdFL c hi bl bh), openV (mvC c hi) (wdFH c lo bl bh), wdRL c lo bl bh, wdRH c hi bl bh⟩
theorem rspV_lo (c : Cel) (lo hi bl bh : Nat → Int) : (rspV c lo hi bl bh).lo = mvC c lo := by unfold rspV Rsp.lo; rfl
theorem rspV_hi (c : Cel) (lo hi bl bh : Nat → Int) : (rspV c lo hi bl bh).hi = mvC c hi := by unfold rspV Rsp.hi; rfl
theorem rspV_wl (c : Cel) (lo hi bl bh : Nat → Int) : (rspV c lo hi bl bh).wl = wdWL c bl := by unfold rspV Rsp.wl; rfl
theorem rspV_wh (c : Cel) (lo hi bl bh : Nat → Int) : (rspV c lo hi bl bh).wh = wdWL c bh := by unfold rspV Rsp.wh; rfl
theorem rspV_cl (c : Cel) (lo hi bl bh : Nat → Int) : (rspV c lo hi bl bh).cl = roomV (mvC c lo) (wdWL c bh) := by unfold rspV Rsp.cl; rfl
theorem rspV_ch (c : Cel) (lo hi bl bh : Nat → Int) : (rspV c lo hi bl bh).ch = roomV (mvC c hi) (wdWL c bl) := by unfold rspV Rsp.ch; rfl
theorem rspV_fl (c : Cel) (lo hi bl bh : Nat → Int) : (rspV c lo hi bl bh).fl = wdFL c hi bl bh := by unfold rspV Rsp.fl; rfl
theorem rspV_fh (c : Cel) (lo hi bl bh : Nat → Int) : (rspV c lo hi bl bh).fh = wdFH c lo bl bh := by unfold rspV Rsp.fh; rfl
theorem rspV_ol (c : Cel) (lo hi bl bh : Nat → Int) : (rspV c lo hi bl bh).ol = openV (mvC c lo) (wdFL c hi bl bh) := by unfold rspV Rsp.ol; rfl
theorem rspV_oh (c : Cel) (lo hi bl bh : Nat → Int) : (rspV c lo hi bl bh).oh = openV (mvC c hi) (wdFH c lo bl bh) := by unfold rspV Rsp.oh; rfl
theorem rspV_rl (c : Cel) (lo hi bl bh : Nat → Int) : (rspV c lo hi bl bh).rl = wdRL c lo bl bh := by unfold rspV Rsp.rl; rfl
theorem rspV_rh (c : Cel) (lo hi bl bh : Nat → Int) : (rspV c lo hi bl bh).rh = wdRH c hi bl bh := by unfold rspV Rsp.rh; rfl
/-- the same as a cell over a box -/
@[irreducible] def mkW (x : Rsp) (n : Nat) (bl bh : Nat → Int) : Wid := ⟨x.lo, x.hi, n, bl, bh, x.wl, x.wh, x.fl, x.fh, x.rl, x.rh⟩
theorem mkW_V (c : Cel) (lo hi : Nat → Int) (n : Nat) (bl bh : Nat → Int) : mkW (rspV c lo hi bl bh) n bl bh = widV c lo hi n bl bh := by
  unfold mkW
  rw [rspV_lo, rspV_hi, rspV_wl, rspV_wh, rspV_fl, rspV_fh, rspV_rl, rspV_rh]
  unfold widV; rfl
theorem mkW_n (x : Rsp) (n : Nat) (bl bh : Nat → Int) : (mkW x n bl bh).lo = x.lo ∧ (mkW x n bl bh).hi = x.hi ∧ (mkW x n bl bh).n = n ∧ (mkW x n bl bh).bl = bl ∧ (mkW x n bl bh).bh = bh ∧ (mkW x n bl bh).fl = x.fl ∧ (mkW x n bl bh).fh = x.fh ∧ (mkW x n bl bh).rl = x.rl ∧ (mkW x n bl bh).rh = x.rh := by
  unfold mkW Wid.lo Wid.hi Wid.n Wid.bl Wid.bh Wid.fl Wid.fh Wid.rl Wid.rh
  exact ⟨rfl, rfl, rfl, rfl, rfl, rfl, rfl, rfl, rfl⟩
structure RspOK (x : Rsp) (n : Nat) (bl bh : Nat → Int) : Prop where
  w : WidOK (mkW x n bl bh)
  ol : x.ol = openV x.lo x.fl
  oh : x.oh = openV x.hi x.fh
theorem rsp_of {c : Cel} {n : Nat} {lo hi : Nat → Int} {m : Nat} {bl bh : Nat → Int} (h : ChkOK c n lo hi m bl bh) : RspOK (rspV c lo hi bl bh) m bl bh := by
  refine ⟨by rw [mkW_V]; exact wid_of h, ?_, ?_⟩
  · rw [rspV_ol, rspV_lo, rspV_fl]
  · rw [rspV_oh, rspV_hi, rspV_fh]
def proA : Spec [spanSh, spanSh] := ⟨proS'.pre, fun (((a : Int), (b : Int), _), ((c : Int), (d : Int), _), _) => .agg [.si .i64 (prL a b c d), .si .i64 (prH a b c d)]⟩
def sqrA : Spec [spanSh] := ⟨sqrS.pre, fun (((a : Int), (b : Int), _), _) => .agg [.si .i64 (sqL a b), .si .i64 (sqH a b)]⟩
def capsS : Spec [celSh, celSh, spanSh, spanSh] := ⟨fun (c, d, ((t : Int), (t' : Int), _), ((a : Int), (a' : Int), _), _) => celB (celOf c) = true ∧ celB (celOf d) = true ∧ 0 ≤ t ∧ t ≤ 2199023255552 ∧ 0 ≤ t' ∧ t' ≤ 2199023255552 ∧ 0 ≤ a ∧ a ≤ 2199023255552 ∧ 0 ≤ a' ∧ a' ≤ 2199023255552,
  fun (c, d, ((t : Int), (t' : Int), _), ((a : Int), (a' : Int), _), _) => .agg [.si .i64 (roomV (celOf c) (wearV (celOf c) t' a')), .si .i64 (roomV (celOf d) (wearV (celOf d) t a))]⟩
end
end Abs
end Go.Proofs.Ytlabbaglbcmofaa

/- Cells with tolerances, by the document: the spans of a box, the next box, what is safe. -/
namespace Go.Proofs.Ytlabbaglbcmofaa
namespace Abs
open Go Go.RowKit
noncomputable section
attribute [local irreducible] FnSat
def rrelT : Spec [.int .i64, .int .i64, .int .i64, .int .i64] := ⟨fun ((k : Int), (o : Int), (i : Int), (p : Int), _) => 0 ≤ k ∧ k ≤ 65536 ∧ -8388608 ≤ o ∧ o ≤ 8388608 ∧ -1099511627776 ≤ i ∧ i ≤ 1099511627776 ∧ p = 1,
  fun ((k : Int), (o : Int), (i : Int), (p : Int), _) => .si .i64 (relV k o i p)⟩
noncomputable def SWa : Sums := ⟨SUe.one, SUe.two, SUe.lo, SUe.eqs, SUe.its, SUe.imm⟩
theorem SWa_ok : SumsOK Try.prog SWa := SUe_ok
def spoS : Spec [celSh, spansSh, spansSh] := ⟨fun (c, (n, el), (m, em), _) => ChkOK (celOf c) n (fun k => (el k).1) (fun k => (el k).2.1) m (fun k => (em k).1) (fun k => (em k).2.1), fun (c, (_, el), (_, em), _) => enc rspSh (rspD (rspV (celOf c) (fun k => (el k).1) (fun k => (el k).2.1) (fun k => (em k).1) (fun k => (em k).2.1)))⟩
def rvlS : Spec [rspSh, spansSh, spanSh] := ⟨fun (x, (m, em), ((a : Int), (b : Int), _), _) => RspOK (rspOf x) m (fun k => (em k).1) (fun k => (em k).2.1) ∧ insV (-1048576) a b 1048576 = true,
  fun (x, (m, em), ((a : Int), (b : Int), _), _) => .agg [.si .i64 (wvL (mkW (rspOf x) m (fun k => (em k).1) (fun k => (em k).2.1)) a b), .si .i64 (wvH (mkW (rspOf x) m (fun k => (em k).1) (fun k => (em k).2.1)) a b)]⟩
def rwmS : Spec [rspSh, spansSh, spanSh] := ⟨rvlS.pre,
  fun (x, (m, em), ((a : Int), (b : Int), _), _) => .agg [.si .i64 (whL (mkW (rspOf x) m (fun k => (em k).1) (fun k => (em k).2.1)) a b), .si .i64 (whH (mkW (rspOf x) m (fun k => (em k).1) (fun k => (em k).2.1)) a b)]⟩
noncomputable def SWb : Sums := ⟨SWa.one, SWa.two, SWa.lo, SWa.eqs, SWa.its, SWa.imm⟩
theorem SWb_ok : SumsOK Try.prog SWb := SWa_ok
end
end Abs
end Go.Proofs.Ytlabbaglbcmofaa

/- Cells with tolerances, by the document: the next box, what is safe. -/
namespace Go.Proofs.Ytlabbaglbcmofaa
namespace Abs
open Go Go.RowKit
noncomputable section
attribute [local irreducible] FnSat
def rtpS : Spec [rspSh, spansSh, spanSh, spanSh] := ⟨fun (x, (m, em), ((a : Int), (b : Int), _), ((u : Int), (v : Int), _), _) => RspOK (rspOf x) m (fun k => (em k).1) (fun k => (em k).2.1) ∧ insV (-1048576) a b 1048576 = true ∧ insV 0 u v 400000 = true,
  fun (x, (m, em), ((a : Int), (b : Int), _), ((u : Int), (v : Int), _), _) => .agg [.si .i64 (wtL (mkW (rspOf x) m (fun k => (em k).1) (fun k => (em k).2.1)) a b u v), .si .i64 (wtH (mkW (rspOf x) m (fun k => (em k).1) (fun k => (em k).2.1)) a b u v)]⟩
def rrxS : Spec [rspSh, spansSh, spanSh] := ⟨rvlS.pre, fun (x, (m, em), ((a : Int), (b : Int), _), _) => .agg [.si .i64 (nbRL (mkW (rspOf x) m (fun k => (em k).1) (fun k => (em k).2.1)) a b), .si .i64 (nbRH (mkW (rspOf x) m (fun k => (em k).1) (fun k => (em k).2.1)) a b)]⟩
@[irreducible] def amL (a b : Int) : Int := max (max 0 a) (-b)
@[irreducible] def amH (a b : Int) : Int := max b (-a)
def ramS : Spec [spanSh] := ⟨fun (((a : Int), (b : Int), _), _) => -1048576 ≤ a ∧ a ≤ 1048576 ∧ -1048576 ≤ b ∧ b ≤ 1048576, fun (((a : Int), (b : Int), _), _) => .agg [.si .i64 (amL a b), .si .i64 (amH a b)]⟩
noncomputable def SWc : Sums := ⟨SWb.one, SWb.two, SWb.lo, SWb.eqs, SWb.its, SWb.imm⟩
theorem SWc_ok : SumsOK Try.prog SWc := SWb_ok
end
end Abs
end Go.Proofs.Ytlabbaglbcmofaa

/- Cells with tolerances, by the document: the next box. -/
namespace Go.Proofs.Ytlabbaglbcmofaa
namespace Abs
open Go Go.RowKit
noncomputable section
attribute [local irreducible] FnSat
def rnxS : Spec [celSh, spansSh, spansSh, spansSh] := ⟨fun (c, (n, el), (m, em), (p, en), _) => ChkOK (celOf c) n (fun k => (el k).1) (fun k => (el k).2.1) m (fun k => (em k).1) (fun k => (em k).2.1) ∧ inpB p (fun k => (en k).1) (fun k => (en k).2.1) = true,
  fun (c, (_, el), (m, em), (_, en), _) => .slc (.lit 5) 2 (fun k => [.si .i64 (nbL (widV (celOf c) (fun k => (el k).1) (fun k => (el k).2.1) m (fun k => (em k).1) (fun k => (em k).2.1)) (en 0).1 (en 0).2.1 (en 1).1 (en 1).2.1 k), .si .i64 (nbH (widV (celOf c) (fun k => (el k).1) (fun k => (el k).2.1) m (fun k => (em k).1) (fun k => (em k).2.1)) (en 0).1 (en 0).2.1 (en 1).1 (en 1).2.1 k)])⟩
noncomputable def SWd : Sums := ⟨SWc.one, SWc.two, SWc.lo, SWc.eqs, SWc.its, SWc.imm⟩
theorem SWd_ok : SumsOK Try.prog SWd := SWc_ok
end
end Abs
end Go.Proofs.Ytlabbaglbcmofaa

/- Cells, by the program: the greatest safe currents. -/
namespace Go.Proofs.Ytlabbaglbcmofaa
namespace Abs
open Go Go.RowKit
noncomputable section
attribute [local irreducible] FnSat
@[reducible] def outCap : List Sh := [.ptr limCells, .ptr staCells, .ptr [.int .i64]]
def outS1 : Spec [vwSh, .int .i64, .ptr limCells, .ptr staCells, .ptr [.int .i64]] := ⟨fun (v, (i : Int), _, s, ((a : Int), _), _) => VwOK v ∧ staOf s = vwS v ∧ 0 ≤ i ∧ i ≤ 1048576 ∧ 0 ≤ a ∧ a ≤ 400000,
  fun (v, (i : Int), ((l : Int), (_ : Int), (_ : Int), (_ : Int), (h : Int), _), _, ((a : Int), _), _) => .sb (outP (vwC v) (vwS v) l h a i)⟩
def inS1 : Spec [vwSh, .int .i64, .ptr [.int .i64], .ptr limCells, .ptr staCells] := ⟨fun (v, (i : Int), ((a : Int), _), _, s, _) => VwOK v ∧ staOf s = vwS v ∧ 0 ≤ i ∧ i ≤ 1048576 ∧ 0 ≤ a ∧ a ≤ 400000,
  fun (v, (i : Int), ((a : Int), _), ((_ : Int), (m : Int), (_ : Int), (_ : Int), (h : Int), _), _) => .sb (inP (vwC v) (vwS v) m h a i)⟩
@[reducible] def inCap : List Sh := [.ptr [.int .i64], .ptr limCells, .ptr staCells]
structure BsInv (p : Int → Bool) (most lo hi : Int) : Prop where
  a : 0 ≤ lo
  b : lo ≤ hi
  c : hi ≤ most
  d : p lo = true
  e : ∀ i, hi < i → i ≤ most → p i = false
@[irreducible] def grV (p : Int → Bool) (most : Int) : Int := if p 0 = true then grI p most else 0
@[irreducible] def grE (p : Int → Bool) : Int := if p 0 = true then 0 else 17
@[irreducible] def mgE (lb : Bool) (a : Int) (p : Int → Bool) : Int := if lb = true then (if isIn 0 a 400000 = true then grE p else 3) else 2
@[irreducible] def mgV (lb : Bool) (a : Int) (p : Int → Bool) (most : Int) : Int := if lb = true then (if isIn 0 a 400000 = true then grV p most else 0) else 0
theorem mid_in {lo hi : Int} (h : lo < hi) : lo < (lo + hi + 1).tdiv 2 ∨ lo + hi + 1 < 0 := by
  rcases Int.lt_or_le (lo + hi + 1) 0 with h1 | h1
  · exact .inr h1
  · rw [Int.tdiv_eq_ediv_of_nonneg h1]; omega
noncomputable def SMb : Sums := ⟨SMa.one, SMa.two, SMa.lo, SMa.eqs, SMa.its, SMa.imm⟩
theorem SMb_ok : SumsOK Try.prog SMb := SMa_ok
noncomputable def SMc : Sums := ⟨SMb.one, SMb.two, SMb.lo, SMb.eqs, SMb.its, SMb.imm⟩
theorem SMc_ok : SumsOK Try.prog SMc := SMb_ok
theorem bs_fin {p : Int → Bool} {most lo hi : Int} (h : BsInv p most lo hi) (hm : Mono p most) (hh : hi ≤ lo) : lo = grV p most ∧ 0 = grE p := by
  have := h.a
  have := h.b
  have := h.c
  have e := grI_uniq hm h.a (by omega) h.d fun hl => h.e (lo + 1) (by omega) (by omega)
  unfold grV grE
  rw [if_pos hm.p0, if_pos hm.p0, e]
  exact ⟨rfl, rfl⟩
theorem bs_up {p : Int → Bool} {most lo hi m : Int} (h : BsInv p most lo hi) (h1 : lo < m) (h2 : m ≤ hi) (hp : p m = true) : BsInv p most m hi := ⟨by have := h.a; omega, h2, h.c, hp, h.e⟩
theorem bs_dn {p : Int → Bool} {most lo hi m : Int} (h : BsInv p most lo hi) (hm : Mono p most) (h1 : lo < m) (h2 : m ≤ hi) (hp : p m = false) : BsInv p most lo (m - 1) :=
  ⟨h.a, by omega, by have := h.c; omega, h.d, fun i i1 i2 => by
    cases hi : p i with
    | false => rfl
    | true =>
      have := hm.dn m i (by have := h.a; omega) (by omega) i2 hi
      rw [hp] at this; cases this⟩
theorem mid_b {lo hi : Int} (h0 : 0 ≤ lo) (h : lo < hi) : lo < (lo + hi + 1).tdiv 2 ∧ (lo + hi + 1).tdiv 2 ≤ hi := by
  rw [Int.tdiv_eq_ediv_of_nonneg (by omega)]; omega
theorem gr_no {p : Int → Bool} {most : Int} (h : p 0 = false) : 0 = grV p most ∧ 17 = grE p := by
  unfold grV grE
  rw [h]; simp
noncomputable def SMd : Sums := ⟨SMc.one, SMc.two, SMc.lo, SMc.eqs, SMc.its, SMc.imm⟩
theorem SMd_ok : SumsOK Try.prog SMd := SMc_ok
theorem mg_no {lb : Bool} {a most : Int} {p : Int → Bool} (h : lb = false) : 0 = mgV lb a p most ∧ errA lb = mgE lb a p := by
  unfold mgV mgE
  subst h
  simp [errA]
theorem mg_amb {lb : Bool} {a most : Int} {p : Int → Bool} (h : lb = true) (ha : a < 0 ∨ 400000 < a) : 0 = mgV lb a p most ∧ 3 = mgE lb a p := by
  have : isIn 0 a 400000 = false := by
    cases hb : isIn 0 a 400000 with
    | false => rfl
    | true => simp at hb; omega
  unfold mgV mgE
  subst h
  rw [this]
  simp
theorem mg_yes {lb : Bool} {a most : Int} {p : Int → Bool} (h : lb = true) (a1 : 0 ≤ a) (a2 : a ≤ 400000) : grV p most = mgV lb a p most ∧ grE p = mgE lb a p := by
  have : isIn 0 a 400000 = true := by simp [a1, a2]
  unfold mgV mgE
  subst h
  rw [this]
  simp
noncomputable def SMe : Sums := ⟨SMd.one, SMd.two, SMd.lo, SMd.eqs, SMd.its, SMd.imm⟩
theorem SMe_ok : SumsOK Try.prog SMe := SMd_ok
end
end Abs
end Go.Proofs.Ytlabbaglbcmofaa

/- Cells, by the program: the greatest safe currents, asked. -/
namespace Go.Proofs.Ytlabbaglbcmofaa
namespace Abs
open Go Go.RowKit
noncomputable section
attribute [local irreducible] FnSat
noncomputable def SMf : Sums := ⟨SMe.one, SMe.two, SMe.lo, SMe.eqs, SMe.its, SMe.imm⟩
theorem SMf_ok : SumsOK Try.prog SMf := SMe_ok
noncomputable def SMg : Sums := ⟨SMf.one, SMf.two, SMf.lo, SMf.eqs, SMf.its, SMf.imm⟩
theorem SMg_ok : SumsOK Try.prog SMg := SMf_ok
def outmo : Spec [celSh, staSh, limSh, .int .i64] := ⟨fun (c, _) => CelMax (celOf c),
  fun (c, s0, ((l : Int), (m : Int), (o : Int), (k : Int), (h : Int), _), (a : Int), _) => .tup [.si .i64 (aV (celOf c) (staOf s0) (mgV (limB l m o k h) a (outP (celOf c) (staOf s0) l h a) o)), .si .i64 (aE (celOf c) (staOf s0) (mgE (limB l m o k h) a (outP (celOf c) (staOf s0) l h a)))]⟩
def inmo : Spec [celSh, staSh, limSh, .int .i64] := ⟨fun (c, _) => CelMax (celOf c),
  fun (c, s0, ((l : Int), (m : Int), (o : Int), (k : Int), (h : Int), _), (a : Int), _) => .tup [.si .i64 (aV (celOf c) (staOf s0) (mgV (limB l m o k h) a (inP (celOf c) (staOf s0) m h a) k)), .si .i64 (aE (celOf c) (staOf s0) (mgE (limB l m o k h) a (inP (celOf c) (staOf s0) m h a)))]⟩
noncomputable def SMh : Sums := ⟨SMg.one, SMg.two, SMg.lo, SMg.eqs, SMg.its, SMg.imm⟩
theorem SMh_ok : SumsOK Try.prog SMh := SMg_ok
end
end Abs
end Go.Proofs.Ytlabbaglbcmofaa

/- Cells, by the document: the greatest safe currents. -/
namespace Go.Proofs.Ytlabbaglbcmofaa
namespace Abs
open Go Go.RowKit
noncomputable section
attribute [local irreducible] FnSat
-- by halves
@[irreducible] def p2 (e : Nat) : Int := (2 : Int) ^ e
theorem p2_s (e : Nat) : p2 (e + 1) = 2 * p2 e := by unfold p2; rw [Int.pow_succ]; omega
theorem p2_0 : p2 0 = 1 := by unfold p2; rfl
theorem p2_pos : ∀ e, 1 ≤ p2 e
  | 0 => by rw [p2_0]; decide
  | e + 1 => by have := p2_pos e; rw [p2_s]; omega
theorem p2_mono {d : Nat} : ∀ {e : Nat}, d ≤ e → p2 d ≤ p2 e
  | 0, h => by obtain rfl : d = 0 := by omega
               exact Int.le_refl _
  | e + 1, h => by
    rcases Nat.lt_or_ge d (e + 1) with h1 | h1
    · have := p2_mono (d := d) (e := e) (by omega)
      have := p2_pos e
      rw [p2_s]; omega
    · obtain rfl : d = e + 1 := by omega
      exact Int.le_refl _
@[irreducible] def stp (e : Nat) : Int := match e with | 0 => 0 | e + 1 => p2 e
theorem stp_0 : stp 0 = 0 := by unfold stp; rfl
theorem stp_s (e : Nat) : stp (e + 1) = p2 e := by unfold stp; rfl
theorem stp_half (e : Nat) : (stp (e + 1)).tdiv 2 = stp e := by
  rw [stp_s]
  cases e with
  | zero => rw [p2_0, stp_0]; rfl
  | succ e =>
    have := p2_pos e
    rw [p2_s, stp_s, Int.tdiv_eq_ediv_of_nonneg (by omega)]
    omega
theorem stp_b {e : Nat} (h : e ≤ 21) : 0 ≤ stp e ∧ stp e ≤ 1048576 := by
  cases e with
  | zero => rw [stp_0]; decide
  | succ e =>
    have h1 := p2_mono (d := e) (e := 20) (by omega)
    have h2 := p2_pos e
    have h3 : p2 20 = 1048576 := by unfold p2; rfl
    rw [stp_s]; omega
structure HvInv (p : Int → Bool) (most : Int) (e : Nat) (x : Int) : Prop where
  e1 : e ≤ 21
  a : 0 ≤ x
  b : x ≤ most
  c : p x = true
  d : ∀ i, x + p2 e ≤ i → i ≤ most → p i = false
theorem hv_0 {p : Int → Bool} {most : Int} (hm : Mono p most) (h : most ≤ 1048576) : HvInv p most 21 0 := ⟨by decide, by decide, hm.h0, hm.p0, fun i h1 h2 => by
  have : p2 21 = 2097152 := by unfold p2; rfl
  omega⟩
theorem hv_fin {p : Int → Bool} {most x : Int} {e : Nat} (h : HvInv p most e x) (hm : Mono p most) (hs : stp e ≤ 0) : x = grV p most ∧ 0 = grE p := by
  obtain rfl : e = 0 := by
    cases e with
    | zero => rfl
    | succ e => have := p2_pos e; rw [stp_s] at hs; omega
  have hd := h.d
  rw [p2_0] at hd
  have e := grI_uniq hm h.a h.b h.c fun hl => hd (x + 1) (by omega) (by omega)
  unfold grV grE
  rw [if_pos hm.p0, if_pos hm.p0, e]
  exact ⟨rfl, rfl⟩
theorem hv_up {p : Int → Bool} {most x : Int} {e : Nat} (h : HvInv p most (e + 1) x) (h1 : x + stp (e + 1) ≤ most) (hp : p (x + stp (e + 1)) = true) : HvInv p most e (x + stp (e + 1)) := by
  rw [stp_s] at *
  have := p2_pos e
  exact ⟨by have := h.e1; omega, by have := h.a; omega, h1, hp, fun i i1 i2 => h.d i (by rw [p2_s]; omega) i2⟩
theorem hv_dn {p : Int → Bool} {most x : Int} {e : Nat} (h : HvInv p most (e + 1) x) (hm : Mono p most) (hp : most < x + stp (e + 1) ∨ p (x + stp (e + 1)) = false) : HvInv p most e x := by
  rw [stp_s] at *
  have := p2_pos e
  refine ⟨by have := h.e1; omega, h.a, h.b, h.c, fun i i1 i2 => ?_⟩
  cases hi : p i with
  | false => rfl
  | true =>
    rcases hp with hp | hp
    · omega
    · have := hm.dn (x + p2 e) i (by have := h.a; omega) i1 i2 hi
      rw [hp] at this; cases this
theorem stp_ex {e : Nat} (h : 0 < stp e) : ∃ d, e = d + 1 := by
  cases e with
  | zero => rw [stp_0] at h; omega
  | succ e => exact ⟨e, rfl⟩
def routmI : DatL [celSh, staSh, limSh, .int .i64] → Anns := fun (c, s0, ((l : Int), (m : Int), (o : Int), (k : Int), (h : Int), _), (a : Int), _) => [
  (11, [], fun fr hp => ⟨Nat × Int, fun (e, x) => ⟨frI [.k 10, .s (.si .i64 x), .s (.si .i64 (stp e)), .k 21, .t 23, .k 1] fr, hp⟩, (Int → Bool) × Int × Nat × Int, fun (e, x) => (outP (celOf c) (staOf s0) l h a, o, e, x), fun (p, most, e, x) => HvInv p most e x, fun (e, _) => e⟩)]
def rinmI : DatL [celSh, staSh, limSh, .int .i64] → Anns := fun (c, s0, ((l : Int), (m : Int), (o : Int), (k : Int), (h : Int), _), (a : Int), _) => [
  (11, [], fun fr hp => ⟨Nat × Int, fun (e, x) => ⟨frI [.k 10, .s (.si .i64 x), .s (.si .i64 (stp e)), .k 21, .t 23, .k 1] fr, hp⟩, (Int → Bool) × Int × Nat × Int, fun (e, x) => (inP (celOf c) (staOf s0) m h a, k, e, x), fun (p, most, e, x) => HvInv p most e x, fun (e, _) => e⟩)]
end
end Abs
end Go.Proofs.Ytlabbaglbcmofaa

/- Cells with tolerances, by the document: VoltageBox, FillBox, StepBox, SafeOut. -/
namespace Go.Proofs.Ytlabbaglbcmofaa
namespace Abs
open Go Go.RowKit
noncomputable section
attribute [local irreducible] FnSat
noncomputable def SWe : Sums := ⟨SWd.one, SWd.two, SWd.lo, SWd.eqs, SWd.its, SWd.imm⟩
theorem SWe_ok : SumsOK Try.prog SWe := SWd_ok
-- what is safe for a box
@[irreducible] def boxP (x : Wid) (l h u v i : Int) : Bool := decide (l ≤ wvL x i i) && decide (wtH x i i u v ≤ h) && decide (i + x.hi.leak ≤ x.bl 0)
theorem boxP_iff {x : Wid} {l h u v i : Int} : boxP x l h u v i = true ↔ l ≤ wvL x i i ∧ wtH x i i u v ≤ h ∧ i + x.hi.leak ≤ x.bl 0 := by unfold boxP; simp [and_assoc]
def rbsS : Spec [celSh, spansSh, spansSh, limSh, spanSh, .int .i64] := ⟨fun (c, (n, el), (m, em), _, ((u : Int), (v : Int), _), (i : Int), _) => ChkOK (celOf c) n (fun k => (el k).1) (fun k => (el k).2.1) m (fun k => (em k).1) (fun k => (em k).2.1) ∧ insV 0 u v 400000 = true ∧ 0 ≤ i ∧ i ≤ 1048576,
  fun (c, (_, el), (m, em), ((l : Int), (_ : Int), (_ : Int), (_ : Int), (h : Int), _), ((u : Int), (v : Int), _), (i : Int), _) => .sb (boxP (widV (celOf c) (fun k => (el k).1) (fun k => (el k).2.1) m (fun k => (em k).1) (fun k => (em k).2.1)) l h u v i)⟩
noncomputable def SWf : Sums := ⟨SWe.one, SWe.two, SWe.lo, SWe.eqs, SWe.its, SWe.imm⟩
theorem SWf_ok : SumsOK Try.prog SWf := SWe_ok
end
end Abs
end Go.Proofs.Ytlabbaglbcmofaa

/- The greatest current that is safe for a box, by the program and by the document. -/
namespace Go.Proofs.Ytlabbaglbcmofaa
namespace Abs
open Go Go.RowKit
noncomputable section
attribute [local irreducible] FnSat
theorem wv_mono {x : Wid} {i j : Int} (hx : WidOK x) (h : i ≤ j) : wvL x j j ≤ wvL x i i := by
  have m1 := Int.mul_le_mul_of_nonneg_right h hx.r0
  have m2 := Int.mul_le_mul_of_nonneg_right h hx.s0
  have p : prH i i x.rl x.rh ≤ prH j j x.rl x.rh := by unfold prH; omega
  have d := dvI_mono (d := 1000) (by decide) p
  unfold wvL
  omega
theorem wt_mono {x : Wid} {i j u v : Int} (hx : WidOK x) (h0 : 0 ≤ i) (h : i ≤ j) : wtH x i i u v ≤ wtH x j j u v := by
  have m := Int.mul_le_mul_of_nonneg_right (sq_mono h0 h) hx.s0
  have d := dvI_mono (d := 1000000000) (by decide) m
  have e : whH x i i ≤ whH x j j := by
    unfold whH
    rw [(sq_one i).2, (sq_one j).2]
    omega
  have hk := celB_iff.1 hx.lo
  have d2 := dvI_mono (d := x.lo.hcap) hk.hc0 (show 1000 * whH x i i ≤ 1000 * whH x j j by omega)
  unfold wtH
  exact clipV_mono (by omega)
theorem box_mono {x : Wid} {l h u v most : Int} (hx : WidOK x) (h0 : 0 ≤ most) (hp : boxP x l h u v 0 = true) : Mono (boxP x l h u v) most := by
  refine ⟨h0, hp, fun i j i0 ij _ hj => ?_⟩
  obtain ⟨h1, h2, h3⟩ := boxP_iff.1 hj
  have a := wv_mono hx ij
  have b := wt_mono (u := u) (v := v) hx i0 ij
  exact boxP_iff.2 ⟨by omega, by omega, by omega⟩
@[irreducible] def soE (e : Int) (p : Int → Bool) : Int := if e = 0 then grE p else e
@[irreducible] def soV (e : Int) (p : Int → Bool) (most : Int) : Int := if e = 0 then grV p most else 0
theorem so_e {e most : Int} {p : Int → Bool} (h : ¬ e = 0) : 0 = soV e p most ∧ e = soE e p := by unfold soV soE; rw [if_neg h, if_neg h]; exact ⟨rfl, rfl⟩
theorem so_0 {e most : Int} {p : Int → Bool} (h : e = 0) : grV p most = soV e p most ∧ grE p = soE e p := by unfold soV soE; rw [if_pos h, if_pos h]; exact ⟨rfl, rfl⟩
def sfoS : Spec [celSh, spansSh, spansSh, limSh, spanSh] := ⟨fun (c, x, y, _) => CelMax (celOf c) ∧ x.1 ≤ maxLen ∧ y.1 ≤ maxLen,
  fun (c, (n, el), (m, em), ((l : Int), (q : Int), (o : Int), (w : Int), (h : Int), _), ((u : Int), (v : Int), _), _) => .tup [.si .i64 (soV (orE (orE (chkV (celOf c) n (fun k => (el k).1) (fun k => (el k).2.1) m (fun k => (em k).1) (fun k => (em k).2.1)) (limB l q o w h) 2) (insV 0 u v 400000) 2) (boxP (widV (celOf c) (fun k => (el k).1) (fun k => (el k).2.1) m (fun k => (em k).1) (fun k => (em k).2.1)) l h u v) o), .si .i64 (soE (orE (orE (chkV (celOf c) n (fun k => (el k).1) (fun k => (el k).2.1) m (fun k => (em k).1) (fun k => (em k).2.1)) (limB l q o w h) 2) (insV 0 u v 400000) 2) (boxP (widV (celOf c) (fun k => (el k).1) (fun k => (el k).2.1) m (fun k => (em k).1) (fun k => (em k).2.1)) l h u v))]⟩
def rsfoI : DatL [celSh, spansSh, spansSh, limSh, spanSh] → Anns := fun (c, (n, el), (m, em), ((l : Int), (q : Int), (o : Int), (w : Int), (h : Int), _), ((u : Int), (v : Int), _), _) => [
  (11, [], fun fr hp => ⟨Nat × Int, fun (e, x) => ⟨frI [.k 12, .s (.si .i64 x), .s (.si .i64 (stp e)), .k 24, .t 24, .k 1] fr, hp⟩, (Int → Bool) × Int × Nat × Int, fun (e, x) => ((boxP (widV (celOf c) (fun k => (el k).1) (fun k => (el k).2.1) m (fun k => (em k).1) (fun k => (em k).2.1)) l h u v), o, e, x), fun (p, most, e, x) => HvInv p most e x, fun (e, _) => e⟩)]
noncomputable def SWg : Sums := ⟨SWf.one, SWf.two, SWf.lo, SWf.eqs, SWf.its, SWf.imm⟩
theorem SWg_ok : SumsOK Try.prog SWg := SWf_ok
@[reducible] def sfoCap : List Sh := [.ptr [.ptr widCells], .ptr limCells, .ptr [.int .i64, .int .i64], .ptr [spansSh]]
def sfo1 : Spec [.int .i64, .ptr [.ptr widCells], .ptr limCells, .ptr [.int .i64, .int .i64], .ptr [spansSh]] := ⟨fun ((i : Int), (x, _), _, ((u : Int), (v : Int), _), ((m, em), _), _) => WidOK (widOf x) ∧ m = 5 ∧ (em 0).1 = (widOf x).bl 0 ∧ insV 0 u v 400000 = true ∧ 0 ≤ i ∧ i ≤ 1048576,
  fun ((i : Int), (x, _), ((l : Int), (_ : Int), (_ : Int), (_ : Int), (h : Int), _), ((u : Int), (v : Int), _), _, _) => .sb (boxP (widOf x) l h u v i)⟩
noncomputable def SQa : Sums := ⟨SBq.one, SBq.two, SBq.lo, SBq.eqs, SBq.its, SBq.imm⟩
theorem SQa_ok : SumsOK Try.prog SQa := SBq_ok
noncomputable def SQb : Sums := ⟨(44, mkSum _ chkS) :: SQa.one, SQa.two, SQa.lo, SQa.eqs, SQa.its, SQa.imm⟩
theorem SQb_ok : SumsOK Try.prog SQb := (SQa_ok.cons Try.func44 (by kernel_rfl) (by kernel_rfl) chk_ok)
end
end Abs
end Go.Proofs.Ytlabbaglbcmofaa

/- The greatest current that is safe for a box, by the program: SafeOut. -/
namespace Go.Proofs.Ytlabbaglbcmofaa
namespace Abs
open Go Go.RowKit
noncomputable section
attribute [local irreducible] FnSat
end
end Abs
end Go.Proofs.Ytlabbaglbcmofaa

/- Cells with offsets, by the program: what is answered is new. -/
namespace Go.Proofs.Ytlabbaglbcmofaa
namespace Abs
open Go Go.RowKit
noncomputable section
attribute [local irreducible] FnSat
/-- a cell whose curves are rows of one's own -/
def celR (c : Cel) (i : Nat) : AV := .agg [.si .i64 c.cap, .row i, .row (i + 1), .si .i64 c.shift, .row (i + 2), .row (i + 3), .si .i64 c.extra, .si .i64 c.pair, .si .i64 c.keep, .si .i64 c.leak, .si .i64 c.hcap, .si .i64 c.cool, .row (i + 4), .row (i + 5), .si .i64 c.cyc, .si .i64 c.agel, .si .i64 c.grow]
def celH (c : Cel) : Heap := [.row 2 1 (.sym c.ocv.nx) (fun k => [.si .i64 (c.ocv.x k)]), .row 2 1 (.sym c.ocv.ny) (fun k => [.si .i64 (c.ocv.y k)]), .row 2 1 (.sym c.cold.nx) (fun k => [.si .i64 (c.cold.x k)]), .row 2 1 (.sym c.cold.ny) (fun k => [.si .i64 (c.cold.y k)]), .row 2 1 (.sym c.stress.nx) (fun k => [.si .i64 (c.stress.x k)]), .row 2 1 (.sym c.stress.ny) (fun k => [.si .i64 (c.stress.y k)])]
def kepN : SpecN [celSh] := ⟨fun (c, _) => CelFew (celOf c), fun (c, _) => celR (celOf c) 2, fun (c, _) => .dead :: .dead :: celH (celOf c)⟩
noncomputable def SAq : Sums := ⟨SAb.one, SAb.two, SAb.lo, SAb.eqs, SAb.its, SAb.imm⟩
theorem SAq_ok : SumsOK Try.prog SAq := SAb_ok
def aplN : SpecN [celSh, intsSh] := ⟨fun (c, (n, el), _) => CelMax (celOf c) ∧ n ≤ maxLen ∧ apE (celOf c) n (fun k => (el k).1) = 0, fun (c, (_, el), _) => .tup [celR (mvC (celOf c) (fun k => (el k).1)) 4, .si .i64 0], fun (c, (_, el), _) => .dead :: .dead :: .dead :: .dead :: celH (mvC (celOf c) (fun k => (el k).1))⟩
end
end Abs
end Go.Proofs.Ytlabbaglbcmofaa

/- Cells with offsets and with faults: what is answered is new; equal cells; numbers spoilt. -/
namespace Go.Proofs.Ytlabbaglbcmofaa
namespace Abs
open Go Go.RowKit
noncomputable section
attribute [local irreducible] FnSat
noncomputable def SAr : Sums := ⟨SAc.one, SAc.two, SAc.lo, SAc.eqs, SAc.its, SAc.imm⟩
theorem SAr_ok : SumsOK Try.prog SAr := SAc_ok
theorem flE_iff {c : Cel} {k a : Int} (h : flE c k a = 0) : celB c = true ∧ fltB k a = true ∧ celB (fltC c k a) = true := by
  unfold flE at h
  split at h
  · rename_i q
    rw [Bool.and_eq_true] at q
    split at h
    · rename_i q2
      exact ⟨q.1, q.2, q2⟩
    · cases h
  · cases h
theorem fau_case {c : Cel} {k a : Int} {X : Cel} (hX : X = fltC c k a) (hm : CelMax c) (hb : celB (fltC c k a) = true) :
    CelMax X ∧ celB X = true ∧ (celB X = true → CelFew X ∧ X.cap = (fltC c k a).cap ∧ X.shift = (fltC c k a).shift ∧ X.extra = (fltC c k a).extra ∧ X.pair = (fltC c k a).pair ∧ X.keep = (fltC c k a).keep ∧ X.leak = (fltC c k a).leak ∧ X.hcap = (fltC c k a).hcap ∧ X.cool = (fltC c k a).cool ∧ X.cyc = (fltC c k a).cyc ∧ X.agel = (fltC c k a).agel ∧ X.grow = (fltC c k a).grow ∧ X.ocv.nx = (fltC c k a).ocv.nx ∧ (∀ j : Nat, j < (fltC c k a).ocv.nx → X.ocv.x j = (fltC c k a).ocv.x j) ∧ X.ocv.ny = (fltC c k a).ocv.ny ∧ (∀ j : Nat, j < (fltC c k a).ocv.ny → X.ocv.y j = (fltC c k a).ocv.y j) ∧ X.cold.nx = (fltC c k a).cold.nx ∧ (∀ j : Nat, j < (fltC c k a).cold.nx → X.cold.x j = (fltC c k a).cold.x j) ∧ X.cold.ny = (fltC c k a).cold.ny ∧ (∀ j : Nat, j < (fltC c k a).cold.ny → X.cold.y j = (fltC c k a).cold.y j) ∧ X.stress.nx = (fltC c k a).stress.nx ∧ (∀ j : Nat, j < (fltC c k a).stress.nx → X.stress.x j = (fltC c k a).stress.x j) ∧ X.stress.ny = (fltC c k a).stress.ny ∧ (∀ j : Nat, j < (fltC c k a).stress.ny → X.stress.y j = (fltC c k a).stress.y j)) := by
  subst hX
  refine ⟨flt_max hm k a, hb, fun _ => ⟨(celB_iff.1 hb).few, ?_⟩⟩
  simp
def fauN : SpecN [celSh, .agg [.int .i64, .int .i64]] := ⟨fun (c, ((k : Int), (a : Int), _), _) => CelMax (celOf c) ∧ flE (celOf c) k a = 0, fun (c, ((k : Int), (a : Int), _), _) => .tup [celR (fltC (celOf c) k a) 5, .si .i64 0], fun (c, ((k : Int), (a : Int), _), _) => .dead :: .dead :: .dead :: .dead :: .dead :: celH (fltC (celOf c) k a)⟩
def raplI : DatL [celSh, intsSh] → Anns := fun (_, (_, el), _) => [
  (4, [], fun fr hp => ⟨Nat, fun g => ⟨frI [.k 6, .s (.si .i64 (icast g)), .k 9, .t 20] fr, hp⟩, Nat × (Nat → Int), fun g => (g, fun k => (el k).1), fun (g, v) => g ≤ 7 ∧ ∀ k, k < g → isQ (v k) = true, fun g => nsub 7 g⟩)]
theorem rfau_case {c : Cel} {k a a1 a2 a3 a4 a5 a6 a7 a8 a9 a10 a11 : Int} (hX : celX c a1 a2 a3 a4 a5 a6 a7 a8 a9 a10 a11 = fltC c k a) (hm : CelMax c) (h : celB c = true) (hf : fltB k a = true) :
    CelMax (celX c a1 a2 a3 a4 a5 a6 a7 a8 a9 a10 a11) ∧ (celB (celX c a1 a2 a3 a4 a5 a6 a7 a8 a9 a10 a11) = false → 0 = (flC c k a).cap ∧ (flC c k a).ocv.nx = 0 ∧ (flC c k a).ocv.ny = 0 ∧ 0 = (flC c k a).shift ∧ (flC c k a).cold.nx = 0 ∧ (flC c k a).cold.ny = 0 ∧ 0 = (flC c k a).extra ∧ 0 = (flC c k a).pair ∧ 0 = (flC c k a).keep ∧ 0 = (flC c k a).leak ∧ 0 = (flC c k a).hcap ∧ 0 = (flC c k a).cool ∧ (flC c k a).stress.nx = 0 ∧ (flC c k a).stress.ny = 0 ∧ 0 = (flC c k a).cyc ∧ 0 = (flC c k a).agel ∧ 0 = (flC c k a).grow ∧ 3 = flE c k a) ∧ (celB (celX c a1 a2 a3 a4 a5 a6 a7 a8 a9 a10 a11) = true → a1 = (flC c k a).cap ∧ c.ocv.nx = (flC c k a).ocv.nx ∧ (∀ j : Nat, j < (flC c k a).ocv.nx → c.ocv.x j = (flC c k a).ocv.x j) ∧ c.ocv.ny = (flC c k a).ocv.ny ∧ (∀ j : Nat, j < (flC c k a).ocv.ny → c.ocv.y j = (flC c k a).ocv.y j) ∧ a2 = (flC c k a).shift ∧ c.cold.nx = (flC c k a).cold.nx ∧ (∀ j : Nat, j < (flC c k a).cold.nx → c.cold.x j = (flC c k a).cold.x j) ∧ c.cold.ny = (flC c k a).cold.ny ∧ (∀ j : Nat, j < (flC c k a).cold.ny → c.cold.y j = (flC c k a).cold.y j) ∧ a3 = (flC c k a).extra ∧ a4 = (flC c k a).pair ∧ a5 = (flC c k a).keep ∧ a6 = (flC c k a).leak ∧ a7 = (flC c k a).hcap ∧ a8 = (flC c k a).cool ∧ c.stress.nx = (flC c k a).stress.nx ∧ (∀ j : Nat, j < (flC c k a).stress.nx → c.stress.x j = (flC c k a).stress.x j) ∧ c.stress.ny = (flC c k a).stress.ny ∧ (∀ j : Nat, j < (flC c k a).stress.ny → c.stress.y j = (flC c k a).stress.y j) ∧ a9 = (flC c k a).cyc ∧ a10 = (flC c k a).agel ∧ a11 = (flC c k a).grow ∧ 0 = flE c k a) := by
  have q := flt_case hX hm h hf
  refine ⟨q.1, q.2.1, fun hb => ?_⟩
  have q := (q.2.2 hb).2
  unfold celX Cel.cap Cel.ocv Cel.shift Cel.cold Cel.extra Cel.pair Cel.keep Cel.leak Cel.hcap Cel.cool Cel.stress Cel.cyc Cel.agel Cel.grow at q
  unfold Cel.cap Cel.ocv Cel.shift Cel.cold Cel.extra Cel.pair Cel.keep Cel.leak Cel.hcap Cel.cool Cel.stress Cel.cyc Cel.agel Cel.grow
  exact q
def smaS : Spec [intsSh, intsSh] := ⟨fun (x, y, _) => x.1 ≤ maxLen ∧ x.1 = y.1 ∧ ∀ k, k < x.1 → (x.2 k).1 = (y.2 k).1, fun _ => .sb true⟩
def smaI : DatL [intsSh, intsSh] → Anns := fun ((n, _), _, _) =>
  [(4, [], fun fr hp => ⟨Nat, fun k => ⟨frI [.k 5, .s (.si .i64 (icast k)), .k 5, .t 15] fr, hp⟩, Nat × Nat, fun k => (k, n), fun (k, n) => k ≤ n, fun k => nsub n k⟩)]
def smcS : Spec [crvSh, crvSh] := ⟨fun (x, y, _) => x.1.1 ≤ maxLen ∧ x.2.1.1 ≤ maxLen ∧ crvOf x = crvOf y, fun _ => .sb true⟩
noncomputable def SAra : Sums := ⟨SUd.one, SUd.two, SUd.lo, SUd.eqs, SUd.its, SUd.imm⟩
theorem SAra_ok : SumsOK Try.prog SAra := SUd_ok
def smlS : Spec [celSh, celSh] := ⟨fun (x, y, _) => CelMax (celOf x) ∧ celOf x = celOf y, fun _ => .sb true⟩
noncomputable def SArb : Sums := ⟨SAra.one, SAra.two, SAra.lo, SAra.eqs, SAra.its, SAra.imm⟩
theorem SArb_ok : SumsOK Try.prog SArb := SAra_ok
@[irreducible] def spV (g k : Nat) (x : Int) : Int := if k < g then -1 else x
def spoF : SpecF [.row 2 1 [.int .i64]] [.rowr 0] := ⟨fun ((n, _), _) _ => n ≤ maxLen, fun _ _ => .tup [], fun ((n, _), _) _ => [.row 2 1 (.sym n) (fun _ => [.si .i64 (-1)])]⟩
def spoI : DatH [.row 2 1 [.int .i64]] → DatL [.rowr 0] → Anns := fun ((n, el), _) _ => [
  (1, [], fun fr hp => ⟨Nat, fun g => ⟨frI [.k 2, .s (.si .i64 (icast g)), .t 9] fr, setB hp 0 (.row 2 1 (.sym n) (fun k => [.si .i64 (spV g k (el k).1)]))⟩, Nat × Nat, fun g => (g, n), fun (g, n) => g ≤ n, fun g => nsub n g⟩)]
def spoZ : SpecF [] [intsSh] := ⟨fun _ (x, _) => x.1 = 0, fun _ _ => .tup [], fun _ _ => []⟩
def spzI : DatH [] → DatL [intsSh] → Anns := fun _ ((n, _), _) => [
  (1, [], fun fr hp => ⟨Nat, fun g => ⟨frI [.k 2, .s (.si .i64 (icast g)), .t 9] fr, hp⟩, Nat × Nat, fun g => (g, n), fun (g, n) => g ≤ n, fun g => nsub n g⟩)]
def alt2 (s t : Summ2) : Summ2 := fun args hp => match s args hp with | some r => some r | none => t args hp
theorem alt2_ok {P : Program} {f : FuncId} {s t : Summ2} (hs : Summ2OK P f s) (ht : Summ2OK P f t) : Summ2OK P f (alt2 s t) := by
  intro args hp pre res hp' h hpre
  unfold alt2 at h
  split at h
  · rename_i r hr
    injection h with h; subst h
    exact hs _ _ _ _ _ hr hpre
  · exact ht _ _ _ _ _ h hpre
noncomputable def SArc : Sums := ⟨SArb.one, SArb.two, SArb.lo, SArb.eqs, SArb.its, SArb.imm⟩
theorem SArc_ok : SumsOK Try.prog SArc := SArb_ok
noncomputable def SArd : Sums := SArc
theorem SArd_ok : SumsOK Try.prog SArd := SArc_ok
end
end Abs
end Go.Proofs.Ytlabbaglbcmofaa

/- Watchers: behind a reading a watcher is one that can be; its fill, its health, its power: what they are. -/
namespace Go.Proofs.Ytlabbaglbcmofaa
namespace Abs
open Go Go.RowKit
noncomputable section
attribute [local irreducible] FnSat
theorem nb_box' {c : Cel} {n m : Nat} {lo hi bl bh : Nat → Int} {a b u v : Int} (h : ChkOK c n lo hi m bl bh) (hI : insV (-1048576) a b 1048576 = true) (hU : insV 0 u v 400000 = true) (hf : farB (widV c lo hi m bl bh) a b = true) :
    BoxOK (nbL (widV c lo hi m bl bh) a b u v) (nbH (widV c lo hi m bl bh) a b u v) := by
  have h1 := h.n
  have h2 := h.m
  subst h1 h2
  exact nb_box h hI hU hf
theorem tk_chk {e : Ew} {q : Bool} {a0 a1 a2 a3 a4 a5 a6 a7 : Int} (hk : EwOK e) (hK : tkK e q a0 a1 a2 a3 a4 a5 a6 a7 = true) :
    ChkOK e.w.cel e.w.tn e.w.tl e.w.th e.n (tkL e q a0 a1 a2 a3 a4 a5 a6 a7) (tkH e q a0 a1 a2 a3 a4 a5 a6 a7) := by
  have hK' := hK
  unfold tkK at hK'
  simp only [Bool.and_eq_true, decide_eq_true_eq] at hK'
  obtain ⟨_, _, hb, hx⟩ := hK'
  obtain ⟨hi, ht, hc, hr⟩ := tlB_iff.1 hb
  obtain ⟨c1, c2⟩ := ckI hk hi
  have k3 := ck3 (ck2 (ck1 hk ht) hc) hr
  have hf : farB (widV e.w.cel e.w.tl e.w.th e.n (t3L e a0 a1 a2 a3 a4 a5) (t3H e a0 a1 a2 a3 a4 a5)) (mxI e.w.cl a2) (mnI e.w.ch a3) = true := by
    unfold tlX at hx
    split at hx
    · assumption
    · omega
  have hB := nb_box' k3 c1 c2 hf
  have eL : tkL e q a0 a1 a2 a3 a4 a5 a6 a7 = nbL (widV e.w.cel e.w.tl e.w.th e.n (t3L e a0 a1 a2 a3 a4 a5) (t3H e a0 a1 a2 a3 a4 a5)) (mxI e.w.cl a2) (mnI e.w.ch a3) (in2 e.w a2 a3 a6) (in3 e.w a2 a3 a7) := by unfold tkL; funext k; rw [if_pos hK]
  have eH : tkH e q a0 a1 a2 a3 a4 a5 a6 a7 = nbH (widV e.w.cel e.w.tl e.w.th e.n (t3L e a0 a1 a2 a3 a4 a5) (t3H e a0 a1 a2 a3 a4 a5)) (mxI e.w.cl a2) (mnI e.w.ch a3) (in2 e.w a2 a3 a6) (in3 e.w a2 a3 a7) := by unfold tkH; funext k; rw [if_pos hK]
  rw [eL, eH]
  exact ⟨k3.cel, k3.n, ew_five hk, k3.cl, k3.ch, k3.le, hB⟩
/-- behind a reading -/
theorem tk_any {e : Ew} {q : Bool} {a0 a1 a2 a3 a4 a5 a6 a7 : Int} (hk : EwOK e) :
    ChkOK e.w.cel e.w.tn e.w.tl e.w.th e.n (tkL e q a0 a1 a2 a3 a4 a5 a6 a7) (tkH e q a0 a1 a2 a3 a4 a5 a6 a7) ∧ e.tk ≤ tkT e q a0 a1 a2 a3 a4 a5 a6 a7 ∧ tkT e q a0 a1 a2 a3 a4 a5 a6 a7 ≤ e.tk + 1 := by
  cases hK : tkK e q a0 a1 a2 a3 a4 a5 a6 a7 with
  | true => exact ⟨tk_chk hk hK, by unfold tkT; rw [if_pos hK]; omega, by unfold tkT; rw [if_pos hK]; omega⟩
  | false =>
    have eL : tkL e q a0 a1 a2 a3 a4 a5 a6 a7 = e.l := by unfold tkL; funext k; rw [if_neg (by rw [hK]; decide)]
    have eH : tkH e q a0 a1 a2 a3 a4 a5 a6 a7 = e.h := by unfold tkH; funext k; rw [if_neg (by rw [hK]; decide)]
    have eT : tkT e q a0 a1 a2 a3 a4 a5 a6 a7 = e.tk := by unfold tkT; rw [if_neg (by rw [hK]; decide)]
    rw [eL, eH, eT]
    exact ⟨hk.chk, Int.le_refl _, by omega⟩
theorem ewN_w (e : Ew) (h0 h1 h2 h3 : Bool) (v0 v1 v2 v3 : Int) : (ewN e h0 h1 h2 h3 v0 v1 v2 v3).w = e.w := by unfold ewN; exact Ew.w_mk _ _ _ _ _ _
theorem ewN_n (e : Ew) (h0 h1 h2 h3 : Bool) (v0 v1 v2 v3 : Int) : (ewN e h0 h1 h2 h3 v0 v1 v2 v3).n = e.n := by unfold ewN; exact Ew.n_mk _ _ _ _ _ _
theorem ewN_ok {e : Ew} (hk : EwOK e) (ht : e.tk < 4294967296) (h0 h1 h2 h3 : Bool) (v0 v1 v2 v3 : Int) : EwOK (ewN e h0 h1 h2 h3 v0 v1 v2 v3) ∧ (ewN e h0 h1 h2 h3 v0 v1 v2 v3).tk ≤ e.tk + 1 := by
  obtain ⟨g1, g2, g3⟩ := tk_any (q := rdB e.w h0 h1 h2 h3 v0 v1 v2 v3) (a0 := spL h0 e.w.s00 e.w.s01 e.w.s02 e.w.s03 v0) (a1 := spH h0 e.w.s00 e.w.s01 e.w.s02 e.w.s03 v0) (a2 := spL h1 e.w.s10 e.w.s11 e.w.s12 e.w.s13 v1) (a3 := spH h1 e.w.s10 e.w.s11 e.w.s12 e.w.s13 v1)
    (a4 := spL h2 e.w.s20 e.w.s21 e.w.s22 e.w.s23 v2) (a5 := spH h2 e.w.s20 e.w.s21 e.w.s22 e.w.s23 v2) (a6 := spL h3 e.w.s30 e.w.s31 e.w.s32 e.w.s33 v3) (a7 := spH h3 e.w.s30 e.w.s31 e.w.s32 e.w.s33 v3) hk
  have h := hk.tk0
  have hb := hk.big
  have hw := hk.wat
  unfold ewN
  refine ⟨⟨?_, ?_, ?_, ?_, ?_⟩, ?_⟩
  · rw [Ew.w_mk]; exact hb
  · rw [Ew.w_mk]; exact hw
  · rw [Ew.w_mk, Ew.n_mk, Ew.l_mk, Ew.h_mk]; exact g1
  · rw [Ew.tk_mk]; omega
  · rw [Ew.tk_mk]; omega
  · rw [Ew.tk_mk]; exact g3
@[irreducible] def filL (e : Ew) : Int := (widV e.w.cel e.w.tl e.w.th e.n e.l e.h).fl
@[irreducible] def filH (e : Ew) : Int := (widV e.w.cel e.w.tl e.w.th e.n e.l e.h).fh
/-- the health of a cell with offsets -/
@[irreducible] def hoV (c : Cel) (n : Nat) (d : Nat → Int) (t a : Int) : Int := aV (apC c n d) ⟨0, 0, 0, t, a⟩ (hlV (apC c n d) ⟨0, 0, 0, t, a⟩)
@[irreducible] def heaL (e : Ew) : Int := hoV e.w.cel e.w.tn e.w.tl (e.h 3) (e.h 4)
@[irreducible] def heaH (e : Ew) : Int := hoV e.w.cel e.w.tn e.w.th (e.l 3) (e.l 4)
theorem celNil_max : CelMax celNil := by
  obtain ⟨_, n2, n3, _, n5, n6, _, _, _, _, _, _, n13, n14, _⟩ := celNil_n
  unfold CelMax maxLen
  omega
theorem apC_max {c : Cel} (h : CelMax c) (n : Nat) (d : Nat → Int) : CelMax (apC c n d) := by
  by_cases e : apE c n d = 0
  · rw [apC_0 e]; exact mvM h d
  · rw [apC_n e]; exact celNil_max
@[irreducible] def pwX (e : Ew) (l q o w h : Int) : Int := orE (orE (chkV e.w.cel e.w.tn e.w.tl e.w.th (nowN e) (nowL e) (nowH e)) (limB l q o w h) 2) (insV 0 e.w.al e.w.ah 400000) 2
@[irreducible] def pwE (e : Ew) (l q o w h : Int) : Int := if nowE e = 0 then soE (pwX e l q o w h) (boxP (widV e.w.cel e.w.tl e.w.th (nowN e) (nowL e) (nowH e)) l h e.w.al e.w.ah) else nowE e
@[irreducible] def pwV (e : Ew) (l q o w h : Int) : Int := if nowE e = 0 then soV (pwX e l q o w h) (boxP (widV e.w.cel e.w.tl e.w.th (nowN e) (nowL e) (nowH e)) l h e.w.al e.w.ah) o else 0
def flwS : Spec [.ptr ewCells] := ⟨fun ((m, x), _) => m = true ∧ EwOK (ewOf x), fun ((_, x), _) => .tup [.agg [.si .i64 (filL (ewOf x)), .si .i64 (filH (ewOf x))], .si .i64 0]⟩
noncomputable def Svr : Sums := ⟨Svd.one, Svd.two, Svd.lo, Svd.eqs, Svd.its, Svd.imm⟩
theorem Svr_ok : SumsOK Try.prog Svr := Svd_ok
def pwrS : Spec [.ptr ewCells, limSh] := ⟨fun ((m, x), _) => m = true ∧ EwOK (ewOf x), fun ((_, x), ((l : Int), (q : Int), (o : Int), (w : Int), (h : Int), _), _) => .tup [.si .i64 (pwV (ewOf x) l q o w h), .si .i64 (pwE (ewOf x) l q o w h)]⟩
theorem now_len {e : Ew} (hk : EwOK e) : nowN e ≤ 5 := by
  have h5 := ew_five hk
  unfold nowN
  split <;> omega
end
end Abs
end Go.Proofs.Ytlabbaglbcmofaa
