/- A part of the proof: no statement of its own. -/
import Derived.Test.YtdfdjlijghjdaaaQG5705b5da
import Derived.KernelRfl
import Derived.ChangeKeysEq
import Derived.ProofKit
import Derived.OpenShut
import Derived.Deep.Slices
set_option linter.unusedSimpArgs false
set_option linter.unusedVariables false
namespace Go.Proofs.Ytdfdjlijghjdaaa
namespace Abs
open Go Go.RowKit
noncomputable section
def runMvT : List Oper -> FT -> (FT -> VC) -> VC
 | [], fr, k => k fr
 | o :: l, fr, k => (match mvX o with
   | some x => forceD (noGd (evT fr x)) fun a => setKT fr o.dst a fun fr' => runMvT l fr' k
   | none => runMvT l fr k)
def runMvTP : {g : List Oper -> FT -> (FT -> VC) -> VC // runMvT = g} := ⟨_, by delta runMvT; rfl⟩
def runMvTN : List Oper -> FT -> (FT -> VC) -> VC := runMvTP.1
theorem runMvTN_eq : runMvTN = runMvT := runMvTP.2.symm
def runSwT (P : Program) (S : Sums) (z : Sw) (fb : Bool) : Nat -> List Oper -> FT -> Heap -> (FT -> Heap -> VC) -> VC
 | _, [], fr, hp, K => cleanFTN fr fun fr' => K fr' hp
 | n, o :: rest, fr, hp, K => (match Nat.beq n z.a, Nat.beq n z.s with
   | true, _ => (match zeroL P z.t with | some _ => runSwT P S z fb (n + 1) rest fr hp K | none => .fail)
   | false, true => forceMTN [] fr (tmpsO [z.x]) fun m => forceL (cellsA (evM m z.x)) fun l => (match decide (l.length = sizeT P z.t /\ 0 < sizeT P z.t) && oneL l with
     | true => hpLenK hp fun m => forceHN (appH hp [.cells z.t l]) fun hp' => setFT fr z.d (.own m 0) fun fr' => runSwT P S z fb (n + 1) rest fr' hp' K
     | false => .fail)
   | false, false => runOpT P S (match rest with | [] => fb | _ :: _ => false) none [] o fr hp fun fr' hp' => runSwT P S z fb (n + 1) rest fr' hp' K)
def runSwTP : {g : Program -> Sums -> Sw -> Bool -> Nat -> List Oper -> FT -> Heap -> (FT -> Heap -> VC) -> VC // runSwT = g} := ⟨_, by delta runSwT; rfl⟩
def runSwTN : Program -> Sums -> Sw -> Bool -> Nat -> List Oper -> FT -> Heap -> (FT -> Heap -> VC) -> VC := runSwTP.1
theorem runSwTN_eq : runSwTN = runSwT := runSwTP.2.symm
def nilCmpT (P : Program) (ops : List Oper) (fr : FT) : Option (Nat × Nat × Nat × LN) :=
 match ops with
 | [_, o2] => (match asNil o2.op with
   | some _ => nilCmp P ops (flatT fr)
   | none => none)
 | _ => none
def nilVCT (s a b : Nat) (n : LN) (fr : FT) (hp : Heap) (K : FT -> Heap -> VC) : VC :=
 .loop (A := unitA) (fun _ => ()) (.branch (ieq (icast n.val) 0) (setFT fr a (getT fr s) fun f => setFT f b (.lb true) fun f => K f hp) .done) (fun _ => setFT fr a (getT fr s) fun f => setFT f b (.lb false) fun f => K f hp)
def cpyPT (P : Program) (ops : List Oper) (fr : FT) (hp : Heap) : Option Cpy :=
 match cpyO ops with
 | some _ => cpyP P ops (flatT fr) hp
 | none => none
def cpyVCT (z : Cpy) (fr : FT) (hp : Heap) (K : FT -> Heap -> VC) : VC :=
 forceH (cpyH z hp) fun hp' => setFT fr z.d1 (.own z.i z.off) fun f => setFT f z.d2 .top fun f => setFT f z.d3 (getT fr z.s) fun f => setFT f z.d4 .top fun f => K f hp'
def toTK : Nat -> List AV -> (FT -> VC) -> VC
 | 0, _, _ => .fail
 | f + 1, l, k => (match l with
   | [] => k []
   | _ => forceL (takeL l 16) fun c => forceL (dropL l 16) fun r => toTK f r fun t => k (c :: t))
def toTKP : {g : Nat -> List AV -> (FT -> VC) -> VC // toTK = g} := ⟨_, by delta toTK; rfl⟩
def toTKN : Nat -> List AV -> (FT -> VC) -> VC := toTKP.1
theorem toTKN_eq : toTKN = toTK := toTKP.2.symm
def appK : List AV -> List AV -> (List AV -> VC) -> VC
 | [], r, k => k r
 | a :: l, r, k => appK l r fun m => k (a :: m)
def appKP : {g : List AV -> List AV -> (List AV -> VC) -> VC // appK = g} := ⟨_, by delta appK; rfl⟩
def appKN : List AV -> List AV -> (List AV -> VC) -> VC := appKP.1
theorem appKN_eq : appKN = appK := appKP.2.symm
def flatTK : FT -> (List AV -> VC) -> VC
 | [], k => k []
 | c :: t, k => flatTK t fun r => appKN c r k
def flatTKP : {g : FT -> (List AV -> VC) -> VC // flatTK = g} := ⟨_, by delta flatTK; rfl⟩
def flatTKN : FT -> (List AV -> VC) -> VC := flatTKP.1
theorem flatTKN_eq : flatTKN = flatTK := flatTKP.2.symm
def callItT (S : Sums) (g : Operand) (fr : FT) (hp : Heap) (K : Items -> Option (Nat × Nat × List AV) -> VC) : VC :=
 match g with
 | .tmp d => (match getT fr d with
   | .fn (.func gf) [] caps => itSel S d gf hp caps fun it cv cap => (match it cv with
     | some x => needsN x.pre (K x cap)
     | none => .fail)
   | _ => .fail)
 | _ => .fail
def iterLT (run : FT -> Heap -> (AE -> FT -> Heap -> VC) -> VC) : Nat -> FT -> Heap -> (AE -> FT -> Heap -> VC) -> VC
 | 0, _, _, _ => .fail
 | n + 1, fr, hp, Q => run fr hp fun e fr' hp' => match e with
   | .normal => iterLT run n fr' hp' Q
   | e => Q e fr' hp'
def iterLTP : {g : (FT -> Heap -> (AE -> FT -> Heap -> VC) -> VC) -> Nat -> FT -> Heap -> (AE -> FT -> Heap -> VC) -> VC // iterLT = g} := ⟨_, by delta iterLT; rfl⟩
def iterLTN : (FT -> Heap -> (AE -> FT -> Heap -> VC) -> VC) -> Nat -> FT -> Heap -> (AE -> FT -> Heap -> VC) -> VC := iterLTP.1
theorem iterLTN_eq : iterLTN = iterLT := iterLTP.2.symm
def gdOKT (all : List Oper) (fr : FT) : Option (Nat × Bool) -> Bool
 | none => true
 | some (g, w) => (match dstOf all g with
   | some d => (match getT fr d with | .lb b => b == w | _ => false)
   | none => false)
def preKT (P : Program) (all : List Oper) : List Oper -> List Bool -> FT -> (FT -> VC) -> VC
 | o :: l, b :: m, fr, k => (match b with
   | false => preKT P all l m fr k
   | true => (match gdOKT all fr o.guard with
     | false => .fail
     | true => forceMTN [] fr (tmpsO (opnds o.op)) fun mm => (match frVal P (evM mm) o.op with
       | none => .fail
       | some (ps, a) => needsN ps (forceD (noGd a) fun a => setKT fr o.dst a fun fr' => preKT P all l m fr' k))))
 | _, _, fr, k => k fr
def preKTP : {g : Program -> List Oper -> List Oper -> List Bool -> FT -> (FT -> VC) -> VC // preKT = g} := ⟨_, by delta preKT; rfl⟩
def preKTN : Program -> List Oper -> List Oper -> List Bool -> FT -> (FT -> VC) -> VC := preKTP.1
theorem preKTN_eq : preKTN = preKT := preKTP.2.symm
def gdAllT (all : List Oper) (fl : List Bool) (fr : FT) : List Oper -> List Bool -> Bool
 | o :: l, b :: m => (match b, o.guard with
   | false, some (g, w) => (match getFl fl g with
     | true => (match gdOKT all fr (some (g, w)) with | true => gdAllT all fl fr l m | false => false)
     | false => gdAllT all fl fr l m)
   | _, _ => gdAllT all fl fr l m)
 | _, _ => true
def runPreT (P : Program) (S : Sums) (all : List Oper) (fr : FT) (hp : Heap) (K : FT -> Heap -> VC) : VC :=
 preKTN P all all (frL all) fr fun fr' => (match gdAllT all (frL all) fr' all (frL all) with
  | true => runOpsTN P S true (hoist (tagL (frL all) all (frL all))) none (lenO (mvOps (tagL (frL all) all (frL all)))) (restO (tagL (frL all) all (frL all)) (lenO (mvOps (tagL (frL all) all (frL all)))) (tagL (frL all) all (frL all))) [] fr' hp K
  | false => .fail)
def giLP : {g : Nat -> List AV -> List AV -> List AV // giA.giL = g} := ⟨_, by delta giA.giL; rfl⟩
def giLN : Nat -> List AV -> List AV -> List AV := giLP.1
theorem giLN_eq : giLN = giA.giL := giLP.2.symm
def giHP : {g : Nat -> List AV -> Heap -> Heap // giH = g} := ⟨_, by delta giH; rfl⟩
def giHN : Nat -> List AV -> Heap -> Heap := giHP.1
theorem giHN_eq : giHN = giH := giHP.2.symm
def toRowsKn (e' sz j : Nat) (fr : List AV) (hp : Heap) (K : List AV -> Heap -> VC) : VC := match getB hp j, sz with
 | .row e 1 n el, s + 1 => .need ⟨fun z : Nat × (Nat -> List AV) => 0 < z.1 /\ ∀ k, k < z.1 -> z.2 k = [.v (.slice none 0 0)], (n.val, el)⟩ (forceHN (setB hp j (.rows e e' (s + 1) n (fun _ => false) (fun _ => 0) (fun _ _ => []) none)) fun hp' => K fr hp')
 | _, _ => .fail
def openKn (x j : Nat) (fr : List AV) (hp : Heap) (K : List AV -> Heap -> VC) : VC := match getB hp j, idxX fr x with
 | .rows e e' sz n fz ln el none, some a => .need ⟨fun z : Int × Nat => 0 <= z.1 /\ z.1 < (z.2 : Int), (a, n.val)⟩ (.need ⟨fun z : Bool => z = false, fz (nat a)⟩
   (hpLenK hp fun len => forceHN (appH (setB hp j (.rows e e' sz n fz ln el (some (nat a, some len)))) [.row e' sz (.sym (ln (nat a))) (el (nat a))]) fun hp' => K fr hp'))
 | _, _ => .fail
def closeKn (lo : Nat) (stay : Bool) (j : Nat) (fr : List AV) (hp : Heap) (K : List AV -> Heap -> VC) : VC := match getB hp j with
 | .rows e e' sz n fz ln el (some (k, some h)) => (match getB hp h with
   | .row e2 sz2 m f => (match decide (e2 = e' /\ sz2 = sz /\ h ≠ j) && Nat.ble lo h && Nat.ble lo j with
     | true => forceLD (mapR.mapRL (at1 h .top) fr) fun fr' => forceHN (setB (setB (mapH (at1 h .top) hp) h .dead) j (.rows e e' sz n (updZ k stay fz) (updN k m.val ln) (updR k f el) none)) fun hp' => K fr' hp'
     | false => .fail)
   | _ => .fail)
 | _ => .fail
def restKn (lo j : Nat) (fr : List AV) (hp : Heap) (K : List AV -> Heap -> VC) : VC := match getB hp j with
 | .rows e _ sz n _ ln el none => (match Nat.ble lo j with
   | true => forceHN (setB hp j (.row e 1 n (fun k => [.slc (.sym (ln k)) sz (el k)]))) fun hp' => K fr hp'
   | false => .fail)
 | _ => .fail
def frzKn (lo j : Nat) (fr : List AV) (hp : Heap) (K : List AV -> Heap -> VC) : VC := match getB hp j with
 | .row _ sz n el => (match Nat.ble lo j with
   | true => forceLD (mapR.mapRL (at1 j (.slc n sz el)) fr) fun fr' => forceHN (setB (mapH (at1 j (.slc n sz el)) hp) j .dead) fun hp' => K fr' hp'
   | false => .fail)
 | _ => .fail
def nilsKn (sz j : Nat) (fr : List AV) (hp : Heap) (K : List AV -> Heap -> VC) : VC := match getB hp j with
 | .row e 1 n el => .need ⟨fun z : Nat × (Nat -> List AV) => ∀ k, k < z.1 -> z.2 k = [.v (.slice none 0 0)], (n.val, el)⟩ (forceHN (setB hp j (.row e 1 n (fun _ => [.slc (.sym 0) sz (fun _ => [])]))) fun hp' => K fr hp')
 | _ => .fail
def rowsKn (lo x c j : Nat) (fr : List AV) (hp : Heap) (K : List AV -> Heap -> VC) : VC := match c % 64 with
 | 1 => openKn x j fr hp K
 | 2 => closeKn lo false j fr hp K
 | 3 => closeKn lo true j fr hp K
 | 4 => restKn lo j fr hp K
 | 6 => frzKn lo j fr hp K
 | 7 => nilsKn x j fr hp K
 | c => (match Nat.ble 16 c with | true => toRowsKn x (c - 16) j fr hp K | false => .fail)
theorem rowsKn_eq (lo x c j : Nat) (fr : List AV) (hp : Heap) (K : List AV -> Heap -> VC) : rowsKn lo x c j fr hp K = rowsK lo x c j fr hp K := by
 unfold rowsKn rowsK toRowsKn toRowsK openKn openK closeKn closeK restKn restK frzKn frzK nilsKn nilsK
 simp only [forceHN_eq, hpLenK_eq]
 rfl
def paLP : {g : Nat -> AV -> List AV -> List AV // paA.paL = g} := ⟨_, by delta paA.paL; rfl⟩
def paLN : Nat -> AV -> List AV -> List AV := paLP.1
theorem paLN_eq : paLN = paA.paL := paLP.2.symm
def paHP : {g : Nat -> AV -> Heap -> Heap // paH = g} := ⟨_, by delta paH; rfl⟩
def paHN : Nat -> AV -> Heap -> Heap := paHP.1
theorem paHN_eq : paHN = paH := paHP.2.symm
def giveKn (lo : Nat) : List (Nat × TypeId × Nat) -> List AV -> Heap -> (List AV -> Heap -> VC) -> VC
 | [], fr, hp, K => K fr hp
 | (t, x, c) :: r, fr, hp, K => (match Nat.beq c 0 with
  | false => (match refAt fr hp t (c / 64) with
    | some j => rowsKn lo x c j fr hp fun fr hp => giveKn lo r fr hp K
    | none => nilCKn t x c fr hp fun hp => giveKn lo r fr hp K)
  | true => (match getL fr t with
   | .own j _ => (match getB hp j with
     | .cells _ l => (match ownIn.ownInL l, Nat.ble lo j with
       | false, true => forceLD (giLN j l fr) fun fr' => forceHN (setB (giHN j l hp) j .dead) fun hp' => giveKn lo r fr' hp' K
       | _, _ => .fail)
     | _ => .fail)
   | .row j => (match getB hp j with
     | .row _ sz n el => (match Nat.ble lo j with
       | true => forceLD (mapR.mapRL (at1 j (.slc n sz el)) fr) fun fr' => forceHN (setB (mapH (at1 j (.slc n sz el)) hp) j .dead) fun hp' => giveKn lo r fr' hp' K
       | false => .fail)
     | _ => .fail)
   | .elt j _ _ _ => (match getB hp j with
     | .mat _ w (.lit 1) f => (match Nat.ble lo j with
       | true => forceLD (paLN j (.pa w 1 (fun k => [f 0 k])) fr) fun fr' => forceHN (setB (paHN j (.pa w 1 (fun k => [f 0 k])) hp) j .dead) fun hp' => giveKn lo r fr' hp' K
       | false => .fail)
     | _ => .fail)
   | _ => .fail))
theorem giveKn_eq (lo : Nat) : ∀ (l : List (Nat × TypeId × Nat)) (fr : List AV) (hp : Heap) (K : List AV -> Heap -> VC), giveKn lo l fr hp K = giveK lo l fr hp K
 | [], _, _, _ => rfl
 | (t, _, _) :: r, fr, hp, K => by
   unfold giveKn giveK
   simp only [giLN_eq, giHN_eq, paLN_eq, paHN_eq, forceHN_eq, rowsKn_eq, nilCKn_eq, giveKn_eq lo r]
   rfl
def giveIT (I : Anns) (lo id : Nat) (fr : FT) (hp : Heap) (K : FT -> Heap -> VC) : VC := match findS I (id + 2097152) with
 | none => K fr hp
 | some (l, _) => flatTKN fr fun fr => giveKn lo l fr hp fun fr hp => toTKN 64 fr fun t => K t hp
def runAnyT (P : Program) (S : Sums) (all : List Oper) : Nat -> List Nat -> FT -> Heap -> (FT -> Heap -> VC) -> VC
 | 0, _, _, _, _ => .fail
 | f + 1, D, fr, hp, K => (match fixGo P all D (getT fr) all.length with
   | some (i, o, ps, a) => needs ps (forceD a fun a => setKT fr o.dst a fun fr' => runAnyT P S all f (i :: D) fr' hp K)
   | none => (match spGo all D (getT fr) all.length with
     | some (d, c) => .branch c (setFT fr d (.lb true) fun fr' => runAnyT P S all f D fr' hp K) (setFT fr d (.lb false) fun fr' => runAnyT P S all f D fr' hp K)
     | none => (match rdyL all D all.length with
       | [] => cleanFTN fr fun fr' => K fr' hp
       | i :: l => allOrd (i :: l) fun i => (match all[i]? with
         | some o => (match wantN all (getT fr) o with
           | some true => runOpT P S true none [] o fr hp fun fr' hp' => runAnyT P S all f (i :: D) fr' hp' K
           | _ => .fail)
         | none => .fail))))
def runAnyTP : {g : Program -> Sums -> List Oper -> Nat -> List Nat -> FT -> Heap -> (FT -> Heap -> VC) -> VC // runAnyT = g} := ⟨_, by delta runAnyT; rfl⟩
def runAnyTN : Program -> Sums -> List Oper -> Nat -> List Nat -> FT -> Heap -> (FT -> Heap -> VC) -> VC := runAnyTP.1
theorem runAnyTN_eq : runAnyTN = runAnyT := runAnyTP.2.symm
def wpAT (P : Program) (S : Sums) (U : Nat) (I : Anns) : Code -> FT -> Heap -> (AE -> FT -> Heap -> VC) -> VC
 | .skip, fr, hp, Q => Q .normal fr hp
 | .region id ops dr, fr, hp, Q => giveIT I S.lo id fr hp fun fr hp => (match dr with
   | true => (match findS I (id + 4194304) with
     | some _ => (match ops.toList.all fun o => !(isSelO o.op) with
       | true => runAnyTN P S ops.toList (2 * ops.toList.length + 1) [] fr hp (Q .normal)
       | false => .fail)
     | none => (match swGo ops.toList 0 ops.toList with
       | none => (match needP S ops.toList with
         | true => runPreT P S ops.toList fr hp (Q .normal)
         | false => (match needH S ops.toList with
           | false => runOpsTN P S true ops.toList none 0 ops.toList [] fr hp (Q .normal)
           | true => runMvTN ops.toList fr fun fr' => runOpsTN P S true (hoist ops.toList) none (lenO (mvOps ops.toList)) (restO ops.toList (lenO (mvOps ops.toList)) ops.toList) [] fr' hp (Q .normal)))
       | some z => (match Nat.blt z.d (flatT fr).length with
         | true => setFT fr z.d .top fun fr' => runSwTN P S z (finB ops.toList) 0 (swOps ops.toList z) fr' hp (Q .normal)
         | false => .fail)))
   | false => (match nilCmpT P ops.toList fr with
     | some (s, a, b, n) => nilVCT s a b n fr hp (Q .normal)
     | none => (match cpyPT P ops.toList fr hp with
       | some z => cpyVCT z fr hp (Q .normal)
       | none => runOpsTN P S false ops.toList none 0 ops.toList [] fr hp (Q .normal))))
 | .seq a b, fr, hp, Q => (match findS I (cutK b) with
   | none => wpAT P S U I a fr hp fun e fr' hp' => match e with
     | .normal => wpAT P S U I b fr' hp' Q
     | e => Q e fr' hp'
   | some (_, ann) => flatTKN fr fun fr0 =>
     let A := ann fr0 hp
     .loop (A := A) A.dat (wpAT P S U I a fr hp fun e fr' hp' => match e with
      | .normal => flatTKN fr' fun fr' => exKn S.lo A none fr' hp'
      | e => Q e fr' hp') fun g => forceL (A.st g).fr fun fr => forceHN (A.st g).hp fun hp => toTKN 64 fr fun t => wpAT P S U I b t hp Q)
 | .cond c t e, fr, hp, Q => (match c with
   | .tmp d => branchKT fr d fun b fr => (match b with | true => wpAT P S U I t fr hp Q | false => wpAT P S U I e fr hp Q)
   | .const (.bool true) => wpAT P S U I t fr hp Q
   | .const (.bool false) => wpAT P S U I e fr hp Q
   | _ => .fail)
 | .block id c, fr, hp, Q => wpAT P S U I c fr hp fun e fr' hp' => match e with
   | .exit j => (match Nat.beq id j with | true => Q .normal fr' hp' | false => Q (.exit j) fr' hp')
   | e => Q e fr' hp'
 | .loop c, fr, hp, Q => (match findS I (firstRegion c) with
   | none => iterLTN (wpAT P S U I c) U fr hp Q
   | some (nils, ann) => flatTKN fr fun fr => nilKnN nils fr hp fun fr hp =>
     let A := ann fr hp
     .loop (A := A) A.dat (exKn S.lo A none fr hp) fun g => forceL (A.st g).fr fun fr => forceHN (A.st g).hp fun hp => toTKN 64 fr fun t => wpAT P S U I c t hp fun e t' hp' => match e with
      | .normal => flatTKN t' fun fr' => exKn S.lo A (some (A.mu g)) fr' hp'
      | e => Q e t' hp')
 | .rangeFunc g ps assign body, fr, hp, Q => callItT S g fr hp fun x cap => (match findS I (keyR assign body) with
   | none => .fail
   | some (nils, ann) => flatTKN fr fun fr => nilKnN nils fr hp fun fr hp =>
     let A := ann fr hp
     .loop (A := A) A.dat (exRn S.lo A 0 fr hp) fun g => forceL (A.st g).fr fun fr => forceHN (A.st g).hp fun hp => capK cap fr hp (
      .branch (nlt (A.mu g) x.n)
       (capI cap (x.it (A.mu g)) (setPsN ps.toList (x.it (A.mu g)) fr fun fr1 => toTKN 64 fr1 fun t1 => wpAT P S U I assign t1 hp fun e t2 hp2 => match e with
        | .normal => wpAT P S U I body t2 hp2 fun e t3 hp3 => flatTKN t3 fun fr3 => topMN (Nat.lor (mskP ps.toList) (Nat.lor (mskC assign) (mskC body))) fr3 0 fun fr4 => match e with
          | .normal => exRn S.lo A (nadd (A.mu g) 1) fr4 hp3
          | e => toTKN 64 fr4 fun t4 => Q e t4 hp3
        | _ => .fail))
       (toTKN 64 fr fun t => Q .normal t hp)))
 | .exit id, fr, hp, Q => Q (.exit id) fr hp
 | .ret, fr, hp, Q => Q .ret fr hp
 | _, _, _, _ => .fail
def wpATP : {g : Program -> Sums -> Nat -> Anns -> Code -> FT -> Heap -> (AE -> FT -> Heap -> VC) -> VC // wpAT = g} := ⟨_, by delta wpAT; rfl⟩
def wpATN : Program -> Sums -> Nat -> Anns -> Code -> FT -> Heap -> (AE -> FT -> Heap -> VC) -> VC := wpATP.1
theorem wpATN_eq : wpATN = wpAT := wpATP.2.symm
def resKT (P : Program) (fr : FT) (hp : Heap) : List ResultVar -> (List AV -> VC) -> VC
 | [], k => k []
 | .tmp t :: l, k => resKT P fr hp l fun m => k (getT fr t :: m)
 | .cell a ty :: l, k => (match loadA P hp ty (getT fr a) with | .val x => resKT P fr hp l fun m => k (x :: m) | _ => .fail)
def resKTP : {g : Program -> FT -> Heap -> List ResultVar -> (List AV -> VC) -> VC // resKT = g} := ⟨_, by delta resKT; rfl⟩
def resKTN : Program -> FT -> Heap -> List ResultVar -> (List AV -> VC) -> VC := resKTP.1
theorem resKTN_eq : resKTN = resKT := resKTP.2.symm
def wpFT (P : Program) (S : Sums) (U : Nat) (I : Anns) (fn : Func) (args : List AV) (hp : Heap) : VC :=
 match fn.body with
 | some c => forceL (padL args fn.ntmps) fun fr => toTKN 64 fr fun t => wpATN P S U I c t hp fun e t hp => match e with
   | .exit _ => .fail
   | _ => resKTN P t hp fn.results.toList fun l => outK l hp
 | none => .fail
section
variable {R : AV -> Heap -> Prop} {P : Program} {S : Sums}
theorem runMvT_sat {K : List AV -> VC} {KT : FT -> VC} (hK : ∀ t, WT t -> (KT t).sat R -> (K (flatT t)).sat R) : ∀ {l : List Oper} {t : FT}, WT t -> (runMvT l t KT).sat R -> (runMv l (flatT t) K).sat R
 | [], t, hw, h => hK t hw h
 | o :: l, t, hw, h => by
   simp only [runMvT, runMv] at h ⊢
   cases hm : mvX o with
   | none => rw [hm] at h; exact runMvT_sat hK hw h
   | some x =>
     rw [hm] at h
     dsimp only at h ⊢
     rw [evT_eq hw] at h
     simp only [forceD_eq] at h ⊢
     exact setKT_mono (K := fun fr' => runMv l fr' K) (fun t' hw' => runMvT_sat hK hw') hw h
theorem setFT_mono {t : FT} {d : Nat} {a : AV} {K : List AV -> VC} {KT : FT -> VC} (hK : ∀ t, WT t -> (KT t).sat R -> (K (flatT t)).sat R) (hw : WT t) (h : (setFT t d a KT).sat R) : (setF (flatT t) d a K).sat R := by
 obtain ⟨t', h1, h2, h3⟩ := setFT_sat hw h
 rw [setF_eq, <- h2]
 exact hK _ h1 h3
theorem runSwT_sat {z : Sw} {fb : Bool} {K : List AV -> Heap -> VC} {KT : FT -> Heap -> VC} (hK : ∀ t hp, WT t -> (KT t hp).sat R -> (K (flatT t) hp).sat R) : ∀ {l : List Oper} {n : Nat} {t : FT} {hp : Heap}, WT t -> (runSwT P S z fb n l t hp KT).sat R -> (runSw P S z fb n l (flatT t) hp K).sat R
 | [], n, t, hp, hw, h => by
   simp only [runSwT, runSw, cleanFTN_eq, forceMTN_eq, forceHN_eq, hpLenK_eq] at h ⊢
   exact cleanFT_mono hK hw h
 | o :: l, n, t, hp, hw, h => by
   simp only [runSwT, runSw, cleanFTN_eq, forceMTN_eq, forceHN_eq, hpLenK_eq] at h ⊢
   cases h1 : Nat.beq n z.a with
   | true =>
     rw [h1] at h
     dsimp only at h ⊢
     cases h2 : zeroL P z.t with
     | none => rw [h2] at h; exact h.elim
     | some x => rw [h2] at h; exact runSwT_sat hK hw h
   | false =>
     rw [h1] at h
     cases h2 : Nat.beq n z.s with
     | true =>
       rw [h2] at h
       dsimp only at h ⊢
       simp only [forceMT_eq hw] at h
       rw [forceM_eq] at h ⊢
       simp only [forceL_eq] at h ⊢
       split at h
       ·rename_i e
        try rw [e]
        try dsimp only at h ⊢
        simp only [forceH_eq] at h ⊢
        exact setFT_mono (K := fun fr' => runSw P S z fb (n + 1) l fr' _ K) (fun t' hw' => runSwT_sat hK hw') hw h
       ·exact h.elim
     | false =>
       rw [h2] at h
       dsimp only at h ⊢
       exact runOpT_sat (K := fun fr' hp' => runSw P S z fb (n + 1) l fr' hp' K) (fun t' hp' hw' => runSwT_sat hK hw') hw h
theorem nilCmpT_eq (ops : List Oper) (t : FT) : nilCmpT P ops t = nilCmp P ops (flatT t) := by
 unfold nilCmpT
 split
 ·rename_i o1 o2
  split
  ·rfl
  ·rename_i e
   unfold nilCmp
   simp only [e]
 ·rename_i h
  unfold nilCmp
  split
  ·rename_i o1 o2; exact (h _ _ rfl).elim
  ·rfl
theorem capK_mono {c : Option (Nat × Nat × List AV)} {fr : List AV} {hp : Heap} {X Y : VC} (h : X.sat R -> Y.sat R) : (capK c fr hp X).sat R -> (capK c fr hp Y).sat R := by
 unfold capK
 cases c with
 | none => exact h
 | some x => exact fun hh => ⟨hh.1, fun g hg => h (hh.2 g hg)⟩
theorem capI_mono {c : Option (Nat × Nat × List AV)} {its : List AV} {X Y : VC} (h : X.sat R -> Y.sat R) : (capI c its X).sat R -> (capI c its Y).sat R := by
 unfold capI
 cases c with
 | none => exact h
 | some x => exact fun hh => ⟨hh.1, h hh.2⟩
theorem itSel_mono {d gf : Nat} {hp : Heap} {caps : List AV} {k1 k2 : Iter -> List AV -> Option (Nat × Nat × List AV) -> VC} (h : ∀ it cv cap, (k1 it cv cap).sat R -> (k2 it cv cap).sat R) : (itSel S d gf hp caps k1).sat R -> (itSel S d gf hp caps k2).sat R := by
 unfold itSel
 split
 ·split
  ·exact h _ _ _
  ·exact id
 ·split
  ·rw [forceLD_eq, forceLD_eq]; exact h _ _ _
  ·exact id
theorem cpyPT_eq (ops : List Oper) (t : FT) (hp : Heap) : cpyPT P ops t hp = cpyP P ops (flatT t) hp := by
 unfold cpyPT
 cases h : cpyO ops with
 | some x => rfl
 | none => unfold cpyP; rw [h]
theorem toTK_sat : ∀ {f : Nat} {l : List AV} {k : FT -> VC}, (toTK f l k).sat R -> ∃ t, WT t /\ (t = [] ↔ l = []) /\ flatT t = l /\ (k t).sat R
 | 0, l, k, h => h.elim
 | f + 1, l, k, h => by
   simp only [toTK] at h
   split at h
   ·exact ⟨[], trivial, by simp, rfl, h⟩
   ·rename_i hne
    simp only [forceL_eq] at h
    obtain ⟨t, h1, h2, h3, h4⟩ := toTK_sat h
    have hl : l ≠ [] := hne
    refine ⟨takeL l 16 :: t, ⟨⟨by rw [takeL_eq]; simp; omega, fun ht => ?_⟩, h1⟩, by simp [hl], ?_, h4⟩
    ·have : dropL l 16 ≠ [] := fun e => ht (h2.2 e)
     rw [dropL_eq] at this
     rw [takeL_eq, List.length_take]
     have h5 : ¬ l.length <= 16 := fun hle => this (List.drop_eq_nil_of_le hle)
     omega
    ·show takeL l 16 ++ flatT t = l
     rw [h3, takeL_eq, dropL_eq, List.take_append_drop]
theorem appK_eq : ∀ (l r : List AV) (k : List AV -> VC), appK l r k = k (l ++ r)
 | [], _, _ => rfl
 | a :: l, r, k => by simp [appK, appK_eq l r]
theorem flatTK_eq : ∀ (t : FT) (k : List AV -> VC), flatTK t k = k (flatT t)
 | [], _ => rfl
 | c :: t, k => by simp [flatTK, flatTK_eq t, appKN_eq, appK_eq, flatT]
theorem nilCK_mono {t x c : Nat} {fr : List AV} {hp : Heap} {K K' : Heap -> VC} (hK : ∀ hp, (K hp).sat R -> (K' hp).sat R) (h : (nilCK t x c fr hp K).sat R) : (nilCK t x c fr hp K').sat R := by
 unfold nilCK at h ⊢
 split at h
 ·rename_i i o hg hc
  try rw [hg, hc]
  try simp only
  split at h
  ·rename_i ty l hb
   try rw [hb]
   try simp only
   split at h
   ·rename_i hn
    try rw [hn]
    simp only [forceL_eq, forceH_eq] at h ⊢
    exact hK _ h
   ·exact h.elim
  ·exact h.elim
 ·exact h.elim
theorem nilK_mono {k1 k2 : List AV -> Heap -> VC} (hk : ∀ fr hp, (k1 fr hp).sat R -> (k2 fr hp).sat R) : ∀ {l : List (Nat × TypeId × Nat)} {fr : List AV} {hp : Heap}, (nilK l fr hp k1).sat R -> (nilK l fr hp k2).sat R
 | [], fr, hp, h => hk _ _ h
 | (t, e, sz) :: l, fr, hp, h => by
   simp only [nilK] at h ⊢
   split at h
   ·rename_i e1
    try rw [e1]
    try dsimp only at h ⊢
    rw [setF_eq] at h ⊢
    rw [forceH_eq] at h ⊢
    exact nilK_mono hk h
   ·exact nilCK_mono (fun _ h => nilK_mono hk h) h
   ·exact nilK_mono hk h
theorem setPs_mono {k1 k2 : List AV -> VC} (hk : ∀ fr, (k1 fr).sat R -> (k2 fr).sat R) : ∀ {ps : List Nat} {as fr : List AV}, (setPs ps as fr k1).sat R -> (setPs ps as fr k2).sat R
 | [], [], fr, h => by simp only [setPs] at h ⊢; exact hk _ h
 | p :: ps, a :: as, fr, h => by
   simp only [setPs, forceD_eq, setF_eq] at h ⊢
   exact setPs_mono hk h
 | [], _ :: _, fr, h => by simp only [setPs] at h; exact h.elim
 | _ :: _, [], fr, h => by simp only [setPs] at h; exact h.elim
theorem topM_mono {m : Nat} {k1 k2 : List AV -> VC} (hk : ∀ fr, (k1 fr).sat R -> (k2 fr).sat R) {l : List AV} {n : Nat} (h : (topM m l n k1).sat R) : (topM m l n k2).sat R := by
 induction l generalizing n k1 k2 with
 | nil => exact hk _ h
 | cons a l ih =>
   simp only [topM] at h ⊢
   cases hb : Nat.testBit m n with
   | true => rw [hb] at h; exact ih (fun fr hh => hk _ hh) h
   | false => rw [hb] at h; exact ih (fun fr hh => hk _ hh) h
theorem iterLT_sat {run : List AV -> Heap -> (AE -> List AV -> Heap -> VC) -> VC} {runT : FT -> Heap -> (AE -> FT -> Heap -> VC) -> VC}
  (hrun : ∀ {Q : AE -> List AV -> Heap -> VC} {QT : AE -> FT -> Heap -> VC}, (∀ e t hp, WT t -> (QT e t hp).sat R -> (Q e (flatT t) hp).sat R) -> ∀ {t hp}, WT t -> (runT t hp QT).sat R -> (run (flatT t) hp Q).sat R)
  {Q : AE -> List AV -> Heap -> VC} {QT : AE -> FT -> Heap -> VC} (hQ : ∀ e t hp, WT t -> (QT e t hp).sat R -> (Q e (flatT t) hp).sat R) : ∀ {n : Nat} {t : FT} {hp : Heap}, WT t -> (iterLT runT n t hp QT).sat R -> (iterL run n (flatT t) hp Q).sat R
 | 0, t, hp, hw, h => h.elim
 | n + 1, t, hp, hw, h => by
   simp only [iterLT, iterL] at h ⊢
   refine hrun (fun e t' hp' hw' hh => ?_) hw h
   cases e with
   | normal => exact iterLT_sat hrun hQ hw' hh
   | exit j => exact hQ _ _ _ hw' hh
   | ret => exact hQ _ _ _ hw' hh
theorem gdOKT_eq {t : FT} (hw : WT t) (all : List Oper) (g : Option (Nat × Bool)) : gdOKT all t g = gdOK all (flatT t) g := by
 cases g with
 | none => rfl
 | some x =>
   obtain ⟨g, w⟩ := x
   unfold gdOKT gdOK
   dsimp only
   cases dstOf all g with
   | none => rfl
   | some d => dsimp only; rw [getT_eq hw]; rfl
theorem gdAllT_eq {t : FT} (hw : WT t) (all : List Oper) (fl : List Bool) : ∀ (l : List Oper) (m : List Bool), gdAllT all fl t l m = gdAll all fl (flatT t) l m
 | [], _ => by cases ‹List Bool› <;> rfl
 | _ :: _, [] => rfl
 | o :: l, b :: m => by
   simp only [gdAllT, gdAll, gdOKT_eq hw, gdAllT_eq hw all fl l m]
   rfl
theorem preKT_sat {all : List Oper} {K : List AV -> VC} {KT : FT -> VC} (hK : ∀ t, WT t -> (KT t).sat R -> (K (flatT t)).sat R) : ∀ {l : List Oper} {m : List Bool} {t : FT}, WT t -> (preKT P all l m t KT).sat R -> (preK P all l m (flatT t) K).sat R
 | [], m, t, hw, h => by cases m <;> exact hK t hw h
 | _ :: _, [], t, hw, h => hK t hw h
 | o :: l, b :: m, t, hw, h => by
   simp only [preKT, preK] at h ⊢
   cases b with
   | false => exact preKT_sat hK hw h
   | true =>
     dsimp only at h ⊢
     rw [gdOKT_eq hw] at h
     cases hg : gdOK all (flatT t) o.guard with
     | false => rw [hg] at h; exact h.elim
     | true =>
       rw [hg] at h
       dsimp only at h ⊢
       rw [forceMTN_eq, forceMT_eq hw] at h
       rw [forceM_eq] at h ⊢
       split at h
       ·exact h.elim
       ·rename_i ps a e
        rw [e]
        dsimp only at h ⊢
        rw [needsN_eq] at h
        refine needs_mono (fun h => ?_) h
        simp only [forceD_eq] at h ⊢
        exact setKT_mono (K := fun fr' => preK P all l m fr' K) (fun t' hw' => preKT_sat hK hw') hw h
theorem runPreT_sat {all : List Oper} {hp : Heap} {K : List AV -> Heap -> VC} {KT : FT -> Heap -> VC} (hK : ∀ t hp, WT t -> (KT t hp).sat R -> (K (flatT t) hp).sat R) {t : FT} (hw : WT t) (h : (runPreT P S all t hp KT).sat R) : (runPre P S all (flatT t) hp K).sat R := by
 unfold runPreT at h
 unfold runPre
 rw [preKTN_eq, runOpsTN_eq] at h
 refine preKT_sat (fun t' hw' hh => ?_) hw h
 rw [gdAllT_eq hw'] at hh
 split at hh
 ·rename_i e
  rw [e]
  exact runOpsT_sat hK _ _ _ _ _ _ hw' hh
 ·exact hh.elim
theorem rowsK_mono {lo x c j : Nat} {fr : List AV} {hp : Heap} {K K' : List AV -> Heap -> VC} (hK : ∀ fr hp, (K fr hp).sat R -> (K' fr hp).sat R) (h : (rowsK lo x c j fr hp K).sat R) : (rowsK lo x c j fr hp K').sat R := by
 have clo : ∀ stay, (closeK lo stay j fr hp K).sat R -> (closeK lo stay j fr hp K').sat R := fun stay h => by
  unfold closeK at h ⊢
  split at h
  ·rename_i hb
   try rw [hb]
   try simp only
   split at h
   ·rename_i hb2
    try rw [hb2]
    try simp only
    split at h
    ·rename_i hd
     try rw [hd]
     simp only [forceLD_eq, forceH_eq] at h ⊢
     exact hK _ _ h
    ·exact h.elim
   ·exact h.elim
  ·exact h.elim
 unfold rowsK at h ⊢
 generalize c % 64 = q at h ⊢
 match q, h with
 | 1, h =>
   change (openK _ _ _ _ _).sat R at h
   show (openK _ _ _ _ _).sat R
   unfold openK at h ⊢
   split at h
   ·rename_i hb hx
    try rw [hb, hx]
    simp only [forceH_eq] at h ⊢
    exact ⟨h.1, h.2.1, hK _ _ h.2.2⟩
   ·exact h.elim
 | 2, h => exact clo _ h
 | 3, h => exact clo _ h
 | 4, h =>
   change (restK _ _ _ _ _).sat R at h
   show (restK _ _ _ _ _).sat R
   unfold restK at h ⊢
   split at h
   ·rename_i hb
    try rw [hb]
    try simp only
    split at h
    ·rename_i hd
     try rw [hd]
     simp only [forceH_eq] at h ⊢
     exact hK _ _ h
    ·exact h.elim
   ·exact h.elim
 | 0, h => exact h.elim
 | 6, h =>
   change (frzK _ _ _ _ _).sat R at h
   show (frzK _ _ _ _ _).sat R
   unfold frzK at h ⊢
   split at h
   ·rename_i hb
    try rw [hb]
    try simp only
    split at h
    ·rename_i hd
     try rw [hd]
     simp only [forceLD_eq, forceH_eq] at h ⊢
     exact hK _ _ h
    ·exact h.elim
   ·exact h.elim
 | 7, h =>
   change (nilsK _ _ _ _ _).sat R at h
   show (nilsK _ _ _ _ _).sat R
   unfold nilsK at h ⊢
   split at h
   ·rename_i hb
    try rw [hb]
    simp only [forceH_eq] at h ⊢
    exact ⟨h.1, hK _ _ h.2⟩
   ·exact h.elim
 | 5, h => exact h.elim
 | n + 8, h =>
   simp only at h ⊢
   split at h
   ·rename_i hd
    try rw [hd]
    try simp only
    unfold toRowsK at h ⊢
    split at h
    ·rename_i hb hs
     try rw [hb, hs]
     simp only [forceH_eq] at h ⊢
     exact ⟨h.1, hK _ _ h.2⟩
    ·exact h.elim
   ·exact h.elim
theorem giveK_mono {lo : Nat} {K K' : List AV -> Heap -> VC} (hK : ∀ fr hp, (K fr hp).sat R -> (K' fr hp).sat R) : ∀ {l : List (Nat × TypeId × Nat)} {fr : List AV} {hp : Heap}, (giveK lo l fr hp K).sat R -> (giveK lo l fr hp K').sat R
 | [], fr, hp, h => hK _ _ h
 | (t, x, c) :: l, fr, hp, h => by
   unfold giveK at h ⊢
   split at h
   ·rename_i hc
    try rw [hc]
    try simp only
    split at h
    ·rename_i hr
     try rw [hr]
     exact rowsK_mono (fun _ _ h => giveK_mono hK h) h
    ·rename_i hr
     try rw [hr]
     exact nilCK_mono (fun _ h => giveK_mono hK h) h
   ·rename_i hc
    try rw [hc]
    try simp only
    split at h
    ·rename_i hg
     try rw [hg]
     try simp only
     split at h
     ·rename_i hb
      try rw [hb]
      try simp only
      split at h
      ·rename_i hn hj
       try rw [hn, hj]
       simp only [forceLD_eq, forceH_eq] at h ⊢
       exact giveK_mono hK h
      ·exact h.elim
     ·exact h.elim
    ·rename_i hg
     try rw [hg]
     try simp only
     split at h
     ·rename_i hb
      try rw [hb]
      try simp only
      split at h
      ·rename_i hj
       try rw [hj]
       simp only [forceLD_eq, forceH_eq] at h ⊢
       exact giveK_mono hK h
      ·exact h.elim
     ·exact h.elim
    ·rename_i hg
     try rw [hg]
     try simp only
     split at h
     ·rename_i hb
      try rw [hb]
      try simp only
      split at h
      ·rename_i hj
       try rw [hj]
       simp only [forceLD_eq, forceH_eq] at h ⊢
       exact giveK_mono hK h
      ·exact h.elim
     ·exact h.elim
    ·exact h.elim
theorem giveIT_sat {I : Anns} {lo id : Nat} {K : List AV -> Heap -> VC} {KT : FT -> Heap -> VC} (hK : ∀ t hp, WT t -> (KT t hp).sat R -> (K (flatT t) hp).sat R) {t : FT} {hp : Heap} (hw : WT t) (h : (giveIT I lo id t hp KT).sat R) : (giveI I lo id (flatT t) hp K).sat R := by
 unfold giveIT at h
 unfold giveI
 cases hf : findS I (id + 2097152) with
 | none => rw [hf] at h; exact hK _ _ hw h
 | some x =>
   obtain ⟨l, a⟩ := x
   rw [hf] at h
   simp only [flatTKN_eq, flatTK_eq, giveKn_eq, toTKN_eq] at h ⊢
   refine giveK_mono (fun fr hp h => ?_) h
   obtain ⟨t', h1, _, h3, h4⟩ := toTK_sat h
   have := hK _ _ h1 h4
   rwa [h3] at this
theorem allOrd_mono {k kT : Nat -> VC} (hk : ∀ i, (kT i).sat R -> (k i).sat R) : ∀ {l : List Nat}, (allOrd l kT).sat R -> (allOrd l k).sat R
 | [], h => h
 | i :: l, h => by
   unfold allOrd at h ⊢
   exact ⟨hk i h.1, fun g hg => allOrd_mono hk (h.2 g hg)⟩
theorem runAnyT_sat {all : List Oper} {K : List AV -> Heap -> VC} {KT : FT -> Heap -> VC} (hK : ∀ t hp, WT t -> (KT t hp).sat R -> (K (flatT t) hp).sat R) : ∀ {f : Nat} {D : List Nat} {t : FT} {hp : Heap}, WT t -> (runAnyT P S all f D t hp KT).sat R -> (runAny P S all f D (flatT t) hp K).sat R
 | 0, D, t, hp, hw, h => h.elim
 | f + 1, D, t, hp, hw, h => by
   simp only [runAnyT, runAny, cleanFTN_eq] at h ⊢
   rw [show getT t = getL (flatT t) from funext fun i => getT_eq hw i] at h
   split at h
   ·rename_i i o ps a e
    simp only [e]
    simp only [forceD_eq] at h
    refine needs_mono (fun h => ?_) h
    exact setKT_mono (K := fun fr' => runAny P S all f (i :: D) fr' hp K) (fun t' hw' => runAnyT_sat hK hw') hw h
   ·rename_i e
    simp only [e]
    split at h
    ·rename_i d c e2
     simp only [e2]
     exact ⟨fun hc => setFT_mono (K := fun fr' => runAny P S all f D fr' hp K) (fun t' hw' => runAnyT_sat hK hw') hw (h.1 hc), fun hc => setFT_mono (K := fun fr' => runAny P S all f D fr' hp K) (fun t' hw' => runAnyT_sat hK hw') hw (h.2 hc)⟩
    ·rename_i e1
     simp only [e1]
     split at h
     ·rename_i e2
      simp only [e2]
      exact cleanFT_mono hK hw h
     ·rename_i i0 l0 e2
      simp only [e2]
      refine allOrd_mono (fun i hh => ?_) h
      split at hh
      ·rename_i o e3
       split at hh
       ·rename_i e4
        simp only [e3, e4]
        exact runOpT_sat (K := fun fr' hp' => runAny P S all f (i :: D) fr' hp' K) (fun t' hp' hw' => runAnyT_sat hK hw') hw hh
       ·exact hh.elim
      ·exact hh.elim
theorem wpAT_sat {U : Nat} {I : Anns} : ∀ (c : Code) {Q : AE -> List AV -> Heap -> VC} {QT : AE -> FT -> Heap -> VC}, (∀ e t hp, WT t -> (QT e t hp).sat R -> (Q e (flatT t) hp).sat R) ->
  ∀ {t : FT} {hp : Heap}, WT t -> (wpAT P S U I c t hp QT).sat R -> (wpA P S U I c (flatT t) hp Q).sat R
 | .skip, Q, QT, hQ, t, hp, hw, h => by simp only [wpAT, wpA] at h ⊢; exact hQ _ _ _ hw h
 | .region id ops dr, Q, QT, hQ, t, hp, hw, h => by
   simp only [wpAT, wpA, runOpsTN_eq, runMvTN_eq, runSwTN_eq, iterLTN_eq, flatTKN_eq, nilKnN_eq, nilKn_eq, exKn_eq, exRn_eq, toTKN_eq, forceHN_eq, setPsN_eq, topMN_eq, runAnyTN_eq] at h ⊢
   refine giveIT_sat (fun t hp hw h => ?_) hw h
   cases dr with
   | true =>
     dsimp only at h ⊢
     cases h0 : findS I (id + 4194304) with
     | some x =>
       rw [h0] at h
       dsimp only at h ⊢
       split at h
       ·rename_i e
        simp only [e]
        exact runAnyT_sat (hQ .normal) hw h
       ·exact h.elim
     | none =>
     rw [h0] at h
     dsimp only at h ⊢
     cases h1 : swGo ops.toList 0 ops.toList with
     | none =>
       rw [h1] at h
       dsimp only at h ⊢
       cases h3 : needP S ops.toList with
       | true => rw [h3] at h; exact runPreT_sat (hQ .normal) hw h
       | false =>
         rw [h3] at h
         dsimp only at h ⊢
         cases h2 : needH S ops.toList with
         | false => rw [h2] at h; exact runOpsT_sat (hQ .normal) _ _ _ _ _ _ hw h
         | true =>
           rw [h2] at h
           exact runMvT_sat (fun t' hw' hh => runOpsT_sat (hQ .normal) _ _ _ _ _ _ hw' hh) hw h
     | some z =>
       rw [h1] at h
       dsimp only at h ⊢
       cases h2 : Nat.blt z.d (flatT t).length with
       | false => rw [h2] at h; exact h.elim
       | true =>
         rw [h2] at h
         exact setFT_mono (fun t' hw' hh => runSwT_sat (hQ .normal) hw' hh) hw h
   | false =>
     dsimp only at h ⊢
     rw [nilCmpT_eq] at h
     cases h1 : nilCmp P ops.toList (flatT t) with
     | none =>
       rw [h1] at h
       dsimp only at h ⊢
       rw [cpyPT_eq] at h
       cases h2 : cpyP P ops.toList (flatT t) hp with
       | none => rw [h2] at h; exact runOpsT_sat (hQ .normal) _ _ _ _ _ _ hw h
       | some z =>
         rw [h2] at h
         dsimp only at h ⊢
         unfold cpyVCT at h
         unfold cpyVC
         rw [getT_eq hw] at h
         rw [forceH_eq] at h ⊢
         exact setFT_mono (K := fun f => setF f z.d2 .top fun f => setF f z.d3 (getL (flatT t) z.s) fun f => setF f z.d4 .top fun f => Q .normal f (cpyH z hp)) (fun t1 w1 => setFT_mono (K := fun f => setF f z.d3 (getL (flatT t) z.s) fun f => setF f z.d4 .top fun f => Q .normal f (cpyH z hp)) (fun t2 w2 => setFT_mono (K := fun f => setF f z.d4 .top fun f => Q .normal f (cpyH z hp)) (fun t3 w3 => setFT_mono (K := fun f => Q .normal f (cpyH z hp)) (fun t4 w4 => hQ .normal t4 _ w4) w3) w2) w1) hw h
     | some x =>
       obtain ⟨s, a, b, n⟩ := x
       rw [h1] at h
       dsimp only at h ⊢
       unfold nilVCT at h
       unfold nilVC
       rw [getT_eq hw] at h
       have two : ∀ v : AV, (setFT t a (getL (flatT t) s) fun f => setFT f b v fun f => QT .normal f hp).sat R -> (setF (flatT t) a (getL (flatT t) s) fun f => setF f b v fun f => Q .normal f hp).sat R := fun v hh =>
        setFT_mono (K := fun f => setF f b v fun f => Q .normal f hp) (fun t' hw' h' => setFT_mono (K := fun f => Q .normal f hp) (fun t'' hw'' => hQ .normal t'' hp hw'') hw' h') hw hh
       exact ⟨⟨fun hb => two _ (h.1.1 hb), h.1.2⟩, fun g hg => two _ (h.2 g hg)⟩
 | .seq a b, Q, QT, hQ, t, hp, hw, h => by
   simp only [wpAT, wpA, runOpsTN_eq, runMvTN_eq, runSwTN_eq, iterLTN_eq, flatTKN_eq, nilKnN_eq, nilKn_eq, exKn_eq, exRn_eq, toTKN_eq, forceHN_eq, setPsN_eq, topMN_eq] at h ⊢
   cases hcut : findS I (cutK b) with
   | none =>
     rw [hcut] at h
     dsimp only at h ⊢
     refine wpAT_sat a (fun e t' hp' hw' hh => ?_) hw h
     cases e with
     | normal => exact wpAT_sat b hQ hw' hh
     | exit j => exact hQ _ _ _ hw' hh
     | ret => exact hQ _ _ _ hw' hh
   | some x =>
     obtain ⟨nl, ann⟩ := x
     rw [hcut] at h
     dsimp only at h ⊢
     rw [flatTK_eq] at h
     refine ⟨wpAT_sat a (fun e t' hp' hw' hh => ?_) hw h.1, fun g hg => ?_⟩
     ·cases e with
      | normal =>
        dsimp only at hh ⊢
        rw [flatTK_eq] at hh
        exact hh
      | exit j => exact hQ _ _ _ hw' hh
      | ret => exact hQ _ _ _ hw' hh
     ·have h2 := h.2 g hg
      dsimp only at h2 ⊢
      rw [forceL_eq] at h2 ⊢
      rw [forceH_eq] at h2 ⊢
      obtain ⟨t', h3, _, h4, h5⟩ := toTK_sat h2
      rw [<- h4]
      exact wpAT_sat b hQ h3 h5
 | .cond c a b, Q, QT, hQ, t, hp, hw, h => by
   simp only [wpAT, wpA, runOpsTN_eq, runMvTN_eq, runSwTN_eq, iterLTN_eq, flatTKN_eq, nilKnN_eq, nilKn_eq, exKn_eq, exRn_eq, toTKN_eq, forceHN_eq, setPsN_eq, topMN_eq] at h ⊢
   split at h
   ·try dsimp only at h ⊢
    refine branchKT_sat (fun x t' hw' hh => ?_) hw h
    cases x with
    | true => exact wpAT_sat a hQ hw' hh
    | false => exact wpAT_sat b hQ hw' hh
   ·exact wpAT_sat a hQ hw h
   ·exact wpAT_sat b hQ hw h
   ·exact h.elim
 | .block id c, Q, QT, hQ, t, hp, hw, h => by
   simp only [wpAT, wpA, runOpsTN_eq, runMvTN_eq, runSwTN_eq, iterLTN_eq, flatTKN_eq, nilKnN_eq, nilKn_eq, exKn_eq, exRn_eq, toTKN_eq, forceHN_eq, setPsN_eq, topMN_eq] at h ⊢
   refine wpAT_sat c (fun e t' hp' hw' hh => ?_) hw h
   cases e with
   | normal => exact hQ _ _ _ hw' hh
   | exit j =>
     dsimp only at hh ⊢
     cases hb : Nat.beq id j with
     | true => rw [hb] at hh; exact hQ _ _ _ hw' hh
     | false => rw [hb] at hh; exact hQ _ _ _ hw' hh
   | ret => exact hQ _ _ _ hw' hh
 | .loop c, Q, QT, hQ, t, hp, hw, h => by
   simp only [wpAT, wpA, runOpsTN_eq, runMvTN_eq, runSwTN_eq, iterLTN_eq, flatTKN_eq, nilKnN_eq, nilKn_eq, exKn_eq, exRn_eq, toTKN_eq, forceHN_eq, setPsN_eq, topMN_eq] at h ⊢
   cases h1 : findS I (firstRegion c) with
   | none =>
     rw [h1] at h
     exact iterLT_sat (fun {_ _} hQ' {_ _} hw' hh => wpAT_sat c hQ' hw' hh) hQ hw h
   | some x =>
     obtain ⟨nils, ann⟩ := x
     rw [h1] at h
     dsimp only at h ⊢
     rw [flatTK_eq] at h
     refine nilK_mono (fun fr hp' hh => ?_) h
     refine ⟨hh.1, fun g hg => ?_⟩
     have h2 := hh.2 g hg
     dsimp only at h2 ⊢
     rw [forceL_eq] at h2 ⊢
     rw [forceH_eq] at h2 ⊢
     obtain ⟨t', h3, _, h4, h5⟩ := toTK_sat h2
     rw [<- h4]
     refine wpAT_sat c (fun e t'' hp'' hw'' h6 => ?_) h3 h5
     cases e with
     | normal =>
       dsimp only at h6 ⊢
       rw [flatTK_eq] at h6
       exact h6
     | exit j => exact hQ _ _ _ hw'' h6
     | ret => exact hQ _ _ _ hw'' h6
 | .rangeFunc g ps assign body, Q, QT, hQ, t, hp, hw, h => by
   simp only [wpAT, wpA, runOpsTN_eq, runMvTN_eq, runSwTN_eq, iterLTN_eq, flatTKN_eq, nilKnN_eq, nilKn_eq, exKn_eq, exRn_eq, toTKN_eq, forceHN_eq, setPsN_eq, topMN_eq] at h ⊢
   have key : ∀ (x : Items) (cap : Option (Nat × Nat × List AV)), ((match findS I (keyR assign body) with
     | none => VC.fail
     | some (nils, ann) => flatTK t fun fr => nilK nils fr hp fun fr hp =>
       let A := ann fr hp
       .loop (A := A) A.dat (exR S.lo A 0 fr hp) fun g => forceL (A.st g).fr fun fr => forceH (A.st g).hp fun hp => capK cap fr hp (
        .branch (nlt (A.mu g) x.n)
         (capI cap (x.it (A.mu g)) (setPs ps.toList (x.it (A.mu g)) fr fun fr1 => toTK 64 fr1 fun t1 => wpAT P S U I assign t1 hp fun e t2 hp2 => match e with
          | .normal => wpAT P S U I body t2 hp2 fun e t3 hp3 => flatTK t3 fun fr3 => topM (Nat.lor (mskP ps.toList) (Nat.lor (mskC assign) (mskC body))) fr3 0 fun fr4 => match e with
            | .normal => exR S.lo A (nadd (A.mu g) 1) fr4 hp3
            | e => toTK 64 fr4 fun t4 => QT e t4 hp3
          | _ => .fail))
         (toTK 64 fr fun t => QT .normal t hp))) : VC).sat R -> ((match findS I (keyR assign body) with
     | none => VC.fail
     | some (nils, ann) => nilK nils (flatT t) hp fun fr hp =>
       let A := ann fr hp
       .loop (A := A) A.dat (exR S.lo A 0 fr hp) fun g => forceL (A.st g).fr fun fr => forceH (A.st g).hp fun hp => capK cap fr hp (
        .branch (nlt (A.mu g) x.n)
         (capI cap (x.it (A.mu g)) (setPs ps.toList (x.it (A.mu g)) fr fun fr1 => wpA P S U I assign fr1 hp fun e fr2 hp2 => match e with
          | .normal => wpA P S U I body fr2 hp2 fun e fr3 hp3 => topM (Nat.lor (mskP ps.toList) (Nat.lor (mskC assign) (mskC body))) fr3 0 fun fr4 => match e with
            | .normal => exR S.lo A (nadd (A.mu g) 1) fr4 hp3
            | e => Q e fr4 hp3
          | _ => .fail))
         (Q .normal fr hp))) : VC).sat R := fun x cap h => by
    cases h1 : findS I (keyR assign body) with
    | none => rw [h1] at h; exact h.elim
    | some y =>
      obtain ⟨nils, ann⟩ := y
      rw [h1] at h
      dsimp only at h ⊢
      rw [flatTK_eq] at h
      refine nilK_mono (fun fr hp' hh => ?_) h
      refine ⟨hh.1, fun g hg => ?_⟩
      have h2 := hh.2 g hg
      dsimp only at h2 ⊢
      rw [forceL_eq] at h2 ⊢
      rw [forceH_eq] at h2 ⊢
      refine capK_mono (fun h2 => ?_) h2
      refine ⟨fun hb => ?_, fun hb => ?_⟩
      ·refine capI_mono (fun h2 => ?_) (h2.1 hb)
       refine setPs_mono (fun fr1 h3 => ?_) h2
       obtain ⟨t1, g1, _, g2, g3⟩ := toTK_sat h3
       rw [<- g2]
       refine wpAT_sat assign (fun e t2 hp2 hw2 h4 => ?_) g1 g3
       cases e with
       | normal =>
         refine wpAT_sat body (fun e t3 hp3 hw3 h5 => ?_) hw2 h4
         rw [flatTK_eq] at h5
         refine topM_mono (fun fr4 h6 => ?_) h5
         cases e with
         | normal => exact h6
         | exit j =>
           dsimp only at h6 ⊢
           obtain ⟨t4, k1, _, k2, k3⟩ := toTK_sat h6
           rw [<- k2]; exact hQ _ _ _ k1 k3
         | ret =>
           dsimp only at h6 ⊢
           obtain ⟨t4, k1, _, k2, k3⟩ := toTK_sat h6
           rw [<- k2]; exact hQ _ _ _ k1 k3
       | exit j => exact h4.elim
       | ret => exact h4.elim
      ·obtain ⟨t1, g1, _, g2, g3⟩ := toTK_sat (h2.2 hb)
       rw [<- g2]; exact hQ _ _ _ g1 g3
   unfold callItT at h
   simp only [needsN_eq] at h
   unfold callIt
   cases g with
   | tmp d =>
     dsimp only at h ⊢
     rw [getT_eq hw] at h
     split at h
     ·rename_i gf caps e
      rw [e]
      dsimp only at h ⊢
      refine itSel_mono (fun it cv cap h => ?_) h
      split at h
      ·rename_i x e3
       rw [e3]
       exact needs_mono (key x cap) h
      ·exact h.elim
     ·exact h.elim
   | const v => exact h.elim
   | global v => exact h.elim
   | func v => exact h.elim
 | .exit id, Q, QT, hQ, t, hp, hw, h => by simp only [wpAT, wpA] at h ⊢; exact hQ _ _ _ hw h
 | .ret, Q, QT, hQ, t, hp, hw, h => by simp only [wpAT, wpA] at h ⊢; exact hQ _ _ _ hw h
 | .scope _, Q, QT, hQ, t, hp, hw, h => by simp only [wpAT] at h; exact h.elim
theorem resKT_eq {t : FT} (hw : WT t) (hp : Heap) : ∀ (l : List ResultVar) (k : List AV -> VC), resKT P t hp l k = resK P (flatT t) hp l k
 | [], _ => rfl
 | .tmp i :: l, k => by simp only [resKT, resK, resKT_eq hw hp l, getT_eq hw]
 | .cell a ty :: l, k => by
   simp only [resKT, resK, resKT_eq hw hp l, getT_eq hw]
   rfl
theorem wpFT_sat {U : Nat} {I : Anns} {fn : Func} {args : List AV} {hp : Heap} (h : (wpFT P S U I fn args hp).sat R) : (wpF P S U I fn args hp).sat R := by
 unfold wpFT at h
 simp only [toTKN_eq, wpATN_eq, resKTN_eq] at h
 unfold wpF
 cases hb : fn.body with
 | none => rw [hb] at h; exact h.elim
 | some c =>
   rw [hb] at h
   dsimp only at h ⊢
   rw [forceL_eq] at h ⊢
   obtain ⟨t, h1, _, h2, h3⟩ := toTK_sat h
   rw [<- h2]
   refine wpAT_sat c (fun e t' hp' hw' hh => ?_) h1 h3
   cases e with
   | exit j => exact hh.elim
   | normal => dsimp only at hh ⊢; rw [resKT_eq hw'] at hh; exact hh
   | ret => dsimp only at hh ⊢; rw [resKT_eq hw'] at hh; exact hh
end
end
end Abs
end Go.Proofs.Ytdfdjlijghjdaaa

namespace Go.Proofs.Ytdfdjlijghjdaaa
namespace Abs
open Go Go.RowKit
section
variable {P : Program} {S : Sums} {C C' : Cx} {w w' : World} {H hp : Heap}
theorem appP_mem : ∀ {l m : List Cd}, (∀ p ∈ appP l m, p.ok) -> (∀ p ∈ l, p.ok) /\ ∀ p ∈ m, p.ok
 | [], m, h => ⟨fun p hp => by simp at hp, h⟩
 | p :: l, m, h => by
   obtain ⟨h1, h2⟩ := appP_mem (l := l) (m := m) fun q hq => h q (List.mem_cons_of_mem _ hq)
   exact ⟨fun q hq => by
    rcases List.mem_cons.1 hq with rfl | hq
    ·exact h _ (List.mem_cons_self ..)
    ·exact h1 q hq, h2⟩
theorem enc_okC : ∀ {s : Sh} {x : Dat s}, cellSh s = true -> okC (enc s x) = true
 | .int k, x, _ => by simp [enc, okC]
 | .bool, x, _ => by simp [enc, okC]
 | .slice sz e, x, _ => by simp [enc, okC]
 | .agg l, x, h => by cases h
 | .fn _ _ _, x, h => by cases h
 | .ptr _, x, h => by cases h
 | .own _ _, x, h => by cases h
 | .rowr _, x, h => by cases h
 | .mpr _, x, h => by cases h
 | .any, x, h => by cases h
theorem enc_okL : ∀ {l : List Sh} {x : DatL l}, cellShL l = true -> okL (encL l x) = true
 | [], _, _ => by simp [encL, okL]
 | s :: l, x, h => by
   simp [cellShL] at h
   simp [encL, okL, enc_okC h.1, enc_okL h.2]
theorem encL_len : ∀ {l : List Sh} {x : DatL l}, (encL l x).length = l.length
 | [], _ => by simp [encL]
 | s :: l, x => by simp [encL, encL_len]
mutual
theorem enc_noOwn : ∀ {s : Sh} {x : Dat s}, noOwn s = true -> ownIn (enc s x) = false
 | .int k, x, _ => by simp [enc, ownIn]
 | .bool, x, _ => by simp [enc, ownIn]
 | .slice sz e, x, _ => by simp [enc, ownIn]
 | .agg l, x, h => by
   unfold noOwn at h
   simp only [enc, ownIn]
   exact enc_noOwnL h
 | .fn _ a b, x, h => by
   unfold noOwn at h
   simp only [Bool.and_eq_true] at h
   simp only [enc, ownIn]
   rw [enc_noOwnL h.1, enc_noOwnL h.2]; rfl
 | .ptr _, x, _ => by simp [enc, ownIn]
 | .own _ _, x, h => by cases h
 | .rowr _, x, h => by cases h
 | .mpr _, x, h => by cases h
 | .any, x, h => by cases h
theorem enc_noOwnL : ∀ {l : List Sh} {x : DatL l}, noOwnL l = true -> ownIn.ownInL (encL l x) = false
 | [], _, _ => by simp [encL, ownIn.ownInL]
 | s :: l, x, h => by
   unfold noOwnL at h
   simp only [Bool.and_eq_true] at h
   simp only [encL, ownIn.ownInL]
   rw [enc_noOwn h.1, enc_noOwnL h.2]; rfl
end
theorem preL_len : ∀ (l : List Sh) (m : List AV), (preL l m).length <= m.length
 | [], _ => Nat.zero_le _
 | _ :: _, [] => Nat.le_refl _
 | _ :: l, _ :: m => by
   have := preL_len l m
   simp only [preL, List.length_cons]; omega
theorem preL_rel : ∀ (l : List Sh) {m : List AV} {vs : List Value}, RelL C w m vs -> RelL C w (preL l m) (vs.take (preL l m).length)
 | [], _, _, _ => by simp only [preL, List.length_nil, List.take_zero]; exact .nil
 | _ :: _, _, _, .nil => by simp only [preL, List.length_nil, List.take_zero]; exact .nil
 | _ :: l, _, _, .cons _ _ _ _ h h' => by
   simp only [preL, List.length_cons, List.take_succ_cons]
   exact .cons _ _ _ _ h (preL_rel l h')
mutual
theorem enc_dec : ∀ {s : Sh} {a : AV} {v : Value}, okSh s a = true -> CanSh s a -> Rel C w a v -> Rel C w (enc s (dec s a)) v
 | .int k, a, v, h, _, hr => by
   unfold okSh at h
   split at h
   ·rename_i k' hk
    have h := of_decide_eq_true h
    subst h
    rw [kindOf_rel hr hk]
    simp only [enc, dec]
    exact .si _ _
   ·cases h
 | .bool, a, v, h, _, hr => by
   unfold okSh at h
   simp only [enc, dec]
   cases a <;> simp [isBoolA] at h
   ·cases hr; exact .sb _
   ·cases hr; exact .sb _
 | .slice sz e, a, v, h, hc, hr => by
   unfold okSh at h
   simp only [Bool.and_eq_true] at h
   obtain ⟨hcs, h⟩ := h
   split at h
   ·rename_i n sz' el
    obtain rfl := Nat.eq_of_beq_eq_true h
    unfold CanSh at hc
    unfold enc dec
    cases hr with
    | slc _ _ _ A cap vs hcap hA hr hl hn =>
      exact .slc (.sym n.val) sz _ A cap vs hcap hA (fun k hk => encL_dec (hc k hk) (hr k hk)) hl (fun k hk => enc_okL hcs)
   ·cases hr
    unfold enc dec
    exact .slc (.sym 0) sz _ none 0 (fun _ => []) (Nat.le_refl _) (fun h => by simp [LN.val] at h) (fun k hk => by simp [LN.val] at hk) (fun k hk => by simp [LN.val] at hk) (fun k hk => by simp [LN.val] at hk)
   ·cases h
 | .agg l, a, v, h, hc, hr => by
   unfold CanSh at hc
   split at hc
   ·rename_i m
    cases hr with
    | agg _ vs hr =>
      unfold enc dec
      exact .agg _ vs (encL_dec hc hr)
   ·exact hc.elim
 | .fn f a b, x, v, h, hc, hr => by
   unfold okSh at h
   unfold CanSh at hc
   split at h
   ·rename_i g l m
    simp only [Bool.and_eq_true] at h
    obtain rfl := Nat.eq_of_beq_eq_true h.1.1
    cases hr with
    | fn _ _ _ vs ws h1 h2 =>
      unfold enc dec
      exact .fn _ _ _ vs ws (encL_dec hc.1 h1) (encL_dec hc.2 h2)
   ·cases h
 | .ptr l, a, v, h, hc, hr => by
   unfold okSh at h
   unfold CanSh at hc
   split at h
   ·rename_i m
    simp only [Bool.and_eq_true] at h
    cases hr with
    | xp _ ad vs hr hI hcl hn =>
      unfold enc dec
      show Rel C w (.xp (encL l (decL l (preL l m)))) _
      have h0 := preL_rel l hr
      have h1 := encL_dec hc h0
      have h2 := h1.len
      have h3 := h0.len
      have h5 := preL_len l m
      refine .xp _ ad (vs.take (preL l m).length) h1 (fun hne => hI fun e => hne ?_) (fun j hj => ?_) (enc_noOwnL h.1)
      ·have h4 : m.length = 0 := by rw [e]; rfl
       exact List.length_eq_zero_iff.1 (by omega)
      ·have h6 : j < (preL l m).length := by omega
       rw [hcl j (by omega), List.getElem?_take_of_lt h6]
   ·cases h
 | .own i off, a, v, h, _, hr => by
   unfold okSh at h
   split at h
   ·simp only [Bool.and_eq_true] at h
    obtain rfl := Nat.eq_of_beq_eq_true h.1
    obtain rfl := Nat.eq_of_beq_eq_true h.2
    unfold enc; exact hr
   ·cases h
 | .rowr i, a, v, h, _, hr => by
   unfold okSh at h
   split at h
   ·obtain rfl := Nat.eq_of_beq_eq_true h
    unfold enc; exact hr
   ·cases h
 | .mpr i, a, v, h, _, hr => by
   unfold okSh at h
   split at h
   ·obtain rfl := Nat.eq_of_beq_eq_true h
    unfold enc; exact hr
   ·cases h
 | .any, a, v, _, _, hr => by unfold enc dec; exact hr
theorem encL_dec : ∀ {l : List Sh} {m : List AV} {vs : List Value}, CanL l m -> RelL C w m vs -> RelL C w (encL l (decL l m)) vs
 | [], m, vs, h, hr => by
   unfold CanL at h
   split at h
   ·cases hr; unfold encL; exact .nil
   ·exact h.elim
 | s :: l, m, vs, h, hr => by
   unfold CanL at h
   split at h
   ·rename_i a m
    cases hr with
    | cons _ _ v vs h1 h2 =>
      unfold encL decL
      exact .cons _ _ _ _ (enc_dec h.1 h.2.1 h1) (encL_dec h.2.2 h2)
   ·exact h.elim
end
mutual
theorem can_sh : ∀ {s : Sh} {a : AV}, okSh s a = true -> (∀ p ∈ canSh s a, p.ok) -> CanSh s a
 | .int k, a, _, _ => by unfold CanSh; trivial
 | .bool, a, _, _ => by unfold CanSh; trivial
 | .any, a, _, _ => by unfold CanSh; trivial
 | .own _ _, a, _, _ => by unfold CanSh; trivial
 | .rowr _, a, _, _ => by unfold CanSh; trivial
 | .mpr _, a, _, _ => by unfold CanSh; trivial
 | .slice sz e, a, h, hc => by
   unfold CanSh
   split
   ·rename_i n sz' el
    exact hc ⟨CanEl e, (n.val, el)⟩ (by unfold canSh; exact List.mem_singleton.2 rfl)
   ·trivial
 | .agg l, a, h, hc => by
   unfold okSh at h
   unfold CanSh
   split at h
   ·rename_i m
    exact can_shL h (fun p hp => hc p (by unfold canSh; exact hp))
   ·cases h
 | .fn f a b, v, h, hc => by
   unfold okSh at h
   unfold CanSh
   split at h
   ·rename_i g l m
    simp only [Bool.and_eq_true] at h
    obtain ⟨h1, h2⟩ := appP_mem (l := canShL a l) (m := canShL b m) fun p hp => hc p (by unfold canSh; exact hp)
    exact ⟨can_shL h.1.2 h1, can_shL h.2 h2⟩
   ·cases h
 | .ptr l, a, h, hc => by
   unfold okSh at h
   unfold CanSh
   split at h
   ·rename_i m
    simp only [Bool.and_eq_true] at h
    exact can_shL h.2 (fun p hp => hc p (by unfold canSh; exact hp))
   ·cases h
theorem can_shL : ∀ {l : List Sh} {m : List AV}, okShL l m = true -> (∀ p ∈ canShL l m, p.ok) -> CanL l m
 | [], m, h, _ => by
   unfold okShL at h
   unfold CanL
   split at h
   ·trivial
   ·cases h
 | s :: l, m, h, hc => by
   unfold okShL at h
   unfold CanL
   split at h
   ·rename_i a m
    simp only [Bool.and_eq_true] at h
    obtain ⟨h1, h2⟩ := appP_mem (l := canSh s a) (m := canShL l m) fun p hp => hc p (by unfold canShL; exact hp)
    exact ⟨h.1, can_sh h.1 h1, can_shL h.2 h2⟩
   ·cases h
end
structure Spec (shs : List Sh) where
 pre : DatL shs -> Prop
 res : DatL shs -> AV
noncomputable def mkSum (shs : List Sh) (sp : Spec shs) : Summ := fun args => match okShLN shs args with
 | true => decKLN shs args fun x => some ⟨appP (canShLN shs args) [⟨sp.pre, x⟩], sp.res x, []⟩
 | false => none
mutual
theorem decK_eq {β : Type 1} : ∀ {s : Sh} {a : AV} {f : Dat s -> β}, okSh s a = true -> decK s a f = f (dec s a)
 | .int k, a, f, h => by
   unfold okSh at h
   cases a <;> simp [kindOf] at h <;> simp [decK, dec, intOf]
 | .bool, a, f, h => by
   unfold okSh at h
   cases a <;> simp [isBoolA] at h <;> simp [decK, dec, boolOf]
 | .slice sz e, a, f, h => by
   unfold okSh at h
   simp only [Bool.and_eq_true] at h
   obtain ⟨_, h⟩ := h
   split at h
   ·rename_i n _ el; unfold decK dec; cases n <;> rfl
   ·unfold decK dec; rfl
   ·cases h
 | .agg l, a, f, h => by
   unfold okSh at h
   split at h
   ·unfold decK dec; exact decKL_eq h
   ·cases h
 | .fn _ x y, a, f, h => by
   unfold okSh at h
   split at h
   ·simp only [Bool.and_eq_true] at h
    unfold decK dec
    simp only
    rw [decKL_eq h.1.2, decKL_eq h.2]
   ·cases h
 | .ptr l, a, f, h => by
   unfold okSh at h
   split at h
   ·simp only [Bool.and_eq_true] at h
    unfold decK dec; exact decKL_eq h.2
   ·cases h
 | .own _ _, a, f, _ => by unfold decK dec; rfl
 | .rowr _, a, f, _ => by unfold decK dec; rfl
 | .mpr _, a, f, _ => by unfold decK dec; rfl
 | .any, a, f, _ => by unfold decK dec; rfl
theorem decKL_eq {β : Type 1} : ∀ {l : List Sh} {m : List AV} {f : DatL l -> β}, okShL l m = true -> decKL l m f = f (decL l m)
 | [], m, f, h => by unfold decKL decL; rfl
 | s :: l, m, f, h => by
   unfold okShL at h
   split at h
   ·simp only [Bool.and_eq_true] at h
    unfold decKL decL
    simp only
    rw [decK_eq h.1, decKL_eq h.2]
   ·cases h
end
theorem Fn.weaken {f : FuncId} {args args' : List AV} {r : AV} {H' : Heap} (h : Fn P f args' H r H') (hw : ∀ (C : Cx) (w : World) (vs : List Value), RelL C w args vs -> RelL C w args' vs) : Fn P f args H r H' :=
 fun C w vs hO hH ha => h C w vs hO hH (hw C w vs ha)
def FnSpec (P : Program) (f : FuncId) (shs : List Sh) (sp : Spec shs) : Prop := ∀ x : DatL shs, sp.pre x -> Fn P f (encL shs x) [] (sp.res x) []
theorem mkSum_ok {f : FuncId} {shs : List Sh} {sp : Spec shs} (h : FnSpec P f shs sp) : ∀ args pre res new, mkSum shs sp args = some ⟨pre, res, new⟩ -> (∀ p ∈ pre, p.ok) -> Fn P f args [] res new := by
 intro args pre res new hm hp
 unfold mkSum at hm
 simp only [okShLN_eq, decKLN_eq, canShLN_eq] at hm
 split at hm
 ·rename_i hok
  rw [decKL_eq hok] at hm
  injection hm with hm; injection hm with h1 h2 h3
  subst h1 h2 h3
  obtain ⟨h4, h5⟩ := appP_mem hp
  exact (h _ (h5 _ (List.mem_singleton.2 rfl))).weaken fun C w vs ha => encL_dec (can_shL hok h4) ha
 ·cases hm
theorem SumsOK.nil (P : Program) (lo : Nat) (eqs : List (Nat × List (Option IntKind))) (h : ∀ t ks, findS eqs t = some ks -> EqOK P t ks) : SumsOK P ⟨[], [], lo, eqs, [], []⟩ :=
 ⟨(fun _ _ h => by cases h), (fun _ _ h => by cases h), h, (fun _ _ h => by cases h), (fun _ _ h => by cases h), (fun _ _ h => by cases h)⟩
theorem SumsOK.addIt2 {one : List (Nat × Summ)} {two : List (Nat × Summ2)} {lo : Nat} {eqs : List (Nat × List (Option IntKind))} {its : List (Nat × Iter)} {imm : List Nat} (hS : SumsOK P ⟨one, two, lo, eqs, its, imm⟩) {f : FuncId} {fn : Func} (hf : P.funcs[f]? = some fn) (hn : (fn.name == "runtime.NumGoroutine") = false) (hb : fn.body.isNone = false)
  {it : Iter} (h : IterOK2 P f it) : SumsOK P ⟨one, two, lo, eqs, (itsKey f, it) :: its, imm⟩ := by
 refine ⟨hS.one, hS.two, hS.eqs, hS.bodyOne, hS.bodyTwo, fun g s1 hg => ?_⟩
 simp only [findS] at hg
 split at hg
 ·rename_i e
  injection hg with hg; subst hg
  obtain rfl := Nat.eq_of_beq_eq_true e
  refine ⟨fun hlt => absurd hlt (Nat.not_lt.2 (Nat.le_add_left _ _)), fun g hg => ?_⟩
  obtain rfl : f = g := Nat.add_right_cancel hg
  exact ⟨h, fn, hf, hn, hb⟩
 ·exact hS.its g s1 hg
theorem SumsOK.cons {one : List (Nat × Summ)} {two : List (Nat × Summ2)} {lo : Nat} {eqs : List (Nat × List (Option IntKind))} {its : List (Nat × Iter)} {imm : List Nat} (hS : SumsOK P ⟨one, two, lo, eqs, its, imm⟩) {f : FuncId} {fn : Func} (hf : P.funcs[f]? = some fn) (hn : (fn.name == "runtime.NumGoroutine") = false) (hb : fn.body.isNone = false)
  {shs : List Sh} {sp : Spec shs} (h : FnSpec P f shs sp) : SumsOK P ⟨(f, mkSum shs sp) :: one, two, lo, eqs, its, imm⟩ := by
 refine ⟨fun g s1 hg => ?_, hS.two, hS.eqs, fun g s1 hg => ?_, hS.bodyTwo, hS.its⟩
 ·simp only [findS] at hg
  split at hg
  ·rename_i e
   injection hg with hg; subst hg
   obtain rfl := Nat.eq_of_beq_eq_true e
   exact mkSum_ok h
  ·exact hS.one g s1 hg
 ·simp only [findS] at hg
  split at hg
  ·rename_i e
   obtain rfl := Nat.eq_of_beq_eq_true e
   exact ⟨fn, hf, hn, hb⟩
  ·exact hS.bodyOne g s1 hg
def FnSat (P : Program) (S : Sums) (U : Nat) (I : Anns) (fn : Func) (args : List AV) (H : Heap) (r : AV) (H' : Heap) : Prop :=
 (wpFT P S U I fn args H).sat fun a hp => (leS H.length [a] hp ⟨[r], H'⟩).sat fun _ _ => True
theorem Fn.of (hS : SumsOK P S) (hm : P.follows .mixedOrders = true) {U : Nat} {I : Anns} {f : FuncId} {fn : Func} {c : Code} (hf : P.funcs[f]? = some fn) (hb : fn.body = some c) (hok : codeOK c = true) {args : List AV} {r : AV} {H' : Heap}
  (hlo : S.lo = H.length) (hng : ∀ t, notGd (getL args t)) (hn : args.length <= fn.ntmps) (h : FnSat P S U I fn args H r H') : Fn P f args H r H' := by
 intro C w vs hO hH ha
 refine (calls_wpF hS hm hf hb hok (by omega) hH ha hng hn (wpFT_sat h)).mono ?_
 rintro e w' ⟨v, a, hp', C1, he, hle, h1, h2, h3, h4⟩
 rw [hlo] at h1 h4
 obtain ⟨h5, h6, h7, h8⟩ := leS_sat hle h2 h1
 have h9 : Rel (C1.cut H.length H') w' r v := by
  unfold leS at hle
  unfold leL at hle
  exact ((leA_sat hle).2 C1 w' h2 v h3).1
 refine ⟨v, _, he, h5, h9, ((Since.refl (fun i hi => ?_) hO).step h4).step h8⟩
 cases hc : C.ρ i with
 | none => rfl
 | some p => have := hH.lt hc; omega
structure SpecN (shs : List Sh) where
 pre : DatL shs -> Prop
 res : DatL shs -> AV
 new : DatL shs -> Heap
noncomputable def mkSumN (shs : List Sh) (sp : SpecN shs) : Summ := fun args => match okShLN shs args with
 | true => decKLN shs args fun x => some ⟨appP (canShLN shs args) [⟨sp.pre, x⟩], sp.res x, sp.new x⟩
 | false => none
def FnSpecN (P : Program) (f : FuncId) (shs : List Sh) (sp : SpecN shs) : Prop := ∀ x : DatL shs, sp.pre x -> Fn P f (encL shs x) [] (sp.res x) (sp.new x)
theorem mkSumN_ok {f : FuncId} {shs : List Sh} {sp : SpecN shs} (h : FnSpecN P f shs sp) : ∀ args pre res new, mkSumN shs sp args = some ⟨pre, res, new⟩ -> (∀ p ∈ pre, p.ok) -> Fn P f args [] res new := by
 intro args pre res new hm hp
 unfold mkSumN at hm
 simp only [okShLN_eq, decKLN_eq, canShLN_eq] at hm
 split at hm
 ·rename_i hok
  rw [decKL_eq hok] at hm
  injection hm with hm; injection hm with h1 h2 h3
  subst h1 h2 h3
  obtain ⟨h4, h5⟩ := appP_mem hp
  exact (h _ (h5 _ (List.mem_singleton.2 rfl))).weaken fun C w vs ha => encL_dec (can_shL hok h4) ha
 ·cases hm
def SummOK (P : Program) (f : FuncId) (s : Summ) : Prop := ∀ args pre res new, s args = some ⟨pre, res, new⟩ -> (∀ p ∈ pre, p.ok) -> Fn P f args [] res new
def altSum (s t : Summ) : Summ := fun args => match s args with | some r => some r | none => t args
theorem altSum_ok {f : FuncId} {s t : Summ} (hs : SummOK P f s) (ht : SummOK P f t) : SummOK P f (altSum s t) := by
 intro args pre res new h hp
 unfold altSum at h
 split at h
 ·rename_i r hr
  injection h with h; subst h
  exact hs _ _ _ _ hr hp
 ·exact ht _ _ _ _ h hp
theorem SumsOK.add {one : List (Nat × Summ)} {two : List (Nat × Summ2)} {lo : Nat} {eqs : List (Nat × List (Option IntKind))} {its : List (Nat × Iter)} {imm : List Nat} (hS : SumsOK P ⟨one, two, lo, eqs, its, imm⟩) {f : FuncId} {fn : Func} (hf : P.funcs[f]? = some fn) (hn : (fn.name == "runtime.NumGoroutine") = false) (hb : fn.body.isNone = false)
  {s : Summ} (h : SummOK P f s) : SumsOK P ⟨(f, s) :: one, two, lo, eqs, its, imm⟩ := by
 refine ⟨fun g s1 hg => ?_, hS.two, hS.eqs, fun g s1 hg => ?_, hS.bodyTwo, hS.its⟩
 ·simp only [findS] at hg
  split at hg
  ·rename_i e
   injection hg with hg; subst hg
   obtain rfl := Nat.eq_of_beq_eq_true e
   exact h
  ·exact hS.one g s1 hg
 ·simp only [findS] at hg
  split at hg
  ·rename_i e
   obtain rfl := Nat.eq_of_beq_eq_true e
   exact ⟨fn, hf, hn, hb⟩
  ·exact hS.bodyOne g s1 hg
def noAny : List Sh -> Bool
 | [] => true
 | .any :: _ => false
 | _ :: l => noAny l
theorem encL_ng : ∀ {l : List Sh} {x : DatL l}, noAny l = true -> ∀ t, notGd (getL (encL l x) t)
 | [], _, _, t => by simp only [encL, getL]; trivial
 | s :: l, x, h, 0 => by
   simp only [encL, getL]
   cases s <;> simp [enc, notGd]
   cases h
 | s :: l, x, h, t + 1 => by
   simp only [encL, getL]
   exact encL_ng (by cases s <;> first | exact h | cases h) t
theorem FnSpec.of (hS : SumsOK P S) (hm : P.follows .mixedOrders = true) {shs : List Sh} {U : Nat} {I : DatL shs -> Anns} {f : FuncId} {fn : Func} {c : Code} (hf : P.funcs[f]? = some fn) (hb : fn.body = some c) (hok : codeOK c = true) {sp : Spec shs}
  (hlo : S.lo = 0) (hany : noAny shs = true) (hn : shs.length <= fn.ntmps) (h : ∀ x, sp.pre x -> FnSat P S U (I x) fn (encL shs x) [] (sp.res x) []) : FnSpec P f shs sp :=
 fun x hx => Fn.of hS hm hf hb hok hlo (encL_ng hany) (by rw [encL_len]; exact hn) (h x hx)
theorem FnSpecN.of (hS : SumsOK P S) (hm : P.follows .mixedOrders = true) {shs : List Sh} {U : Nat} {I : DatL shs -> Anns} {f : FuncId} {fn : Func} {c : Code} (hf : P.funcs[f]? = some fn) (hb : fn.body = some c) (hok : codeOK c = true) {sp : SpecN shs}
  (hlo : S.lo = 0) (hany : noAny shs = true) (hn : shs.length <= fn.ntmps) (h : ∀ x, sp.pre x -> FnSat P S U (I x) fn (encL shs x) [] (sp.res x) (sp.new x)) : FnSpecN P f shs sp :=
 fun x hx => Fn.of hS hm hf hb hok hlo (encL_ng hany) (by rw [encL_len]; exact hn) (h x hx)
end
end Abs
end Go.Proofs.Ytdfdjlijghjdaaa

namespace Go.Proofs.Ytdfdjlijghjdaaa
namespace Abs
open Go
@[simp] theorem iadd_eq (a b : Int) : iadd a b = a + b := by unfold iadd; rfl
@[simp] theorem isub_eq (a b : Int) : isub a b = a - b := by unfold isub; rfl
@[simp] theorem imul_eq (a b : Int) : imul a b = a * b := by unfold imul; rfl
@[simp] theorem iquo_eq (a b : Int) : iquo a b = a.tdiv b := by unfold iquo; rfl
@[simp] theorem irem_eq (a b : Int) : irem a b = a.tmod b := by unfold irem; rfl
@[simp] theorem ieq_eq (a b : Int) : ieq a b = (a == b) := by unfold ieq; rfl
@[simp] theorem ilt_eq (a b : Int) : ilt a b = decide (a < b) := by unfold ilt; rfl
@[simp] theorem ile_eq (a b : Int) : ile a b = decide (a <= b) := by unfold ile; rfl
@[simp] theorem imin_eq (a b : Int) : imin a b = min a b := by unfold imin; split <;> omega
@[simp] theorem imax_eq (a b : Int) : imax a b = max a b := by unfold imax; split <;> omega
@[simp] theorem iwrap_eq (k : IntKind) (a : Int) : iwrap k a = k.wrap a := by unfold iwrap; rfl
@[simp] theorem ibnot_eq (a : Bool) : bnot a = !a := bnot_eq a
@[simp] theorem iband_eq (a b : Bool) : band a b = (a && b) := band_eq a b
@[simp] theorem ibor_eq (a b : Bool) : bor a b = (a || b) := bor_eq a b
@[simp] theorem beqb_eq (a b : Bool) : beqb a b = (a == b) := by unfold beqb; rfl
@[simp] theorem ibite_eq (c a b : Bool) : bite c a b = if c then a else b := bite_eq c a b
@[simp] theorem nat_eq (a : Int) : nat a = a.toNat := by unfold nat; rfl
@[simp] theorem icast_eq (a : Nat) : icast a = (a : Int) := by unfold icast; rfl
@[simp] theorem nadd_eq (a b : Nat) : nadd a b = a + b := by unfold nadd; rfl
@[simp] theorem nlt_eq (a b : Nat) : nlt a b = decide (a < b) := by unfold nlt; rfl
@[simp] theorem nsub_eq (a b : Nat) : nsub a b = a - b := by unfold nsub; rfl
@[simp] theorem inr64 (n : Int) : InR .i64 n ↔ -9223372036854775808 <= n /\ n <= 9223372036854775807 := by
 unfold InR; simp [IntKind.min, IntKind.max, IntKind.signed, IntKind.bits]
inductive Ins where
 | k (n : Nat)
 | s (a : AV)
 | t (n : Nat)
noncomputable def keepL (n : Nat) : (List AV -> List AV) -> List AV -> List AV :=
 Nat.rec (motive := fun _ => (List AV -> List AV) -> List AV -> List AV) (fun f l => f l) (fun _ ih f l => List.rec (motive := fun _ => List AV) [] (fun x l _ => x :: ih f l) l) n
noncomputable def anyL (n : Nat) : (List AV -> List AV) -> List AV -> List AV :=
 Nat.rec (motive := fun _ => (List AV -> List AV) -> List AV -> List AV) (fun f l => f l) (fun _ ih f l => List.rec (motive := fun _ => List AV) [] (fun _ l _ => .top :: ih f l) l) n
noncomputable def frI : List Ins -> List AV -> List AV
 | [], l => l
 | .k n :: is, l => keepL n (frI is) l
 | .s a :: is, l => (match l with | _ :: l => a :: frI is l | [] => [])
 | .t n :: is, l => anyL n (frI is) l
def putC (hp : Heap) (i : Nat) (l : List AV) : Heap := match getB hp i with | .cells t _ => setB hp i (.cells t l) | _ => hp
def putR (hp : Heap) (i : Nat) (n : LN) (el : Nat -> List AV) : Heap := match getB hp i with | .row e sz _ _ => setB hp i (.row e sz n el) | _ => hp
def lenH : Heap -> Nat
 | [] => 0
 | _ :: l => lenH l + 1
def putE (hp : Heap) (i : Nat) (el : Nat -> List AV) : Heap := match getB hp i with | .row e sz n _ => setB hp i (.row e sz n el) | _ => hp
@[simp] theorem annPre_eq (G α : Type) (st : G -> AS) (dat : G -> α) (q : α -> Prop) (mu : G -> Nat) (g : G) : Ann.pre ⟨G, st, α, dat, q, mu⟩ g = q (dat g) := rfl
section
variable {R : AV -> Heap -> Prop}
@[simp] theorem sat_fail : VC.sat R .fail ↔ False := Iff.rfl
@[simp] theorem sat_need (p : Cd) (k : VC) : VC.sat R (.need p k) ↔ p.ok /\ k.sat R := Iff.rfl
@[simp] theorem sat_branch (b : Bool) (t e : VC) : VC.sat R (.branch b t e) ↔ (b = true -> t.sat R) /\ (b = false -> e.sat R) := Iff.rfl
@[simp] theorem sat_out (r : AV) (hp : Heap) : VC.sat R (.out r hp) ↔ R r hp := Iff.rfl
@[simp] theorem sat_done : VC.sat R .done ↔ True := Iff.rfl
@[simp] theorem sat_loop (A : Ann) (d : A.G -> A.α) (e : VC) (b : A.G -> VC) : VC.sat R (.loop d e b) ↔ e.sat R /\ ∀ g, A.q (d g) -> (b g).sat R := Iff.rfl
@[simp] theorem sat_ex (A : Ann) (d : A.G -> A.α) (m : Option Nat) (k : A.G -> VC) : VC.sat R (.ex d m k) ↔ ∃ g, (k g).sat R /\ A.q (d g) /\ (match m with | some n => A.mu g < n | none => True) :=
 ⟨fun ⟨g, h1, h2, h3⟩ => ⟨g, h3, h1, h2⟩, fun ⟨g, h1, h2, h3⟩ => ⟨g, h2, h3, h1⟩⟩
end
@[simp] theorem nrmL_nil : nrmL [] = [] := rfl
@[simp] theorem nrmL_cons (a : AV) (l : List AV) : nrmL (a :: l) = nrm a :: nrmL l := rfl
@[simp] theorem nrm_si (k : IntKind) (n : Int) : nrm (.si k n) = .si k n := rfl
@[simp] theorem nrm_li (k : IntKind) (n : Int) : nrm (.li k n) = .si k n := rfl
@[simp] theorem nrm_sb (b : Bool) : nrm (.sb b) = .sb b := rfl
@[simp] theorem nrm_lb (b : Bool) : nrm (.lb b) = .sb b := rfl
@[simp] theorem nrm_slc (n : LN) (sz : Nat) (el : Nat -> List AV) : nrm (.slc n sz el) = .slc n sz el := rfl
@[simp] theorem nrm_v (x : Value) : nrm (.v x) = .v x := rfl
@[simp] theorem nrm_pa1 (n sz : Nat) (el : Nat -> List AV) : nrm (.pa (n + 1) sz el) = .pa (n + 1) sz el := rfl
@[simp] theorem nrm_xp (l : List AV) : nrm (.xp l) = .xp l := rfl
@[simp] theorem selI_eq (k j : Nat) (a b : Int) : selI k j a b = if j = k then a else b := by unfold selI; rfl
@[simp] theorem selB_eq (k j : Nat) (a b : Bool) : selB k j a b = if j = k then a else b := by unfold selB; rfl
theorem catE_eq (n : Nat) (f g : Nat -> List AV) (k : Nat) : catE n f g k = if k < n then f k else g (k - n) := by unfold catE; rfl
theorem app_one {sz g j : Nat} {F : Nat -> List AV} {c r : List AV} (h : j < g + 1) (h1 : j < g -> nrmL (F j) = r) (h2 : j = g -> nrmL (takeL c sz) = r) : nrmL (catE g F (rowAt sz c) j) = r := by
 rw [catE_eq]
 by_cases hj : j < g
 ·rw [if_pos hj]; exact h1 hj
 ·rw [if_neg hj, show j - g = 0 by omega]
  exact h2 (by omega)
@[simp] theorem canL_nil : CanL [] [] ↔ True := by unfold CanL; exact Iff.rfl
@[simp] theorem canL_cons (s : Sh) (l : List Sh) (a : AV) (m : List AV) : CanL (s :: l) (a :: m) ↔ okSh s a = true /\ CanSh s a /\ CanL l m := by rw [CanL]
@[simp] theorem okSh_si (k : IntKind) (n : Int) : okSh (.int k) (.si k n) = true := by simp [okSh, kindOf]
@[simp] theorem okSh_li (k : IntKind) (n : Int) : okSh (.int k) (.li k n) = true := by simp [okSh, kindOf]
@[simp] theorem okSh_sb (b : Bool) : okSh .bool (.sb b) = true := by simp [okSh, isBoolA]
@[simp] theorem okSh_lb (b : Bool) : okSh .bool (.lb b) = true := by simp [okSh, isBoolA]
@[simp] theorem okSh_slc (sz : Nat) (e : List Sh) (n : LN) (el : Nat -> List AV) : okSh (.slice sz e) (.slc n sz el) = cellShL e := by simp [okSh]
@[simp] theorem canSh_int (k : IntKind) (a : AV) : CanSh (.int k) a ↔ True := by unfold CanSh; exact Iff.rfl
@[simp] theorem canSh_bool (a : AV) : CanSh .bool a ↔ True := by unfold CanSh; exact Iff.rfl
@[simp] theorem canSh_slc (sz sz' : Nat) (e : List Sh) (n : LN) (el : Nat -> List AV) : CanSh (.slice sz e) (.slc n sz' el) ↔ ∀ k, k < n.val -> CanL e (el k) := by rw [CanSh]
@[simp] theorem canEl_iff (e : List Sh) (n : Nat) (el : Nat -> List AV) : CanEl e (n, el) ↔ ∀ k, k < n -> CanL e (el k) := Iff.rfl
attribute [simp] cellShL cellSh
@[simp] theorem imp_all_true (n : Nat) : (∀ k : Nat, k < n -> True) ↔ True := by simp
attribute [simp] leS leL leA leH leB Cd.ok kindOf intOf LN.val
end Abs
end Go.Proofs.Ytdfdjlijghjdaaa

namespace Go.Proofs.Ytdfdjlijghjdaaa
namespace Abs
open Go Go.RowKit
def fieldsKs (rc : TypeId -> Option (List (Option IntKind))) : List Field -> Nat -> Option (List (Option IntKind))
 | [], _ => some []
 | f :: fs, off => (match f.name == "_", Nat.beq f.offset off, rc f.type with
   | false, true, some ks => (match fieldsKs rc fs (off + ks.length) with | some ks' => some (ks ++ ks') | none => none)
   | _, _, _ => none)
def eqKs (P : Program) : Nat -> TypeId -> Option (List (Option IntKind))
 | 0, _ => none
 | d + 1, t => (match P.underlying t with
   | some (.int k) => some [some k]
   | some .bool => some [none]
   | some (.struct fs) => (match P.stoodInHeld t, fieldsKs (eqKs P d) fs.toList 0 with
     | false, some ks => (match Nat.beq (sizeT P t) ks.length with | true => some ks | false => none)
     | _, _ => none)
   | some (.array n e) => (match eqKs P d e with
     | some ks => (match Nat.beq (sizeT P e) ks.length && Nat.beq (sizeT P t) (n * ks.length) with | true => some (List.replicate n ks).flatten | false => none)
     | none => none)
   | _ => none)
inductive Kd : List (Option IntKind) -> List Value -> Prop
 | nil : Kd [] []
 | int (k : IntKind) (n : Int) (ks : List (Option IntKind)) (vs : List Value) (h : Kd ks vs) : Kd (some k :: ks) (.int k n :: vs)
 | bool (b : Bool) (ks : List (Option IntKind)) (vs : List Value) (h : Kd ks vs) : Kd (none :: ks) (.bool b :: vs)
def eq1 : Value -> Value -> Bool
 | .int _ a, .int _ b => a == b
 | .bool a, .bool b => a == b
 | _, _ => false
def eqV : List Value -> List Value -> Bool
 | [], [] => true
 | x :: xs, y :: ys => eq1 x y && eqV xs ys
 | _, _ => false
theorem Kd.len {ks : List (Option IntKind)} {vs : List Value} (h : Kd ks vs) : vs.length = ks.length := by induction h <;> simp [*]
theorem Kd.split {ks ks' : List (Option IntKind)} : ∀ {vs : List Value}, Kd (ks ++ ks') vs -> Kd ks (vs.take ks.length) /\ Kd ks' (vs.drop ks.length) := by
 induction ks with
 | nil => intro vs h; exact ⟨by simpa using Kd.nil, by simpa using h⟩
 | cons k ks ih =>
   intro vs h
   cases h with
   | int k n _ vs h => obtain ⟨h1, h2⟩ := ih h; exact ⟨by simpa using Kd.int k n _ _ h1, by simpa using h2⟩
   | bool b _ vs h => obtain ⟨h1, h2⟩ := ih h; exact ⟨by simpa using Kd.bool b _ _ h1, by simpa using h2⟩
theorem eqV_append : ∀ {a b : List Value} {c d : List Value}, a.length = b.length -> eqV (a ++ c) (b ++ d) = (eqV a b && eqV c d)
 | [], [], c, d, _ => by simp [eqV]
 | x :: a, y :: b, c, d, h => by simp at h; simp [eqV, eqV_append h, Bool.and_assoc]
def mkV (P : Program) (t : TypeId) (l : List Value) : Value := match isAgg P t with | some true => .agg ⟨l⟩ | _ => l.headD undef
section
variable {P : Program}
theorem eqKs_size {d : Nat} {t : TypeId} {ks : List (Option IntKind)} (h : eqKs P d t = some ks) : (isAgg P t = some true /\ sizeT P t = ks.length /\ ∃ i, P.info? t = some i) \/ (isAgg P t = some false /\ ks.length = 1) := by
 cases d with
 | zero => simp [eqKs] at h
 | succ d =>
   unfold eqKs at h
   split at h
   ·rename_i k hu; injection h with h; subst h; exact .inr ⟨by simp [isAgg, hu], rfl⟩
   ·rename_i hu; injection h with h; subst h; exact .inr ⟨by simp [isAgg, hu], rfl⟩
   ·rename_i fs hu
    split at h
    ·split at h
     ·rename_i hs; injection h with h; subst h
      exact .inl ⟨by simp [isAgg, hu], Nat.eq_of_beq_eq_true hs, info_of_underlying hu⟩
     ·cases h
    ·cases h
   ·rename_i n e hu
    split at h
    ·split at h
     ·rename_i ks' _ _ hs
      simp only [Bool.and_eq_true] at hs
      injection h with h; subst h
      refine .inl ⟨by simp [isAgg, hu], ?_, info_of_underlying hu⟩
      rw [Nat.eq_of_beq_eq_true hs.2]
      simp
     ·cases h
    ·cases h
   ·cases h
theorem run_partK {d : Nat} {t : TypeId} {ks : List (Option IntKind)} (h : eqKs P d t = some ks) (w : World) {xs : List Value} {off : Nat} (hk : Kd ks ((xs.drop off).take ks.length)) :
  (part t ⟨xs⟩ off).run P w = .ok (mkV P t ((xs.drop off).take ks.length)) w := by
 rcases eqKs_size h with ⟨h1, h2, i, hi⟩ | ⟨h1, h2⟩
 ·simp [part, run_isAgg h1, run_sizeT hi, mkV, h1, h2]
 ·have hl := hk.len
  rw [h2] at hl
  cases hd : xs.drop off with
  | nil => rw [hd] at hl; simp at hl
  | cons v vs =>
    have hv : xs[off]? = some v := by
     have := congrArg (fun l => l[0]?) hd
     simpa using this
    simp [part, run_isAgg h1, mkV, h1, h2, hv]
theorem fields_eq {d m : Nat} (IH : ∀ (t : TypeId) (ks : List (Option IntKind)), eqKs P d t = some ks -> ∀ (w : World) (vs ws : List Value), Kd ks vs -> Kd ks ws -> (Op.equalIn (m + d) t (mkV P t vs) (mkV P t ws)).run P w = .ok (eqV vs ws) w) (w : World) (xs ys : List Value) :
  ∀ (fs : List Field) (off : Nat) (ks : List (Option IntKind)), fieldsKs (eqKs P d) fs off = some ks -> Kd ks ((xs.drop off).take ks.length) -> Kd ks ((ys.drop off).take ks.length) ->
    (Op.eqFields (m + d) ⟨xs⟩ ⟨ys⟩ fs).run P w = .ok (eqV ((xs.drop off).take ks.length) ((ys.drop off).take ks.length)) w
 | [], off, ks, h, _, _ => by
   unfold fieldsKs at h
   injection h with h; subst h
   simp [Op.eqFields, eqV]
 | f :: fs, off, ks, h, hx, hy => by
   unfold fieldsKs at h
   split at h
   ·rename_i kf hn hoff hks
    split at h
    ·rename_i ks' hrest
     injection h with h; subst h
     have hoff := Nat.eq_of_beq_eq_true hoff
     have e1 : ∀ l : List Value, (l.drop off).take (kf ++ ks').length = (l.drop off).take kf.length ++ (l.drop (off + kf.length)).take ks'.length := fun l => by
      rw [List.length_append, List.take_add, List.drop_drop]
     rw [e1] at hx hy
     obtain ⟨hx1, hx2⟩ := hx.split
     obtain ⟨hy1, hy2⟩ := hy.split
     have hlx := hx.len
     have hly := hy.len
     simp only [List.length_append] at hlx hly
     have hlx1 : ((xs.drop off).take kf.length).length = kf.length := by
      have h1 := List.length_take_le kf.length (xs.drop off)
      have h2 := List.length_take_le ks'.length (xs.drop (off + kf.length))
      omega
     have hly1 : ((ys.drop off).take kf.length).length = kf.length := by
      have h1 := List.length_take_le kf.length (ys.drop off)
      have h2 := List.length_take_le ks'.length (ys.drop (off + kf.length))
      omega
     rw [List.take_left' hlx1] at hx1
     rw [List.drop_left' hlx1] at hx2
     rw [List.take_left' hly1] at hy1
     rw [List.drop_left' hly1] at hy2
     rw [e1, e1, eqV_append (by rw [hlx1, hly1])]
     have hne : f.name ≠ "_" := by simpa using hn
     have ih := fields_eq IH w xs ys fs (off + kf.length) ks' hrest hx2 hy2
     simp only [Op.eqFields, hne, ne_eq, not_false_eq_true, if_true, Sem.run_bind, hoff, run_partK hks w hx1, run_partK hks w hy1, Result.andThen_ok, IH _ _ hks w _ _ hx1 hy1]
     cases eqV ((xs.drop off).take kf.length) ((ys.drop off).take kf.length) with
     | false => simp
     | true => simpa using ih
    ·cases h
   ·cases h
theorem items_eq {d m : Nat} {e : TypeId} {ks : List (Option IntKind)} (hks : eqKs P d e = some ks) (IH : ∀ (w : World) (vs ws : List Value), Kd ks vs -> Kd ks ws -> (Op.equalIn (m + d) e (mkV P e vs) (mkV P e ws)).run P w = .ok (eqV vs ws) w) (w : World) (xs ys : List Value) :
  ∀ (n s : Nat), Kd (List.replicate n ks).flatten ((xs.drop (s * ks.length)).take (n * ks.length)) -> Kd (List.replicate n ks).flatten ((ys.drop (s * ks.length)).take (n * ks.length)) ->
    (Op.eqItems (m + d) e ks.length ⟨xs⟩ ⟨ys⟩ (List.range' s n)).run P w = .ok (eqV ((xs.drop (s * ks.length)).take (n * ks.length)) ((ys.drop (s * ks.length)).take (n * ks.length))) w
 | 0, s, _, _ => by simp [Op.eqItems, eqV]
 | n + 1, s, hx, hy => by
   have e1 : ∀ l : List Value, (l.drop (s * ks.length)).take ((n + 1) * ks.length) = (l.drop (s * ks.length)).take ks.length ++ (l.drop ((s + 1) * ks.length)).take (n * ks.length) := fun l => by
    rw [Nat.add_mul, Nat.one_mul, Nat.add_comm, List.take_add, List.drop_drop, Nat.add_mul, Nat.one_mul]
   rw [e1, List.replicate_succ, List.flatten_cons] at hx hy
   obtain ⟨hx1, hx2⟩ := hx.split
   obtain ⟨hy1, hy2⟩ := hy.split
   have hlx := hx.len
   have hly := hy.len
   have hfl : (List.replicate n ks).flatten.length = n * ks.length := by simp
   simp only [List.length_append, hfl] at hlx hly
   have hlx1 : ((xs.drop (s * ks.length)).take ks.length).length = ks.length := by
    have h1 := List.length_take_le ks.length (xs.drop (s * ks.length))
    have h2 := List.length_take_le (n * ks.length) (xs.drop ((s + 1) * ks.length))
    omega
   have hly1 : ((ys.drop (s * ks.length)).take ks.length).length = ks.length := by
    have h1 := List.length_take_le ks.length (ys.drop (s * ks.length))
    have h2 := List.length_take_le (n * ks.length) (ys.drop ((s + 1) * ks.length))
    omega
   rw [List.take_left' hlx1] at hx1
   rw [List.drop_left' hlx1] at hx2
   rw [List.take_left' hly1] at hy1
   rw [List.drop_left' hly1] at hy2
   rw [e1, e1, eqV_append (by rw [hlx1, hly1]), List.range'_succ]
   have ih := items_eq hks IH w xs ys n (s + 1) hx2 hy2
   simp only [Op.eqItems, Sem.run_bind, run_partK hks w hx1, run_partK hks w hy1, Result.andThen_ok, IH w _ _ hx1 hy1]
   cases eqV ((xs.drop (s * ks.length)).take ks.length) ((ys.drop (s * ks.length)).take ks.length) with
   | false => simp
   | true => simpa using ih
theorem cellsOf_eq {t : TypeId} {i : TypeInfo} (h : P.info? t = some i) : P.cellsOf t = sizeT P t := by simp [Program.cellsOf, sizeT, h]
theorem equalIn_eq (m : Nat) : ∀ (d : Nat) (t : TypeId) (ks : List (Option IntKind)), eqKs P d t = some ks -> ∀ (w : World) (vs ws : List Value), Kd ks vs -> Kd ks ws -> (Op.equalIn (m + d) t (mkV P t vs) (mkV P t ws)).run P w = .ok (eqV vs ws) w := by
 intro d
 induction d with
 | zero => intro t ks h; simp [eqKs] at h
 | succ d ih =>
   intro t ks h w vs ws hv hw
   have hsz := eqKs_size h
   unfold eqKs at h
   split at h
   ·rename_i k hu
    injection h with h; subst h
    cases hv with | int _ a _ _ hv => cases hv
                                      cases hw with | int _ b _ _ hw => cases hw
                                                                        simp only [mkV, isAgg, hu, List.headD_cons, <- Nat.add_assoc]
                                                                        rw [run_equalIn_int w (m + d) t k k a b hu]
                                                                        simp [eqV, eq1]
   ·rename_i hu
    injection h with h; subst h
    cases hv with | bool a _ _ hv => cases hv
                                     cases hw with | bool b _ _ hw => cases hw
                                                                      simp only [mkV, isAgg, hu, List.headD_cons, <- Nat.add_assoc]
                                                                      rw [run_equalIn_bool' w (m + d) t a b hu]
                                                                      simp [eqV, eq1]
   ·rename_i fs hu
    split at h
    ·rename_i ks' hst hf
     split at h
     ·injection h with h; subst h
      have hfs : P.fieldsOf t = fs := by simp [Program.fieldsOf, hu]
      have hag : isAgg P t = some true := by simp [isAgg, hu]
      simp only [mkV, hag, <- Nat.add_assoc]
      rw [run_equalIn_struct w (m + d) t _ _ (by rw [hfs]; exact hu) hst, hfs]
      have e1 : ∀ l : List Value, Kd ks' l -> (l.drop 0).take ks'.length = l := fun l hl => by rw [List.drop_zero, <- hl.len, List.take_length]
      have := fields_eq (m := m) ih w vs ws fs.toList 0 ks' hf (by rw [e1 _ hv]; exact hv) (by rw [e1 _ hw]; exact hw)
      rw [e1 _ hv, e1 _ hw] at this
      exact this
     ·cases h
    ·cases h
   ·rename_i n e hu
    split at h
    ·rename_i ks' hks
     split at h
     ·rename_i hs
      simp only [Bool.and_eq_true] at hs
      injection h with h; subst h
      have hag : isAgg P t = some true := by simp [isAgg, hu]
      have hse := Nat.eq_of_beq_eq_true hs.1
      have hlen : (List.replicate n ks').flatten.length = n * ks'.length := by simp
      simp only [mkV, hag, <- Nat.add_assoc]
      have e1 : ∀ l : List Value, Kd (List.replicate n ks').flatten l -> (l.drop (0 * ks'.length)).take (n * ks'.length) = l := fun l hl => by
       rw [Nat.zero_mul, List.drop_zero, <- hlen, <- hl.len, List.take_length]
      have key := items_eq (m := m) hks (ih e ks' hks) w vs ws n 0 (by rw [e1 _ hv]; exact hv) (by rw [e1 _ hw]; exact hw)
      rw [e1 _ hv, e1 _ hw] at key
      have hie : ∃ i, P.info? e = some i := by
       cases d with
       | zero => simp [eqKs] at hks
       | succ d =>
         unfold eqKs at hks
         cases hue : P.underlying e with
         | none => simp [hue] at hks
         | some _ => exact info_of_underlying hue
      obtain ⟨i, hi⟩ := hie
      rw [run_equalIn_array w (m + d) _ _ hu hi, cellsOf_eq hi, hse, List.range_eq_range']
      exact key
     ·cases h
    ·cases h
   ·cases h
theorem eqKs_info {d : Nat} {e : TypeId} {ks : List (Option IntKind)} (hks : eqKs P d e = some ks) : ∃ i, P.info? e = some i := by
 cases d with
 | zero => simp [eqKs] at hks
 | succ d =>
   unfold eqKs at hks
   cases hue : P.underlying e with
   | none => simp [hue] at hks
   | some _ => exact info_of_underlying hue
theorem ckFields {em : Bool} {m d : Nat} (IH : ∀ (t : TypeId) (ks : List (Option IntKind)), eqKs P d t = some ks -> ∀ (w : World) (vs : List Value), Kd ks vs -> (Instr.checkKey em (m + d) t (mkV P t vs)).run P w = .ok () w) (w : World) (xs : List Value) :
  ∀ (fs : List Field) (off : Nat) (ks : List (Option IntKind)), fieldsKs (eqKs P d) fs off = some ks -> Kd ks ((xs.drop off).take ks.length) ->
    ∀ f ∈ fs, ∃ a, (part f.type ⟨xs⟩ f.offset).run P w = .ok a w /\ (Instr.checkKey em (m + d) f.type a).run P w = .ok () w
 | [], off, ks, h, _, f, hf => by simp at hf
 | f0 :: fs, off, ks, h, hx, f, hf => by
   unfold fieldsKs at h
   split at h
   ·rename_i kf hn hoff hks
    split at h
    ·rename_i ks' hrest
     injection h with h; subst h
     have hoff := Nat.eq_of_beq_eq_true hoff
     have e1 : (xs.drop off).take (kf ++ ks').length = (xs.drop off).take kf.length ++ (xs.drop (off + kf.length)).take ks'.length := by
      rw [List.length_append, List.take_add, List.drop_drop]
     rw [e1] at hx
     obtain ⟨hx1, hx2⟩ := hx.split
     have hlx := hx.len
     simp only [List.length_append] at hlx
     have hlx1 : ((xs.drop off).take kf.length).length = kf.length := by
      have h1 := List.length_take_le kf.length (xs.drop off)
      have h2 := List.length_take_le ks'.length (xs.drop (off + kf.length))
      omega
     rw [List.take_left' hlx1] at hx1
     rw [List.drop_left' hlx1] at hx2
     rcases List.mem_cons.1 hf with rfl | hf
     ·exact ⟨_, by rw [hoff]; exact run_partK hks w hx1, IH _ _ hks w _ hx1⟩
     ·exact ckFields IH w xs fs (off + kf.length) ks' hrest hx2 f hf
    ·cases h
   ·cases h
theorem ckItems {em : Bool} {m d : Nat} {e : TypeId} {ks : List (Option IntKind)} (hks : eqKs P d e = some ks) (IH : ∀ (w : World) (vs : List Value), Kd ks vs -> (Instr.checkKey em (m + d) e (mkV P e vs)).run P w = .ok () w) (w : World) (xs : List Value) :
  ∀ (n s : Nat), Kd (List.replicate n ks).flatten ((xs.drop (s * ks.length)).take (n * ks.length)) ->
    ∀ j ∈ List.range' s n, ∃ a, (part e ⟨xs⟩ (j * ks.length)).run P w = .ok a w /\ (Instr.checkKey em (m + d) e a).run P w = .ok () w
 | 0, s, _, j, hj => by simp at hj
 | n + 1, s, hx, j, hj => by
   have e1 : (xs.drop (s * ks.length)).take ((n + 1) * ks.length) = (xs.drop (s * ks.length)).take ks.length ++ (xs.drop ((s + 1) * ks.length)).take (n * ks.length) := by
    rw [Nat.add_mul, Nat.one_mul, Nat.add_comm, List.take_add, List.drop_drop, Nat.add_mul, Nat.one_mul]
   rw [e1, List.replicate_succ, List.flatten_cons] at hx
   obtain ⟨hx1, hx2⟩ := hx.split
   have hlx := hx.len
   have hfl : (List.replicate n ks).flatten.length = n * ks.length := by simp
   simp only [List.length_append, hfl] at hlx
   have hlx1 : ((xs.drop (s * ks.length)).take ks.length).length = ks.length := by
    have h1 := List.length_take_le ks.length (xs.drop (s * ks.length))
    have h2 := List.length_take_le (n * ks.length) (xs.drop ((s + 1) * ks.length))
    omega
   rw [List.take_left' hlx1] at hx1
   rw [List.drop_left' hlx1] at hx2
   rw [List.range'_succ] at hj
   rcases List.mem_cons.1 hj with rfl | hj
   ·exact ⟨_, run_partK hks w hx1, IH w _ hx1⟩
   ·exact ckItems hks IH w xs n (s + 1) hx2 j hj
theorem ck_eq (em : Bool) (m : Nat) : ∀ (d : Nat) (t : TypeId) (ks : List (Option IntKind)), eqKs P d t = some ks -> ∀ (w : World) (vs : List Value), Kd ks vs -> (Instr.checkKey em (m + d) t (mkV P t vs)).run P w = .ok () w := by
 intro d
 induction d with
 | zero => intro t ks h; simp [eqKs] at h
 | succ d ih =>
   intro t ks h w vs hv
   rw [<- Nat.add_assoc, Instr.checkKey]
   unfold eqKs at h
   split at h
   ·rename_i k hu
    injection h with h; subst h
    cases hv with | int _ a _ _ hv => cases hv
                                      simp [mkV, isAgg, hu, run_underlying hu]
   ·rename_i hu
    injection h with h; subst h
    cases hv with | bool a _ _ hv => cases hv
                                     simp [mkV, isAgg, hu, run_underlying hu]
   ·rename_i fs hu
    split at h
    ·rename_i ks' hst hf
     split at h
     ·injection h with h; subst h
      have hag : isAgg P t = some true := by simp [isAgg, hu]
      have e1 : (vs.drop 0).take ks'.length = vs := by rw [List.drop_zero, <- hv.len, List.take_length]
      have each := ckFields (em := em) (m := m) ih w vs fs.toList 0 ks' hf (by rw [e1]; exact hv)
      have hnm : ∀ (l : List Field) (off : Nat) (ks : List (Option IntKind)), fieldsKs (eqKs P d) l off = some ks → ∀ f ∈ l, f.name ≠ "_" := by
       intro l
       induction l with
       | nil => intro off ks _ f hf; simp at hf
       | cons f0 l ihl =>
         intro off ks h f hf
         unfold fieldsKs at h
         split at h
         ·rename_i kf hn hoff hks
          split at h
          ·rename_i ks2 hrest
           rcases List.mem_cons.1 hf with rfl | hf
           ·simpa using hn
           ·exact ihl _ _ hrest f hf
          ·cases h
         ·cases h
      have hnm := hnm _ _ _ hf
      simp only [mkV, hag, Sem.run_bind, run_underlying hu, Result.andThen_ok]
      rw [<- Array.forIn_toList]
      clear hf
      generalize fs.toList = L at each hnm
      induction L with
      | nil => simp
      | cons f L ihL =>
        obtain ⟨a, p1, p2⟩ := each f (by simp)
        have hn := hnm f (by simp)
        simp only [List.forIn_cons, Sem.run_bind, hn, ne_eq, not_false_eq_true, if_true, Result.andThen_ok, p1, p2, Sem.run_pure]
        exact ihL (fun y hy => each y (by simp [hy])) (fun y hy => hnm y (by simp [hy]))
     ·cases h
    ·cases h
   ·rename_i n e hu
    split at h
    ·rename_i ks' hks
     split at h
     ·rename_i hs
      simp only [Bool.and_eq_true] at hs
      injection h with h; subst h
      have hag : isAgg P t = some true := by simp [isAgg, hu]
      have hse := Nat.eq_of_beq_eq_true hs.1
      have hlen : (List.replicate n ks').flatten.length = n * ks'.length := by simp
      have e1 : (vs.drop (0 * ks'.length)).take (n * ks'.length) = vs := by
       rw [Nat.zero_mul, List.drop_zero, <- hlen, <- hv.len, List.take_length]
      have each := ckItems (em := em) (m := m) hks (ih e ks' hks) w vs n 0 (by rw [e1]; exact hv)
      obtain ⟨i, hi⟩ := eqKs_info hks
      have hsz := run_sizeT hi w
      simp only [mkV, hag, Sem.run_bind, run_underlying hu, Result.andThen_ok]
      simp only [Std.Legacy.Range.forIn_eq_forIn_range', Std.Legacy.Range.size, Nat.sub_zero, Nat.add_one_sub_one, Nat.div_one]
      generalize List.range' 0 n = is at each
      induction is with
      | nil => simp
      | cons j is ihs =>
        obtain ⟨a, p1, p2⟩ := each j (by simp)
        simp only [List.forIn_cons, Sem.run_bind, hsz, hse, Result.andThen_ok, p1, p2, Sem.run_pure]
        exact ihs (fun y hy => each y (by simp [hy]))
     ·cases h
    ·cases h
   ·cases h
theorem okKs_kd {C : Cx} {w : World} : ∀ {ks : List (Option IntKind)} {l : List AV} {vs : List Value}, okKs ks l = true -> RelL C w l vs -> Kd ks vs
 | [], [], _, _, h => by cases h; exact .nil
 | some k :: ks, a :: l, _, h, hr => by
   simp only [okKs] at h
   cases hr with
   | cons _ _ v vs h0 h1 =>
     split at h
     ·rename_i k' hk
      simp only [Bool.and_eq_true] at h
      have := of_decide_eq_true h.1
      subst this
      rw [kindOf_rel h0 hk]
      exact .int _ _ _ _ (okKs_kd h.2 h1)
     ·cases h
 | none :: ks, a :: l, _, h, hr => by
   simp only [okKs, Bool.and_eq_true] at h
   cases hr with
   | cons _ _ v vs h0 h1 =>
     have : ∃ b, v = .bool b := by
      cases a <;> simp [isBoolV] at h
      ·cases h0; exact ⟨_, rfl⟩
      ·cases h0; exact ⟨_, rfl⟩
     obtain ⟨b, rfl⟩ := this
     exact .bool _ _ _ (okKs_kd h.2 h1)
 | [], _ :: _, _, h, _ => by simp [okKs] at h
 | some _ :: _, [], _, h, _ => by simp [okKs] at h
 | none :: _, [], _, h, _ => by simp [okKs] at h
theorem eqCells_eq {C : Cx} {w : World} : ∀ {l m : List AV} {vs ws : List Value} {r : Bool}, eqCells l m = some r -> RelL C w l vs -> RelL C w m ws -> eqV vs ws = r
 | [], [], _, _, r, h, h1, h2 => by
   cases h1; cases h2
   simp [eqCells] at h; subst h; rfl
 | a :: l, b :: m, _, _, r, h, h1, h2 => by
   cases h1 with
   | cons _ _ x xs h1 h3 =>
   cases h2 with
   | cons _ _ y ys h2 h4 =>
   have one : ∀ r, eqC a b = some r -> eq1 x y = r := fun r he => by
    rcases eqC_rel h1 h2 he with ⟨k, p, q, rfl, rfl, rfl⟩ | ⟨p, q, rfl, rfl, rfl⟩
    ·rfl
    ·rfl
   unfold eqCells at h
   split at h
   ·cases h3; cases h4
    simp [eqV, one _ h]
   ·split at h
    ·rename_i r1 s1 e1 e2
     injection h with h; subst h
     rw [band_eq, eqV, one _ e1, eqCells_eq e2 h3 h4]
    ·cases h
 | [], _ :: _, _, _, r, h, _, _ => by simp [eqCells] at h
 | _ :: _, [], _, _, r, h, _, _ => by simp [eqCells] at h
theorem EqOK.of {t : TypeId} {ks : List (Option IntKind)} (d : Nat) (hd : d <= 10000) (hg : P.eqGuardType P.depth t = false) (ha : isAgg P t = some true) (h : eqKs P d t = some ks) (ht : t < 1048576 := by decide) : EqOK P t ks := by
 refine ⟨fun _ => ⟨hg, fun C w l m vs ws r h1 h2 h3 h4 he => ?_⟩, fun h => absurd (Nat.lt_of_lt_of_le ht h) (Nat.lt_irrefl _), fun _ em C w l vs h1 h2 => ?_⟩
 rotate_left
 ·have := ck_eq em (10000 - d) d t ks h w vs (okKs_kd h1 h2)
  rw [show 10000 - d + d = 10000 by omega] at this
  simpa [mkV, ha] using this
 have := equalIn_eq (10000 - d) d t ks h w vs ws (okKs_kd h1 h3) (okKs_kd h2 h4)
 rw [show 10000 - d + d = 10000 by omega, eqCells_eq he h3 h4] at this
 simpa [mkV, ha] using this
theorem EqOK.zero {t n : Nat} {z : AV} {ks : List (Option IntKind)} (hb : bigT P t = some (n, z)) (h : ZeroIs P (t, n, z)) : EqOK P (t + 1048576) ks := by
 refine ⟨fun h => absurd h (Nat.not_lt.2 (Nat.le_add_left _ _)), fun _ n' z' hb' => ?_, fun h => absurd h (Nat.not_lt.2 (Nat.le_add_left _ _))⟩
 rw [Nat.add_sub_cancel] at hb' ⊢
 rw [hb] at hb'
 injection hb' with hb'; injection hb' with e1 e2; subst e1 e2
 exact h
end
end Abs
end Go.Proofs.Ytdfdjlijghjdaaa

namespace Go.Proofs.Ytdfdjlijghjdaaa
namespace Abs
open Go Go.RowKit Go.ChangeShapes Go.WideShapes
def fieldsSh (rc : TypeId -> Option (List Sh)) : List Field -> Nat -> Option (List Sh)
 | [], _ => some []
 | f :: fs, off => (match Nat.beq f.offset off, rc f.type with
   | true, some l => (match fieldsSh rc fs (off + l.length) with | some l' => some (l ++ l') | none => none)
   | _, _ => none)
def shOf (P : Program) : Nat -> TypeId -> Option (List Sh)
 | 0, _ => none
 | d + 1, t => (match P.underlying t with
   | some (.int k) => (match Nat.beq (sizeT P t) 1 with | true => some [.int k] | false => none)
   | some .bool => (match Nat.beq (sizeT P t) 1 with | true => some [.bool] | false => none)
   | some (.slice e) => (match shOf P d e with
     | some l => (match Nat.beq (sizeT P t) 1 && cellShL l && Nat.blt 0 l.length with | true => some [.slice l.length l] | false => none)
     | none => none)
   | some (.struct fs) => (match fieldsSh (shOf P d) fs.toList 0 with
     | some l => (match Nat.beq (sizeT P t) l.length with | true => some l | false => none)
     | none => none)
   | some (.array n e) => (match shOf P d e with
     | some l => (match Nat.beq (sizeT P t) (n * l.length) with | true => some (List.replicate n l).flatten | false => none)
     | none => none)
   | _ => none)
def argSh (P : Program) (d : Nat) (t : TypeId) : Option Sh := match shOf P d t with
 | none => none
 | some l => (match isAgg P t with
   | some true => some (.agg l)
   | some false => (match l with | [s] => some s | _ => none)
   | none => none)
def argShs (P : Program) (d : Nat) : List TypeId -> Option (List Sh)
 | [] => some []
 | t :: ts => (match argSh P d t, argShs P d ts with | some s, some l => some (s :: l) | _, _ => none)
mutual
def Valid : (s : Sh) -> Dat s -> Prop
 | .int k, n => InR k n
 | .bool, _ => True
 | .slice _ e, x => x.1 <= maxLen /\ ∀ k, k < x.1 -> ValidL e (x.2 k)
 | .agg l, x => ValidL l x
 | .fn _ a b, x => ValidL a x.1 /\ ValidL b x.2
 | .ptr l, x => ValidL l x
 | .own _ _, _ => True
 | .rowr _, _ => True
 | .mpr _, _ => True
 | .any, _ => True
def ValidL : (l : List Sh) -> DatL l -> Prop
 | [], _ => True
 | s :: l, x => Valid s x.1 /\ ValidL l x.2
end
theorem shOf_size {P : Program} {d : Nat} {t : TypeId} {l : List Sh} (h : shOf P d t = some l) : sizeT P t = l.length := by
 cases d with
 | zero => simp [shOf] at h
 | succ d =>
   unfold shOf at h
   split at h
   ·split at h
    ·rename_i hs; injection h with h; subst h; exact Nat.eq_of_beq_eq_true hs
    ·cases h
   ·split at h
    ·rename_i hs; injection h with h; subst h; exact Nat.eq_of_beq_eq_true hs
    ·cases h
   ·split at h
    ·split at h
     ·rename_i hs
      simp only [Bool.and_eq_true] at hs
      injection h with h; subst h; exact Nat.eq_of_beq_eq_true hs.1.1
     ·cases h
    ·cases h
   ·split at h
    ·split at h
     ·rename_i hs; injection h with h; subst h; exact Nat.eq_of_beq_eq_true hs
     ·cases h
    ·cases h
   ·split at h
    ·split at h
     ·rename_i hs; injection h with h; subst h; rw [Nat.eq_of_beq_eq_true hs]; simp
     ·cases h
    ·cases h
   ·cases h
theorem sizeT_cells (P : Program) (t : TypeId) : P.cellsOf t = sizeT P t := by
 unfold Program.cellsOf sizeT
 cases P.info? t <;> rfl
theorem app_data : ∀ (l l' : List Sh) (y : DatL l) (y' : DatL l'), ∃ z : DatL (l ++ l'), encL (l ++ l') z = encL l y ++ encL l' y' /\ (ValidL l y -> ValidL l' y' -> ValidL (l ++ l') z)
 | [], l', y, y' => ⟨y', by simp [encL], fun _ h => h⟩
 | s :: l, l', y, y' => by
   obtain ⟨z, h1, h2⟩ := app_data l l' y.2 y'
   refine ⟨(y.1, z), ?_, ?_⟩
   ·show enc s y.1 :: encL (l ++ l') z = _
    rw [h1]; simp [encL]
   ·intro h h'
    unfold ValidL at h
    show ValidL (s :: (l ++ l')) (y.1, z)
    unfold ValidL
    exact ⟨h.1, h2 h.2 h'⟩
section
variable {H : Type} {enc' : TypeId × Value -> H} {P : Program} {w : World}
def Cx.all (w : World) : Cx := ⟨fun _ => none, fun b => b < w.heap.size, fun _ => none⟩
theorem hr_all (w : World) : HR (Cx.all w) [] w := ⟨fun i p h => by simp [Cx.all] at h, fun i j b c n b' c' n' h => by simp [Cx.all] at h, fun i b c n h => by simp [Cx.all] at h, fun b hb => hb, fun b x h => by simp [Cx.all] at h⟩
theorem choose_fn {α : Type} (d : α) {n : Nat} {p : Nat -> α -> Prop} (h : ∀ i, i < n -> ∃ x, p i x) : ∃ f : Nat -> α, ∀ i, i < n -> p i (f i) := by
 classical
 refine ⟨fun i => if hi : i < n then Classical.choose (h i hi) else d, fun i hi => ?_⟩
 simp only [dif_pos hi]
 exact Classical.choose_spec (h i hi)
theorem read_fields {d : Nat} {base : Nat} {spare : Nat -> Bool} {held : Bool} {cs : List Value}
  (IH : ∀ (fuel : Nat) (t : TypeId) (cs : List Value) (x : DataW H × List MemPlace), DataW.trod enc' P w base spare held fuel t cs = some x -> ∀ l, shOf P d t = some l -> ∃ y : DatL l, RelL (Cx.all w) w (encL l y) cs /\ ValidL l y) :
  ∀ (fs : List Field) (off : Nat) (l : List Sh), fieldsSh (shOf P d) fs off = some l -> (∀ f ∈ fs, ∃ fuel x, DataW.trod enc' P w base spare held fuel f.type ((cs.drop f.offset).take (P.cellsOf f.type)) = some x) ->
    ∃ y : DatL l, RelL (Cx.all w) w (encL l y) ((cs.drop off).take l.length) /\ ValidL l y
 | [], off, l, h, _ => by
   unfold fieldsSh at h
   injection h with h; subst h
   exact ⟨(), by simp [encL]; exact .nil, trivial⟩
 | f :: fs, off, l, h, hx => by
   unfold fieldsSh at h
   split at h
   ·rename_i l1 hoff h1
    split at h
    ·rename_i l2 h2
     injection h with h; subst h
     obtain ⟨fuel, x, hx1⟩ := hx f (by simp)
     rw [sizeT_cells, shOf_size h1, Nat.eq_of_beq_eq_true hoff] at hx1
     obtain ⟨y1, hr1, hv1⟩ := IH _ _ _ _ hx1 l1 h1
     obtain ⟨y2, hr2, hv2⟩ := read_fields IH fs (off + l1.length) l2 h2 (fun g hg => hx g (by simp [hg]))
     obtain ⟨z, hz1, hz2⟩ := app_data l1 l2 y1 y2
     refine ⟨z, ?_, hz2 hv1 hv2⟩
     rw [hz1, List.length_append, List.take_add, List.drop_drop]
     exact hr1.append hr2
    ·cases h
   ·cases h
theorem read_items {d : Nat} {base : Nat} {spare : Nat -> Bool} {held : Bool} {cs : List Value} {e : TypeId} {l : List Sh} (hl : shOf P d e = some l)
  (IH : ∀ (fuel : Nat) (t : TypeId) (cs : List Value) (x : DataW H × List MemPlace), DataW.trod enc' P w base spare held fuel t cs = some x -> ∀ l, shOf P d t = some l -> ∃ y : DatL l, RelL (Cx.all w) w (encL l y) cs /\ ValidL l y) :
  ∀ (n s : Nat), (∀ i, s <= i -> i < s + n -> ∃ fuel x, DataW.trod enc' P w base spare held fuel e ((cs.drop (i * l.length)).take l.length) = some x) ->
    ∃ y : DatL (List.replicate n l).flatten, RelL (Cx.all w) w (encL (List.replicate n l).flatten y) ((cs.drop (s * l.length)).take (n * l.length)) /\ ValidL (List.replicate n l).flatten y
 | 0, s, _ => ⟨(), by simp [encL]; exact .nil, trivial⟩
 | n + 1, s, hx => by
   obtain ⟨fuel, x, hx1⟩ := hx s (Nat.le_refl _) (by omega)
   obtain ⟨y1, hr1, hv1⟩ := IH _ _ _ _ hx1 l hl
   obtain ⟨y2, hr2, hv2⟩ := read_items hl IH n (s + 1) (fun i h1 h2 => hx i (by omega) (by omega))
   obtain ⟨z, hz1, hz2⟩ := app_data l (List.replicate n l).flatten y1 y2
   refine ⟨z, ?_, hz2 hv1 hv2⟩
   show RelL (Cx.all w) w (encL (l ++ (List.replicate n l).flatten) z) _
   rw [hz1, Nat.add_mul, Nat.one_mul, Nat.add_comm (n * l.length), List.take_add, List.drop_drop]
   rw [Nat.add_mul, Nat.one_mul] at hr2
   exact hr1.append hr2
theorem read_cells {base : Nat} {spare : Nat -> Bool} {held : Bool} : ∀ (d : Nat) (fuel : Nat) (t : TypeId) (cs : List Value) (x : DataW H × List MemPlace), DataW.trod enc' P w base spare held fuel t cs = some x ->
  ∀ l, shOf P d t = some l -> ∃ y : DatL l, RelL (Cx.all w) w (encL l y) cs /\ ValidL l y := by
 intro d
 induction d with
 | zero => intro fuel t cs x h l hl; simp [shOf] at hl
 | succ d ih =>
   intro fuel t cs x h l hl
   have hsz := shOf_size hl
   unfold shOf at hl
   split at hl
   ·rename_i k hu
    split at hl
    ·injection hl with hl; subst hl
     obtain ⟨n, rfl, _, hw⟩ := DataW.trod_int hu h
     refine ⟨((n : Int), ()), .cons _ _ _ _ (.si k n) .nil, ?_, trivial⟩
     simp only [Lit.wf, Bool.and_eq_true, decide_eq_true_eq] at hw
     exact hw
    ·cases hl
   ·rename_i hu
    split at hl
    ·injection hl with hl; subst hl
     obtain ⟨b, rfl, _⟩ := DataW.trod_bool hu h
     exact ⟨((b : Bool), ()), .cons _ _ _ _ (.sb b) .nil, trivial, trivial⟩
    ·cases hl
   ·rename_i e hu
    split at hl
    ·rename_i le hle
     split at hl
     ·rename_i hc
      simp only [Bool.and_eq_true] at hc
      injection hl with hl; subst hl
      have hpos : 0 < le.length := by have := Nat.le_of_ble_eq_true (show Nat.ble (0 + 1) le.length = true from hc.2); omega
      have hse : P.cellsOf e = le.length := by rw [sizeT_cells, shOf_size hle]
      rcases Go.Deep.open_slice hu h with ⟨rfl, _⟩ | ⟨a, len, cap, m, n, D, Pl, rfl, hb, hlc, hcm, hm, _, hel⟩
      ·refine ⟨((0, fun _ => decL le []), ()), .cons _ _ _ _ ?_ .nil, ⟨Nat.zero_le _, fun k hk => by simp at hk⟩, trivial⟩
       exact .slc (.sym 0) _ _ none 0 (fun _ => []) (Nat.le_refl _) (fun h => by simp [LN.val] at h) (fun k hk => by simp [LN.val] at hk) (fun k hk => by simp [LN.val] at hk) (fun k hk => by simp [LN.val] at hk)
      ·have hle2 : len <= m := by rw [hm]; split <;> omega
       obtain ⟨f, hf⟩ := choose_fn (decL le [], ([] : List Value)) (n := len) (p := fun i (z : DatL le × List Value) => RelL (Cx.all w) w (encL le z.1) z.2 /\ ValidL le z.1 /\ w.cells? base (a.add (i * le.length)) le.length = some z.2) (fun i hi => by
        obtain ⟨cs', h1, h2⟩ := hel i (by omega)
        rw [hse] at h1
        obtain ⟨y, hr, hv⟩ := ih _ _ _ _ h2 le hle
        exact ⟨(y, cs'), hr, hv, h1⟩)
       refine ⟨((len, fun i => (f i).1), ()), .cons _ _ _ _ ?_ .nil, ⟨by simp only; omega, fun k hk => (hf k hk).2.1⟩, trivial⟩
       refine .slc (.sym len) _ _ (some a) cap (fun i => (f i).2) hlc (fun h0 => ⟨a, rfl, ?_, fun k hk j hj => ?_⟩) (fun k hk => (hf k hk).1) (fun k hk => ?_) (fun k hk => enc_okL hc.1.2)
       ·obtain ⟨_, h1, h2⟩ := World.cells?_some (hf 0 h0).2.2
        have h3 := h2 0 (by omega)
        rw [List.getElem?_eq_getElem (by omega), Nat.zero_mul] at h3
        show a.block < w.heap.size
        rcases Nat.lt_or_ge a.block w.heap.size with h | h
        ·exact h
        ·exfalso
         unfold World.cell? at h3
         rw [add_block, add_block, Array.getElem?_eq_none h] at h3
         simp at h3
       ·obtain ⟨_, h1, h2⟩ := World.cells?_some (hf k hk).2.2
        rw [<- add_add]
        exact h2 j hj
       ·exact (World.cells?_some (hf k hk).2.2).2.1
     ·cases hl
    ·cases hl
   ·rename_i fs hu
    split at hl
    ·rename_i lf hf
     split at hl
     ·injection hl with hl; subst hl
      obtain ⟨xs, n, _, _, hlen, hxl, hx⟩ := DataW.trod_struct hu h
      obtain ⟨y, hr, hv⟩ := read_fields ih fs.toList 0 lf hf (cs := cs) (fun f hfm => by
       obtain ⟨i, hi, hfi⟩ := List.getElem_of_mem hfm
       have h1 := hx i f (by simp at hi; simp [hi]; simpa using hfi)
       have h2 : xs[i]? = some (xs[i]'(by simp at hi; omega)) := List.getElem?_eq_getElem _
       exact ⟨n, _, by rw [h1, h2]⟩)
      refine ⟨y, ?_, hv⟩
      rwa [List.drop_zero, List.take_of_length_le (by rw [hlen, sizeT_cells, hsz]; exact Nat.le_refl _)] at hr
     ·cases hl
    ·cases hl
   ·rename_i n e hu
    split at hl
    ·rename_i le hle
     split at hl
     ·injection hl with hl; subst hl
      obtain ⟨xs, m, _, _, hlen, hxl, hx⟩ := DataW.trod_array hu h
      obtain ⟨y, hr, hv⟩ := read_items (cs := cs) hle ih n 0 (fun i _ hi => by
       have h1 := hx i (by omega)
       rw [sizeT_cells, shOf_size hle] at h1
       exact ⟨m, _, by rw [h1, List.getElem?_eq_getElem (by omega)]⟩)
      refine ⟨y, ?_, hv⟩
      rw [Nat.zero_mul, List.drop_zero, List.take_of_length_le (by rw [hlen, sizeT_cells, hsz]; simp)] at hr
      exact hr
     ·cases hl
    ·cases hl
   ·cases hl
theorem read_arg {d base b0 : Nat} {r : Reach} {spare : Nat -> Bool} {held : Bool} {t : TypeId} {v : Value} {dd : DataW H} {ps : List MemPlace} {s : Sh} (hval : Value.okWide P w r b0 t v) (h : DataW.Trod enc' P w base spare held t v dd ps) (hs : argSh P d t = some s) :
  ∃ y : Dat s, Rel (Cx.all w) w (enc s y) v /\ Valid s y := by
 obtain ⟨fuel, h⟩ := h
 unfold argSh at hs
 split at hs
 ·cases hs
 ·rename_i l hl
  split at hs
  ·rename_i ha
   injection hs with hs; subst hs
   obtain ⟨y, hr, hv⟩ := read_cells d _ _ _ _ h l hl
   have hagg : ∃ cs, v = .agg cs := by
    unfold Value.okWide at hval
    unfold isAgg at ha
    split at ha
    ·rename_i fs hu; rw [hu] at hval; obtain ⟨cs, h1, _⟩ := hval; exact ⟨cs, h1⟩
    ·rename_i n e hu; rw [hu] at hval; obtain ⟨cs, h1, _⟩ := hval; exact ⟨cs, h1⟩
    ·cases ha
    ·cases ha
   obtain ⟨cs, rfl⟩ := hagg
   refine ⟨y, ?_, ?_⟩
   ·unfold enc; exact .agg _ _ hr
   ·unfold Valid; exact hv
  ·split at hs
   ·injection hs with hs; subst hs
    obtain ⟨y, hr, hv⟩ := read_cells d _ _ _ _ h _ hl
    have ha : isAgg P t = some false := by assumption
    have hone : v.cells.toList = [v] := by
     unfold isAgg at ha
     have hsz := shOf_size hl
     cases d with
     | zero => simp [shOf] at hl
     | succ d =>
       unfold shOf at hl
       split at hl
       ·rename_i k hu; obtain ⟨n, h1, _⟩ := DataW.trod_int hu h
        unfold Value.okWide Cell.okWide Cell.ok at hval
        simp only [hu] at hval
        cases v <;> simp at hval <;> rfl
       ·rename_i hu; obtain ⟨n, h1, _⟩ := DataW.trod_bool hu h
        unfold Value.okWide Cell.okWide Cell.ok at hval
        simp only [hu] at hval
        cases v <;> simp at hval <;> rfl
       ·rename_i e hu
        unfold Value.okWide Cell.okWide Cell.ok at hval
        simp only [hu] at hval
        cases v <;> simp at hval <;> rfl
       ·rename_i fs hu; simp [hu] at ha
       ·rename_i n e hu; simp [hu] at ha
       ·cases hl
    rw [hone] at hr
    cases hr with
    | cons _ _ _ _ h1 h2 =>
      unfold ValidL at hv
      exact ⟨y.1, h1, hv.1⟩
   ·cases hs
  ·cases hs
theorem read_all {d base b0 : Nat} {r : Reach} {spare : Nat -> Bool} {held : Bool} : ∀ {ts : List TypeId} {vs : List Value} {ds : List (DataW H)} {ps : List MemPlace} {shs : List Sh}, DataW.TrodAll enc' P w base spare held ts vs ds ps ->
  (∀ (j : Nat) (t : TypeId) (v : Value), ts[j]? = some t -> vs[j]? = some v -> Value.okWide P w r b0 t v) -> argShs P d ts = some shs -> ∃ x : DatL shs, RelL (Cx.all w) w (encL shs x) vs /\ ValidL shs x
 | [], vs, ds, ps, shs, h, _, hs => by
   unfold argShs at hs
   injection hs with hs; subst hs
   obtain ⟨rfl, _, _⟩ := trodAll_nil h
   exact ⟨(), by unfold encL; exact .nil, trivial⟩
 | t :: ts, vs, ds, ps, shs, h, hok, hs => by
   unfold argShs at hs
   split at hs
   ·rename_i s l h1 h2
    injection hs with hs; subst hs
    obtain ⟨v, vs, dd, ds, p, q, rfl, rfl, rfl, h3, h4⟩ := trodAll_cons h
    obtain ⟨y, hr, hv⟩ := read_arg (hok 0 t v rfl rfl) h3 h1
    obtain ⟨x, hrs, hvs⟩ := read_all h4 (fun j t' v' ht hv => hok (j + 1) t' v' (by simpa using ht) (by simpa using hv)) h2
    exact ⟨(y, x), by unfold encL; exact .cons _ _ _ _ hr hrs, by unfold ValidL; exact ⟨hv, hvs⟩⟩
   ·cases hs
end
end Abs
end Go.Proofs.Ytdfdjlijghjdaaa

namespace Go.Proofs.Ytdfdjlijghjdaaa
namespace Abs
open Go Go.RowKit Go.ChangeShapes Go.WideShapes
section
variable {H : Type} {enc' : TypeId × Value -> H} {P : Program} {W W' : World}
theorem trodAll_stays (laid : laidOutB P = true) (hb : Below W.heap.size W W') : ∀ {ts : List TypeId} {vs : List Value} {ds : List (DataW H)} {ps : List MemPlace}, (ts.all fun t => P.readableRec t && decide (t < P.types.size)) = true ->
  DataW.TrodAll enc' P W 0 (fun _ => true) true ts vs ds ps -> (∀ x ∈ ps, x.block < W.heap.size) -> DataW.TrodAll enc' P W' 0 (fun b => decide (b < W.heap.size)) true ts vs ds ps
 | [], vs, ds, ps, _, h, _ => by
   obtain ⟨rfl, rfl, rfl⟩ := trodAll_nil h
   exact trodAll_mk0
 | t :: ts, vs, ds, ps, hr, h, hlt => by
   obtain ⟨v, vs, d, ds, p, q, rfl, rfl, rfl, h1, h2⟩ := trodAll_cons h
   simp only [List.all_cons, Bool.and_eq_true, decide_eq_true_eq] at hr
   exact trodAll_cons_mk (Below.trod laid hr.1.1 hr.1.2 h1 hb fun x hx => hlt x (List.mem_append_left _ hx)) (trodAll_stays laid hb hr.2 h2 fun x hx => hlt x (List.mem_append_right _ hx))
theorem trodAll_len : ∀ {ts : List TypeId} {vs : List Value} {ds : List (DataW H)} {ps : List MemPlace} {base : Nat} {sp : Nat -> Bool} {held : Bool}, DataW.TrodAll enc' P W base sp held ts vs ds ps -> ds.length = ts.length
 | [], vs, ds, ps, _, _, _, h => by
   obtain ⟨rfl, rfl, rfl⟩ := trodAll_nil h
   rfl
 | t :: ts, vs, ds, ps, _, _, _, h => by
   obtain ⟨v, vs, d, ds, p, q, rfl, rfl, rfl, h1, h2⟩ := trodAll_cons h
   simp [trodAll_len h2]
theorem law_post {f : Func} {s : ChangeSpec} {tb : TypeId} {apart handsOn fresh : Bool} (laid : laidOutB P = true) (hrt : f.resultTypes = #[tb]) (hub : P.underlying tb = some .bool) (hpar : (f.params.toList.all fun t => P.readableRec t && decide (t < P.types.size)) = true)
  (hsv : s.vars = []) {args : Array Value} {ds gs : List (DataW H)} {before : List MemPlace} (n : Nat) (hn : f.params.toList.length = n) (hsf0 : ∀ ds : List (DataW H), ds.length = n -> (s.fn H ds).results = [.lit (.bool true)] /\ (s.fn H ds).args = ds /\ (s.fn H ds).vars = [])
  (hW : DataW.Whole enc' P f.params.toList s.vars apart W args.toList ds gs before) (hb : Below W.heap.size W W') : s.post enc' P f apart fresh handsOn false W args (.bool true) W' := by
 have hlt := hW.lt
 have hW' := hW
 obtain ⟨p, q, hA, hV, rfl, hfz, hnd⟩ := hW
 have hsf := hsf0 ds ((trodAll_len hA).trans hn)
 rw [hsv] at hV
 obtain ⟨rfl, rfl⟩ := trodVars_none hV
 rw [List.append_nil] at hlt hW'
 refine ⟨ds, [], p, [], p, [], hW', ?_, ?_, ?_, hb.frame _, fun h => by cases h⟩
 ·rw [List.append_nil, hsf.1, hrt]
  exact trodAll_mk1 (shut_bool hub true)
 ·rw [List.append_nil, hsf.2.1]
  exact trodAll_stays laid hb hpar hA hlt
 ·rw [hsv, List.append_nil, hsf.2.2]
  exact rfl
def LawFn (P : Program) (f : FuncId) (shs : List Sh) : Prop := FnSpec P f shs ⟨ValidL shs, fun _ => .sb true⟩
theorem law_calls {f : FuncId} {fn : Func} {shs : List Sh} (hl : LawFn P f shs) {d : Nat} {args : Array Value} {ds : List (DataW H)} {ps : List MemPlace} (hs : argShs P d fn.params.toList = some shs)
  (hA : DataW.TrodAll enc' P W 0 (fun _ => true) true fn.params.toList args.toList ds ps) {r : Reach} {base : Nat} (hval : ∀ (j : Nat) t v, fn.params[j]? = some t -> args[j]? = some v -> Value.okWide P W r base t v) :
  Calls P f args W fun e W' => e = .returned (.bool true) /\ Below W.heap.size W W' := by
 obtain ⟨x, hr, hv⟩ := read_all (d := d) hA (fun j t v ht hv => hval j t v (by simpa using ht) (by simpa using hv)) hs
 have := hl x hv (Cx.all W) W args.toList (fun _ => rfl) (hr_all W) hr
 refine Calls.mono this ?_
 rintro e w' ⟨v, C', he, h1, h2, h3⟩
 cases h2
 exact ⟨he, h3.os, h3.tape, h3.output, h3.size, fun k hk => h3.keep k hk fun i b c n hi => by simp at hi⟩
end
end Abs
end Go.Proofs.Ytdfdjlijghjdaaa

namespace Go.Proofs.Ytdfdjlijghjdaaa
namespace Abs
open Go Go.RowKit
def renA (f : Nat -> Nat) : AV -> AV
 | .own i off => .own (f i) off
 | .row i => .row (f i)
 | .mp i => .mp (f i)
 | .agg l => .agg (renL f l)
 | .tup l => .tup (renL f l)
 | .fn g a b => .fn g (renL f a) (renL f b)
 | a => a
where renL (f : Nat -> Nat) : List AV -> List AV
 | [] => []
 | a :: l => renA f a :: renL f l
def okR (p : Nat -> Bool) : AV -> Bool
 | .own i _ => p i
 | .row i => p i
 | .mp i => p i
 | .elt _ _ _ _ => false
 | .lsl _ _ _ => false
 | .gd _ _ => false
 | .agg l => okRL p l
 | .tup l => okRL p l
 | .fn _ a b => okRL p a && okRL p b
 | _ => true
where okRL (p : Nat -> Bool) : List AV -> Bool
 | [] => true
 | a :: l => okR p a && okRL p l
noncomputable section
def renA_renLP : {g : (Nat -> Nat) -> List AV -> List AV // renA.renL = g} := ⟨_, by delta renA.renL; rfl⟩
def renA_renLN : (Nat -> Nat) -> List AV -> List AV := renA_renLP.1
theorem renA_renLN_eq : renA_renLN = renA.renL := renA_renLP.2.symm
def renAP : {g : (Nat -> Nat) -> AV -> AV // renA = g} := ⟨_, by delta renA; rfl⟩
def renAN : (Nat -> Nat) -> AV -> AV := renAP.1
theorem renAN_eq : renAN = renA := renAP.2.symm
def okR_okRLP : {g : (Nat -> Bool) -> List AV -> Bool // okR.okRL = g} := ⟨_, by delta okR.okRL; rfl⟩
def okR_okRLN : (Nat -> Bool) -> List AV -> Bool := okR_okRLP.1
theorem okR_okRLN_eq : okR_okRLN = okR.okRL := okR_okRLP.2.symm
def okRP : {g : (Nat -> Bool) -> AV -> Bool // okR = g} := ⟨_, by delta okR; rfl⟩
def okRN : (Nat -> Bool) -> AV -> Bool := okRP.1
theorem okRN_eq : okRN = okR := okRP.2.symm
end
attribute [simp] renA_renLN_eq renAN_eq okR_okRLN_eq okRN_eq
noncomputable section
def renB (f : Nat -> Nat) : Blk -> Blk
 | .cells t l => .cells t (renA_renLN f l)
 | b => b
def okRB (p : Nat -> Bool) : Blk -> Bool
 | .cells _ l => okR_okRLN p l
 | .rows _ _ _ _ _ _ _ _ => false
 | _ => true
def okRH (p : Nat -> Bool) : Heap -> Bool
 | [] => true
 | b :: l => okRB p b && okRH p l
def posD : List Nat -> Nat -> Nat
 | [], _ => 0
 | j :: l, i => (match Nat.beq j i with | true => 0 | false => posD l i + 1)
def nodupB : List Nat -> Bool
 | [] => true
 | j :: l => !(memN j l) && nodupB l
def subH (js : List Nat) (hp : Heap) : List Nat -> Heap
 | [] => []
 | j :: l => renB (posD js) (getB hp j) :: subH js hp l
def okSub (js : List Nat) (hp : Heap) : List Nat -> Bool
 | [] => true
 | j :: l => okRB (fun i => memN i js) (getB hp j) && okSub js hp l
def outN (js : List Nat) (n : Nat) (k : Nat) : Nat := match js[k]? with | some i => i | none => n + (k - js.length)
def putH (js : List Nat) (f : Nat -> Nat) (h1 : Heap) : Nat -> Heap -> Heap
 | _, [] => []
 | i, b :: l => (match memN i js with | true => renB f (getB h1 (posD js i)) | false => b) :: putH js f h1 (i + 1) l
def newH (f : Nat -> Nat) : Nat -> Heap -> Heap
 | _, [] => []
 | 0, b :: l => renB f b :: newH f 0 l
 | m + 1, _ :: l => newH f m l
end
section
variable {P : Program} {S : Sums} {C C' C1 : Cx} {w w' : World} {H hp : Heap}
theorem ren_rel {f : Nat -> Nat} {p : Nat -> Bool} (hρ : ∀ i q, p i = true -> C.ρ i = some q -> C'.ρ (f i) = some q) (hI : ∀ b, C.I b -> C'.I b) {a : AV} {v : Value} (h : Rel C w a v) : okR p a = true -> Rel C' w (renA f a) v := by
 refine Rel.rec (C := C) (w := w) (motive_1 := fun a v _ => okR p a = true -> Rel C' w (renA f a) v) (motive_2 := fun l vs _ => okR.okRL p l = true -> RelL C' w (renA.renL f l) vs)
  ?_ ?_ ?_ ?_ ?_ ?_ ?_ ?_ ?_ ?_ ?_ ?_ ?_ ?_ ?_ ?_ ?_ ?_ ?_ ?_ ?_ h
 ·exact fun v _ => .top v
 ·exact fun k a v ho => by simp [okR] at ho
 ·exact fun k n _ => .li k n
 ·exact fun k n _ => .si k n
 ·exact fun b _ => .lb b
 ·exact fun b _ => .sb b
 ·exact fun x _ => .v x
 ·exact fun l vs _ h ho => .agg _ vs (h (by simpa [okR] using ho))
 ·exact fun l vs _ h ho => .tup _ vs (h (by simpa [okR] using ho))
 ·exact fun i off b c n h ho => .own _ _ _ _ _ (hρ _ _ (by simpa [okR] using ho) h)
 ·exact fun i sz k off b c n h hk ho => by simp [okR] at ho
 ·exact fun i b c n h ho => .row _ _ _ _ (hρ _ _ (by simpa [okR] using ho) h)
 ·exact fun i n sz b c m h ho => by simp [okR] at ho
 ·exact fun i h ho => .rown _ (hρ _ _ (by simpa [okR] using ho) h)
 ·intro n sz el A cap vs hcap hA hr hl hn _ _
  exact (Rel.slc n sz el A cap vs hcap hA hr hl hn).change hI rfl
 ·intro l ad vs hr hI' hc hn _ _
  exact (Rel.xp l ad vs hr hI' hc hn).change hI rfl
 ·exact fun g l m vs ws _ _ h h' ho => by
   simp [okR] at ho
   exact .fn _ _ _ vs ws (h ho.1) (h' ho.2)
 ·intro n sz el ad vs hI' hc hr hl hn _ _
  exact (Rel.pa n sz el ad vs hI' hc hr hl hn).change hI rfl
 ·exact fun i b c n h ho => .mp _ _ _ _ (hρ _ _ (by simpa [okR] using ho) h)
 ·exact fun _ => .nil
 ·exact fun a l v vs _ _ h h' ho => by
   simp [okR.okRL] at ho
   exact .cons _ _ v vs (h ho.1) (h' ho.2)
theorem ren_relL {f : Nat -> Nat} {p : Nat -> Bool} (hρ : ∀ i q, p i = true -> C.ρ i = some q -> C'.ρ (f i) = some q) (hI : ∀ b, C.I b -> C'.I b) : ∀ {l : List AV} {vs : List Value}, RelL C w l vs -> okR.okRL p l = true -> RelL C' w (renA.renL f l) vs
 | _, _, .nil, _ => .nil
 | _, _, .cons a l v vs h h', ho => by
   simp [okR.okRL] at ho
   exact .cons _ _ _ _ (ren_rel hρ hI h ho.1) (ren_relL hρ hI h' ho.2)
theorem ren_brel {f : Nat -> Nat} {p : Nat -> Bool} (hρ : ∀ i q, p i = true -> C.ρ i = some q -> C'.ρ (f i) = some q) (hI : ∀ b, C.I b -> C'.I b) {b : Blk} {q : Pl} (h : BRel C w q b) (ho : okRB p b = true) : BRel C' w q (renB f b) := by
 cases b with
 | dead => cases q <;> exact h.elim
 | cells t l =>
   cases q with
   | nil => exact h.elim
   | «at» x cap n =>
     obtain ⟨vs, hr, hh⟩ := h
     unfold okRB at ho
     rw [okR_okRLN_eq] at ho
     unfold renB
     rw [renA_renLN_eq]
     exact ⟨vs, ren_relL hρ hI hr ho, hh⟩
 | row e sz m el =>
   cases q with
   | nil => exact h
   | «at» x cap n =>
     obtain ⟨h1, h2, h3, cs, vs, hh, hs, hc⟩ := h
     exact ⟨h1, h2, h3, cs, vs, hh, hs, fun k hk => ⟨(hc k hk).1.change hI (own_ok (hc k hk).2.1), (hc k hk).2⟩⟩
 | mat t wd m f =>
   cases q with
   | nil => exact h.elim
   | «at» x cap n =>
     obtain ⟨h1, h2, h3, cs, hh, hs, hc⟩ := h
     exact ⟨h1, h2, h3, cs, hh, hs, fun k hk j hj => by
      obtain ⟨ho, v, hv, hr⟩ := hc k hk j hj
      exact ⟨ho, v, hv, hr.change hI (own_okC ho)⟩⟩
 | rows => unfold okRB at ho; cases ho
 | tab m sz el =>
   cases q with
   | nil => exact h.elim
   | «at» x cap n =>
     obtain ⟨es, ck, vs, hh, hs, hc⟩ := h
     exact ⟨es, ck, vs, hh, hs, fun k hk => ⟨(hc k hk).1.change hI (own_ok (hc k hk).2.1), (hc k hk).2⟩⟩
theorem pos_mem : ∀ {js : List Nat} {i : Nat}, memN i js = true -> js[posD js i]? = some i
 | [], i, h => by simp [memN] at h
 | j :: l, i, h => by
   unfold memN at h
   unfold posD
   split at h
   ·rename_i e; rw [e]; have := Nat.eq_of_beq_eq_true e; subst this; rfl
   ·rename_i e; rw [e]; simpa using pos_mem h
theorem mem_get : ∀ {js : List Nat} {k i : Nat}, js[k]? = some i -> memN i js = true
 | [], k, i, h => by simp at h
 | j :: l, 0, i, h => by
   simp at h; subst h
   unfold memN; rw [Nat.beq_refl]
 | j :: l, k + 1, i, h => by
   simp at h
   unfold memN
   split
   ·rfl
   ·exact mem_get h
theorem nodup_inj : ∀ {js : List Nat} {k k' i : Nat}, nodupB js = true -> js[k]? = some i -> js[k']? = some i -> k = k'
 | [], k, k', i, _, h, _ => by simp at h
 | j :: l, 0, 0, i, _, _, _ => rfl
 | j :: l, 0, k' + 1, i, hn, h, h' => by
   simp at h h'; subst h
   simp [nodupB, mem_get h'] at hn
 | j :: l, k + 1, 0, i, hn, h, h' => by
   simp at h h'; subst h'
   simp [nodupB, mem_get h] at hn
 | j :: l, k + 1, k' + 1, i, hn, h, h' => by
   simp at h h'
   simp [nodupB] at hn
   rw [nodup_inj hn.2 h h']
theorem getB_sub (js : List Nat) (hp : Heap) : ∀ (l : List Nat) (k i : Nat), l[k]? = some i -> getB (subH js hp l) k = renB (posD js) (getB hp i)
 | [], k, i, h => by simp at h
 | j :: l, 0, i, h => by simp at h; subst h; rfl
 | j :: l, k + 1, i, h => by simp at h; exact getB_sub js hp l k i h
theorem len_sub (js : List Nat) (hp : Heap) : ∀ l : List Nat, (subH js hp l).length = l.length
 | [] => rfl
 | _ :: l => by simp [subH, len_sub js hp l]
theorem ok_sub (js : List Nat) (hp : Heap) : ∀ (l : List Nat) (k i : Nat), okSub js hp l = true -> l[k]? = some i -> okRB (fun i => memN i js) (getB hp i) = true
 | [], k, i, _, h => by simp at h
 | j :: l, 0, i, ho, h => by simp at h; subst h; simp [okSub] at ho; exact ho.1
 | j :: l, k + 1, i, ho, h => by simp at h; simp [okSub] at ho; exact ok_sub js hp l k i ho.2 h
theorem len_put (js : List Nat) (f : Nat -> Nat) (h1 : Heap) : ∀ (i : Nat) (l : Heap), (putH js f h1 i l).length = l.length
 | _, [] => rfl
 | i, _ :: l => by simp [putH, len_put js f h1 (i + 1) l]
theorem getB_put (js : List Nat) (f : Nat -> Nat) (h1 : Heap) : ∀ (i k : Nat) (l : Heap), k < l.length -> getB (putH js f h1 i l) k = (match memN (i + k) js with | true => renB f (getB h1 (posD js (i + k))) | false => getB l k)
 | i, k, [], h => by simp at h
 | i, 0, b :: l, _ => rfl
 | i, k + 1, b :: l, h => by
   have := getB_put js f h1 (i + 1) k l (by simpa using h)
   rw [show i + 1 + k = i + (k + 1) by omega] at this
   exact this
theorem getB_new (f : Nat -> Nat) : ∀ (m k : Nat) (l : Heap), getB (newH f m l) k = renB f (getB l (k + m))
 | m, k, [] => by cases m <;> rfl
 | 0, 0, b :: l => rfl
 | 0, k + 1, b :: l => by have := getB_new f 0 k l; exact this
 | m + 1, k, b :: l => by have := getB_new f m k l; rw [show k + (m + 1) = (k + m) + 1 by omega]; exact this
theorem okRH_get {p : Nat -> Bool} : ∀ {l : Heap} {k : Nat}, okRH p l = true -> okRB p (getB l k) = true
 | [], _, _ => rfl
 | b :: l, 0, h => by simp [okRH] at h; exact h.1
 | b :: l, k + 1, h => by simp [okRH] at h; exact okRH_get (l := l) h.2
theorem Fn.focus {f : FuncId} {args : List AV} {js : List Nat} {res : AV} {h1 : Heap} (hnd : nodupB js = true) (hoa : okR.okRL (fun i => memN i js) args = true) (hoh : okSub js hp js = true)
  (hor : okR (fun _ => true) res = true) (ho1 : okRH (fun _ => true) h1 = true)
  (h : Fn P f (renA.renL (posD js) args) (subH js hp js) res h1) :
  Fn P f args hp (renA (outN js hp.length) res) (putH js (outN js hp.length) h1 0 hp ++ newH (outN js hp.length) js.length h1) := by
 intro C w vs hO hH ha
 have hpos : ∀ i q, memN i js = true -> C.ρ i = some q -> (⟨fun k => match js[k]? with | some i => C.ρ i | none => none, C.I, fun _ => none⟩ : Cx).ρ (posD js i) = some q := fun i q hm hq => by
  simp only [pos_mem hm]; exact hq
 have hC0 : ∀ k q, (⟨fun k => match js[k]? with | some i => C.ρ i | none => none, C.I, fun _ => none⟩ : Cx).ρ k = some q -> ∃ i, js[k]? = some i /\ C.ρ i = some q := fun k q hq => by
  simp only at hq
  split at hq
  ·rename_i i hi; exact ⟨i, hi, hq⟩
  ·cases hq
 have hH0 : HR (⟨fun k => match js[k]? with | some i => C.ρ i | none => none, C.I, fun _ => none⟩ : Cx) (subH js hp js) w := by
  refine ⟨fun k q hq => ?_, fun k k' b c n b' c' n' hq hq' hne => ?_, fun k b c n hq => ?_, hH.ilt, fun b x h => by cases h⟩
  ·obtain ⟨i, hi, hq⟩ := hC0 k q hq
   rw [getB_sub js hp js k i hi]
   exact ren_brel hpos (fun _ h => h) (hH.live i q hq) (ok_sub js hp js k i hoh hi)
  ·obtain ⟨i, hi, hq⟩ := hC0 _ _ hq
   obtain ⟨i', hi', hq'⟩ := hC0 _ _ hq'
   exact hH.inj i i' _ _ _ _ _ _ hq hq' fun e => hne (by subst e; exact nodup_inj hnd hi hi')
  ·obtain ⟨i, hi, hq⟩ := hC0 _ _ hq
   exact hH.fresh _ _ _ _ hq
 refine (h _ w vs (fun _ => rfl) hH0 (ren_relL hpos (fun _ h => h) ha hoa)).mono ?_
 rintro e w' ⟨v, C1, he, h2, h3, h4⟩
 rw [len_sub] at h4
 have hlt : ∀ {i : Nat} {p : Pl}, C.ρ i = some p -> i < hp.length := fun hi => hH.lt hi
 have hkeep : ∀ b, b < w.heap.size -> (∀ i c n, memN i js = true -> C.ρ i ≠ some (.at b c n)) -> w'.heap[b]? = w.heap[b]? := fun b hb hn => h4.keep b hb fun k b' c n hk hq e => by
  subst e
  obtain ⟨i, hi, hq⟩ := hC0 _ _ hq
  exact hn i c n (mem_get hi) hq
 let C' : Cx := ⟨fun i => if i < hp.length then C.ρ i else C1.ρ (i - hp.length + js.length), C1.I, C1.O⟩
 have hρ1 : ∀ k i, js[k]? = some i -> C1.ρ k = C.ρ i := fun k i hi => by
  rw [h4.rho k (List.getElem?_eq_some_iff.1 hi).1]; simp only [hi]
 have hout : ∀ k q, (fun _ : Nat => true) k = true -> C1.ρ k = some q -> C'.ρ (outN js hp.length k) = some q := fun k q _ hq => by
  unfold outN
  cases hk : js[k]? with
  | some i =>
    rw [hρ1 k i hk] at hq
    show (if i < hp.length then C.ρ i else _) = _
    rw [if_pos (hlt hq)]; exact hq
  | none =>
    have := List.getElem?_eq_none_iff.1 hk
    show (if hp.length + (k - js.length) < hp.length then _ else C1.ρ (hp.length + (k - js.length) - hp.length + js.length)) = _
    rw [if_neg (by omega), show hp.length + (k - js.length) - hp.length + js.length = k by omega]; exact hq
 have hx : Cext C w C' w' := ⟨fun i p hi => by show (if i < hp.length then _ else _) = _; rw [if_pos (hlt hi)]; exact hi, fun b hb => h4.imm b hb, fun b hb => hkeep b (hH.ilt b hb) fun i c n _ hq => (hH.fresh _ _ _ _ hq).2 hb⟩
 have hold : ∀ {i : Nat} {q : Pl}, i < hp.length -> C'.ρ i = some q -> C.ρ i = some q := fun hi hq => by
  have hq : (if _ < hp.length then C.ρ _ else C1.ρ _) = some _ := hq
  rwa [if_pos hi] at hq
 have hnew : ∀ {i : Nat} {q : Pl}, ¬ i < hp.length -> C'.ρ i = some q -> C1.ρ (i - hp.length + js.length) = some q := fun hi hq => by
  have hq : (if _ < hp.length then C.ρ _ else C1.ρ _) = some _ := hq
  rwa [if_neg hi] at hq
 have hlen := len_put js (outN js hp.length) h1 0 hp
 refine ⟨v, C', he, ⟨fun i q hi => ?_, fun i j b c n b' c' n' hi hj hne => ?_, fun i b c n hi => ?_, h2.ilt, fun b x hb => ?_⟩, ren_rel hout (fun _ h => h) h3 hor, ?_⟩
 ·by_cases hin : i < hp.length
  ·have hq := hold hin hi
   rw [getB_eq, List.getD_eq_getElem?_getD, List.getElem?_append_left (by omega), <- List.getD_eq_getElem?_getD, <- getB_eq, getB_put _ _ _ _ _ _ hin, Nat.zero_add]
   cases hm : memN i js with
   | true =>
     have hk := pos_mem hm
     have := h2.live (posD js i) q (by rw [hρ1 _ _ hk]; exact hq)
     exact ren_brel hout (fun _ h => h) this (okRH_get ho1)
   | false =>
     refine (hH.live i q hq).mono hx (fun b c n e => ?_) fun b x hb => by rw [hO b] at hb; cases hb
     subst e
     refine hkeep b (hH.fresh _ _ _ _ hq).1 fun j c' n' hj hq' => ?_
     have : i ≠ j := fun e => by subst e; rw [hm] at hj; cases hj
     exact hH.inj _ _ _ _ _ _ _ _ hq hq' this rfl
  ·have hq := hnew hin hi
   rw [getB_eq, List.getD_eq_getElem?_getD, List.getElem?_append_right (by omega), <- List.getD_eq_getElem?_getD, <- getB_eq, hlen, getB_new]
   exact ren_brel hout (fun _ h => h) (h2.live _ q hq) (okRH_get ho1)
 ·by_cases hi' : i < hp.length <;> by_cases hj' : j < hp.length
  ·exact hH.inj _ _ _ _ _ _ _ _ (hold hi' hi) (hold hj' hj) hne
  ·have h5 := (hH.fresh _ _ _ _ (hold hi' hi)).1
   have h6 := h4.own _ _ _ _ (by omega) (hnew hj' hj)
   omega
  ·have h5 := (hH.fresh _ _ _ _ (hold hj' hj)).1
   have h6 := h4.own _ _ _ _ (by omega) (hnew hi' hi)
   omega
  ·exact h2.inj _ _ _ _ _ _ _ _ (hnew hi' hi) (hnew hj' hj) (by omega)
 ·by_cases hi' : i < hp.length
  ·have h5 := hH.fresh _ _ _ _ (hold hi' hi)
   refine ⟨Nat.lt_of_lt_of_le h5.1 h4.size, fun hI => ?_⟩
   rcases h4.imm' b hI with h6 | h6
   ·exact h5.2 h6
   ·omega
  ·exact h2.fresh _ _ _ _ (hnew hi' hi)
 ·obtain ⟨s1, s2, s3, s4⟩ := h2.sub b x hb
  refine ⟨s1, s2, fun i b' c n hi => ?_, s4⟩
  by_cases hi' : i < hp.length
  ·have h5 := hH.fresh _ _ _ _ (hold hi' hi)
   have h6 := h4.sub b x hb
   omega
  ·exact s3 _ _ _ _ (hnew hi' hi)
 ·refine ⟨h4.os, h4.tape, h4.output, h4.size, fun k hk hno => hkeep k hk fun i c n _ hq => ?_, h4.imm, h4.imm', fun i hi => ?_, fun i b c n hi hq => h4.own _ _ _ _ (by omega) (hnew (by omega) hq), h4.sub⟩
  ·exact hno i k c n (hlt hq) hq rfl
  ·show (if i < hp.length then _ else _) = _; rw [if_pos hi]
end
end Abs
end Go.Proofs.Ytdfdjlijghjdaaa

namespace Go.Proofs.Ytdfdjlijghjdaaa
namespace Abs
open Go Go.RowKit
inductive OB where
 | cells (t : TypeId) (l : List Sh)
 | row (e : TypeId) (sz : Nat) (l : List Sh)
 | tab (sz : Nat) (l : List Sh)
@[reducible] def DatB : OB -> Type
 | .cells _ l => DatL l
 | .row _ _ l => Nat × (Nat -> DatL l)
 | .tab _ l => Nat × (Nat -> DatL l)
@[reducible] def DatH : List OB -> Type
 | [] => Unit
 | b :: l => DatB b × DatH l
def encB : (b : OB) -> DatB b -> Blk
 | .cells t l, x => .cells t (encL l x)
 | .row e sz l, x => .row e sz (.sym x.1) (fun k => encL l (x.2 k))
 | .tab sz l, x => .tab (.sym x.1) sz (fun k => encL l (x.2 k))
def encH : (l : List OB) -> DatH l -> Heap
 | [], _ => []
 | b :: l, x => encB b x.1 :: encH l x.2
noncomputable section
def okB : OB -> Blk -> Bool
 | .cells t l, b => (match b with | .cells t' m => Nat.beq t' t && okShLN l m | _ => false)
 | .row e sz l, b => (match b with | .row e' sz' _ _ => Nat.beq e' e && Nat.beq sz' sz && cellShL l | _ => false)
 | .tab sz l, b => (match b with | .tab _ sz' _ => Nat.beq sz' sz && cellShL l | _ => false)
def okHB : List OB -> Heap -> Bool
 | [], h => (match h with | [] => true | _ => false)
 | b :: l, h => (match h with | c :: h => okB b c && okHB l h | [] => false)
def canB : OB -> Blk -> List Cd
 | .cells _ l, b => (match b with | .cells _ m => canShLN l m | _ => [])
 | .row _ _ l, b => (match b with | .row _ _ n el => [⟨CanEl l, (n.val, el)⟩] | _ => [])
 | .tab _ l, b => (match b with | .tab n _ el => [⟨CanEl l, (n.val, el)⟩] | _ => [])
def canHB : List OB -> Heap -> List Cd
 | [], _ => []
 | b :: l, h => (match h with | c :: h => appP (canB b c) (canHB l h) | [] => [])
def decB : (b : OB) -> Blk -> DatB b
 | .cells _ l, b => (match b with | .cells _ m => decL l m | _ => decL l [])
 | .row _ _ l, b => (match b with | .row _ _ n el => (n.val, fun k => decL l (el k)) | _ => (0, fun _ => decL l []))
 | .tab _ l, b => (match b with | .tab n _ el => (n.val, fun k => decL l (el k)) | _ => (0, fun _ => decL l []))
def decH : (l : List OB) -> Heap -> DatH l
 | [], _ => ()
 | b :: l, h => (match h with | c :: h => (decB b c, decH l h) | [] => (decB b .dead, decH l []))
def decBK {β : Type 1} : (b : OB) -> Blk -> (DatB b -> β) -> β
 | .cells _ l, b, f => (match b with | .cells _ m => decKLN l m f | _ => f (decL l []))
 | .row _ _ l, b, f => (match b with | .row _ _ n el => (match n with | .lit n => f (n, fun k => decL l (el k)) | .sym n => f (n, fun k => decL l (el k))) | _ => f (0, fun _ => decL l []))
 | .tab _ l, b, f => (match b with | .tab n _ el => (match n with | .lit n => f (n, fun k => decL l (el k)) | .sym n => f (n, fun k => decL l (el k))) | _ => f (0, fun _ => decL l []))
def decHK {β : Type 1} : (l : List OB) -> Heap -> (DatH l -> β) -> β
 | [], _, f => f ()
 | b :: l, h, f => (match h with | c :: h => decBK b c fun x => decHK l h fun y => f (x, y) | [] => f (decB b .dead, decH l []))
structure SpecF (obs : List OB) (shs : List Sh) where
 pre : DatH obs -> DatL shs -> Prop
 res : DatH obs -> DatL shs -> AV
 after : DatH obs -> DatL shs -> Heap
def FnSpecF (P : Program) (f : FuncId) (obs : List OB) (shs : List Sh) (sp : SpecF obs shs) : Prop :=
 ∀ o x, sp.pre o x -> Fn P f (encL shs x) (encH obs o) (sp.res o x) (sp.after o x)
def refsA : AV -> List Nat
 | .own i _ => [i]
 | .row i => [i]
 | .mp i => [i]
 | .agg l => refsL l
 | .tup l => refsL l
 | .fn _ a b => refsL a ++ refsL b
 | _ => []
where refsL : List AV -> List Nat
 | [] => []
 | a :: l => refsA a ++ refsL l
def addJ (js : List Nat) : List Nat -> List Nat
 | [] => js
 | i :: l => (match memN i js with | true => addJ js l | false => addJ (js ++ [i]) l)
def refsH (hp : Heap) : List Nat -> List Nat
 | [] => []
 | j :: l => (match getB hp j with | .cells _ m => refsA.refsL m | _ => []) ++ refsH hp l
def forceN {β : Type 1} : List Nat -> (List Nat -> β) -> β
 | [], k => k []
 | a :: l, k => forceN l fun l' => k (a :: l')
def refsA_refsLP : {g : List AV -> List Nat // refsA.refsL = g} := ⟨_, by delta refsA.refsL; rfl⟩
def refsA_refsLN : List AV -> List Nat := refsA_refsLP.1
theorem refsA_refsLN_eq : refsA_refsLN = refsA.refsL := refsA_refsLP.2.symm
end
section
variable {P : Program} {S : Sums} {C C' C1 : Cx} {w w' : World} {H hp : Heap}
theorem forceN_eq {β : Type 1} : ∀ (l : List Nat) (k : List Nat -> β), forceN l k = k l
 | [], _ => rfl
 | a :: l, k => by unfold forceN; rw [forceN_eq l]
theorem decBK_eq {β : Type 1} {b : OB} {c : Blk} {f : DatB b -> β} (h : okB b c = true) : decBK b c f = f (decB b c) := by
 cases b with
 | cells t l =>
   unfold okB at h
   cases c <;> simp only at h <;> first | (cases h; done) | skip
   simp only [okShLN_eq, Bool.and_eq_true] at h
   unfold decBK decB
   exact (decKLN_eq _ _ _).trans (decKL_eq h.2)
 | row e sz l =>
   cases c <;> unfold okB at h <;> simp only at h <;> first | (cases h; done) | skip
   rename_i n _
   unfold decBK decB
   cases n <;> rfl
 | tab sz l =>
   cases c <;> unfold okB at h <;> simp only at h <;> first | (cases h; done) | skip
   rename_i n _ _
   unfold decBK decB
   cases n <;> rfl
theorem decHK_eq {β : Type 1} : ∀ {l : List OB} {h : Heap} {f : DatH l -> β}, okHB l h = true -> decHK l h f = f (decH l h)
 | [], _, _, _ => rfl
 | b :: l, [], f, h => by cases h
 | b :: l, c :: h, f, ho => by
   unfold okHB at ho
   simp only [Bool.and_eq_true] at ho
   unfold decHK decH
   simp only
   rw [decBK_eq ho.1, decHK_eq ho.2]
theorem enc_decB {b : OB} {c : Blk} (h : okB b c = true) (hc : ∀ p ∈ canB b c, p.ok) {q : Pl} (hr : BRel C w q c) : BRel C w q (encB b (decB b c)) := by
 cases b with
 | cells t l =>
   unfold okB at h
   cases c <;> simp only at h <;> first | (cases h; done) | skip
   simp only [okShLN_eq, Bool.and_eq_true] at h
   unfold canB at hc
   simp only [canShLN_eq] at hc
   obtain rfl := Nat.eq_of_beq_eq_true h.1
   unfold encB decB
   cases q with
   | nil => exact hr.elim
   | «at» x cap n =>
     obtain ⟨vs, h1, h2⟩ := hr
     exact ⟨vs, encL_dec (can_shL h.2 hc) h1, h2⟩
 | row e sz l =>
   cases c <;> unfold okB at h <;> simp only at h <;> first | (cases h; done) | skip
   rename_i e' sz' n el
   simp only [Bool.and_eq_true] at h
   obtain rfl := Nat.eq_of_beq_eq_true h.1.1
   obtain rfl := Nat.eq_of_beq_eq_true h.1.2
   unfold encB decB
   have hcan : CanEl l (n.val, el) := hc ⟨CanEl l, (n.val, el)⟩ (by unfold canB; exact List.mem_singleton.2 rfl)
   cases q with
   | nil => exact hr
   | «at» x cap m =>
     obtain ⟨h1, h2, h3, cs, vs, hh, hs, hcl⟩ := hr
     exact ⟨h1, h2, h3, cs, vs, hh, hs, fun k hk => ⟨encL_dec (hcan k (by rw [h1]; exact hk)) (hcl k hk).1, enc_okL h.2, (hcl k hk).2.2⟩⟩
 | tab sz l =>
   cases c <;> unfold okB at h <;> simp only at h <;> first | (cases h; done) | skip
   rename_i n sz' el
   simp only [Bool.and_eq_true] at h
   obtain rfl := Nat.eq_of_beq_eq_true h.1
   unfold encB decB
   have hcan : CanEl l (n.val, el) := hc ⟨CanEl l, (n.val, el)⟩ (by unfold canB; exact List.mem_singleton.2 rfl)
   cases q with
   | nil => exact hr.elim
   | «at» x cap m =>
     obtain ⟨es, ck, vs, hh, hs, hcl⟩ := hr
     exact ⟨es, ck, vs, hh, hs, fun k hk => ⟨encL_dec (hcan k hk) (hcl k hk).1, enc_okL h.2, (hcl k hk).2.2⟩⟩
theorem enc_decH : ∀ {l : List OB} {h : Heap}, okHB l h = true -> (∀ p ∈ canHB l h, p.ok) -> ∀ (i : Nat) {q : Pl}, BRel C w q (getB h i) -> BRel C w q (getB (encH l (decH l h)) i)
 | [], [], _, _, i, q, hr => by cases q <;> exact hr.elim
 | [], _ :: _, h, _, _, _, _ => by cases h
 | b :: l, [], h, _, _, _, _ => by cases h
 | b :: l, c :: h, ho, hc, i, q, hr => by
   unfold okHB at ho
   simp only [Bool.and_eq_true] at ho
   obtain ⟨h1, h2⟩ := appP_mem (l := canB b c) (m := canHB l h) fun p hp => hc p (by unfold canHB; exact hp)
   cases i with
   | zero => exact enc_decB ho.1 h1 hr
   | succ i => exact enc_decH ho.2 h2 i hr
theorem len_encH : ∀ {l : List OB} {h : Heap}, okHB l h = true -> (encH l (decH l h)).length = h.length
 | [], [], _ => rfl
 | [], _ :: _, h => by cases h
 | b :: l, [], h => by cases h
 | b :: l, c :: h, ho => by
   unfold okHB at ho
   simp only [Bool.and_eq_true] at ho
   unfold encH decH
   simp [len_encH ho.2]
theorem Fn.weakenH {f : FuncId} {args : List AV} {H0 : Heap} {r : AV} {H' : Heap} (h : Fn P f args H0 r H') (hl : H0.length = H.length) (hw : ∀ (C : Cx) (w : World) (i : Nat) (q : Pl), BRel C w q (getB H i) -> BRel C w q (getB H0 i)) : Fn P f args H r H' :=
 fun C w vs hO hH ha => (h C w vs hO ⟨fun i q hi => hw C w i q (hH.live i q hi), hH.inj, hH.fresh, hH.ilt, hH.sub⟩ ha).mono fun _e _w' ⟨v, C', h1, h2, h3, h4⟩ => ⟨v, C', h1, h2, h3, hl ▸ h4⟩
def Summ2OK (P : Program) (f : FuncId) (s : Summ2) : Prop := ∀ args hp pre res hp' mv, s args hp = some ⟨pre, res, hp', mv⟩ -> (∀ p ∈ pre, p.ok) -> FnM P f args hp res hp' mv
theorem SumsOK.addTwo {one : List (Nat × Summ)} {two : List (Nat × Summ2)} {lo : Nat} {eqs : List (Nat × List (Option IntKind))} {its : List (Nat × Iter)} {imm : List Nat} (hS : SumsOK P ⟨one, two, lo, eqs, its, imm⟩) {f : FuncId} {fn : Func} (hf : P.funcs[f]? = some fn) (hn : (fn.name == "runtime.NumGoroutine") = false) (hb : fn.body.isNone = false)
  {s : Summ2} (h : Summ2OK P f s) : SumsOK P ⟨one, (f, s) :: two, lo, eqs, its, imm⟩ := by
 refine ⟨hS.one, fun g s1 hg => ?_, hS.eqs, hS.bodyOne, fun g s1 hg => ?_, hS.its⟩
 ·simp only [findS] at hg
  split at hg
  ·rename_i e
   injection hg with hg; subst hg
   obtain rfl := Nat.eq_of_beq_eq_true e
   exact h
  ·exact hS.two g s1 hg
 ·simp only [findS] at hg
  split at hg
  ·rename_i e
   obtain rfl := Nat.eq_of_beq_eq_true e
   exact ⟨fn, hf, hn, hb⟩
  ·exact hS.bodyTwo g s1 hg
theorem SumsOK.setLo {one : List (Nat × Summ)} {two : List (Nat × Summ2)} {lo : Nat} {eqs : List (Nat × List (Option IntKind))} {its : List (Nat × Iter)} {imm : List Nat} (hS : SumsOK P ⟨one, two, lo, eqs, its, imm⟩) (n : Nat) : SumsOK P ⟨one, two, n, eqs, its, imm⟩ :=
 ⟨hS.one, hS.two, hS.eqs, hS.bodyOne, hS.bodyTwo, hS.its⟩
theorem SumsOK.setImm {one : List (Nat × Summ)} {two : List (Nat × Summ2)} {lo : Nat} {eqs : List (Nat × List (Option IntKind))} {its : List (Nat × Iter)} {imm : List Nat} (hS : SumsOK P ⟨one, two, lo, eqs, its, imm⟩) (l : List Nat) : SumsOK P ⟨one, two, lo, eqs, its, l⟩ :=
 ⟨hS.one, hS.two, hS.eqs, hS.bodyOne, hS.bodyTwo, hS.its⟩
theorem SumsOK.setEqs {one : List (Nat × Summ)} {two : List (Nat × Summ2)} {lo : Nat} {eqs eqs' : List (Nat × List (Option IntKind))} {its : List (Nat × Iter)} {imm : List Nat} (hS : SumsOK P ⟨one, two, lo, eqs, its, imm⟩) (h : ∀ t ks, findS eqs' t = some ks -> EqOK P t ks) : SumsOK P ⟨one, two, lo, eqs', its, imm⟩ :=
 ⟨hS.one, hS.two, h, hS.bodyOne, hS.bodyTwo, hS.its⟩
theorem encH_len : ∀ {l : List OB} {x : DatH l}, (encH l x).length = l.length
 | [], _ => rfl
 | b :: l, x => by simp [encH, encH_len]
theorem FnSpecF.of {one : List (Nat × Summ)} {two : List (Nat × Summ2)} {lo : Nat} {eqs : List (Nat × List (Option IntKind))} {its : List (Nat × Iter)} {imm : List Nat} (hS : SumsOK P ⟨one, two, lo, eqs, its, imm⟩) (hm : P.follows .mixedOrders = true) {obs : List OB} {shs : List Sh} {U : Nat} {I : DatH obs -> DatL shs -> Anns} {f : FuncId} {fn : Func} {c : Code} (hf : P.funcs[f]? = some fn) (hb : fn.body = some c) (hok : codeOK c = true) {sp : SpecF obs shs}
  (hany : noAny shs = true) (hn : shs.length <= fn.ntmps) (h : ∀ o x, sp.pre o x -> FnSat P ⟨one, two, obs.length, eqs, its, imm⟩ U (I o x) fn (encL shs x) (encH obs o) (sp.res o x) (sp.after o x)) : FnSpecF P f obs shs sp :=
 fun o x hx => Fn.of (hS.setLo obs.length) hm hf hb hok (by rw [encH_len]) (encL_ng hany) (by rw [encL_len]; exact hn) (h o x hx)
end
end Abs
end Go.Proofs.Ytdfdjlijghjdaaa
