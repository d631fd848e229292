/- A part of the proof: no statement of its own. -/
import Derived.WalkKit
import Derived.Maps.AppendAt
set_option linter.unusedSimpArgs false
set_option linter.unusedVariables false
namespace Go.Proofs.Ytdfdjlijghjdaaa
namespace Abs
universe u
open Go
noncomputable section
inductive LN where
 | lit (n : Nat)
 | sym (n : Nat)
 deriving Inhabited
def LN.val : LN -> Nat
 | .lit n => n
 | .sym n => n
inductive AV where
 | top
 | li (k : IntKind) (n : Int)
 | si (k : IntKind) (n : Int)
 | lb (b : Bool)
 | sb (b : Bool)
 | v (x : Value)
 | agg (l : List AV)
 | tup (l : List AV)
 | own (i off : Nat)
 | elt (i sz k off : Nat)
 | row (i : Nat)
 | lsl (i n sz : Nat)
 | slc (n : LN) (sz : Nat) (el : Nat -> List AV)
 | xp (l : List AV)
 | fn (f : Fn) (first cap : List AV)
 | gd (k : Nat) (a : AV)
 | pa (n sz : Nat) (el : Nat -> List AV)
 | mp (i : Nat)
 deriving Inhabited
inductive Blk where
 | dead
 | cells (t : TypeId) (l : List AV)
 | row (e : TypeId) (sz : Nat) (n : LN) (el : Nat -> List AV)
 | mat (t : TypeId) (w : Nat) (n : LN) (f : Nat -> Nat -> AV)
 | rows (e e' : TypeId) (sz : Nat) (n : LN) (fz : Nat -> Bool) (ln : Nat -> Nat) (el : Nat -> Nat -> List AV) (ho : Option (Nat × Option Nat))
 | tab (n : LN) (sz : Nat) (el : Nat -> List AV)
 deriving Inhabited
abbrev Heap := List Blk
structure Cd where
 {α : Type}
 q : α -> Prop
 x : α
@[reducible] def Cd.ok : Cd -> Prop
 | ⟨q, x⟩ => q x
def Cd.under (c : Bool) : Cd -> Cd
 | @Cd.mk α q x => ⟨fun z : Bool × α => z.1 = true -> q z.2, (c, x)⟩
inductive AR where
 | fail
 | val (a : AV)
 | need (p : Cd) (r : AR)
 | br (b : Bool) (t e : AR)
 | blk (b : Blk) (mk : Nat -> AV)
 | upd (i : Nat) (b : Blk)
 | grow (i : Nat) (b : Blk)
 | frz (j : Nat) (a : AV) (r : AR)
 | call (f : FuncId) (args : List AV)
inductive AE where
 | normal
 | exit (id : Nat)
 | ret
structure Sum where
 pre : List Cd
 res : AV
 new : Heap
structure Sum2 where
 pre : List Cd
 res : AV
 hp : Heap
 mv : Option Nat := none
abbrev Summ := List AV -> Option Sum
abbrev Summ2 := List AV -> Heap -> Option Sum2
structure Items where
 pre : List Cd
 n : Nat
 it : Nat -> List AV
abbrev Iter := List AV -> Option Items
structure Sums where
 one : List (Nat × Summ)
 two : List (Nat × Summ2)
 lo : Nat := 0
 eqs : List (Nat × List (Option IntKind)) := []
 its : List (Nat × Iter) := []
 imm : List Nat := []
structure AS where
 fr : List AV
 hp : Heap
structure Ann where
 G : Type
 st : G -> AS
 α : Type
 dat : G -> α
 q : α -> Prop
 mu : G -> Nat
@[reducible] def Ann.pre (A : Ann) (g : A.G) : Prop := A.q (A.dat g)
inductive VC : Type 1 where
 | fail
 | need (p : Cd) (k : VC)
 | branch (b : Bool) (t e : VC)
 | out (r : AV) (hp : Heap)
 | done
 | loop {A : Ann} (dat : A.G -> A.α) (entry : VC) (body : A.G -> VC)
 | ex {A : Ann} (dat : A.G -> A.α) (mu : Option Nat) (k : A.G -> VC)
@[irreducible] def iadd (a b : Int) : Int := a + b
@[irreducible] def isub (a b : Int) : Int := a - b
@[irreducible] def imul (a b : Int) : Int := a * b
@[irreducible] def iquo (a b : Int) : Int := a.tdiv b
@[irreducible] def irem (a b : Int) : Int := a.tmod b
@[irreducible] def ishl (a b : Int) : Int := a * 2 ^ b.toNat
@[irreducible] def ishr (a b : Int) : Int := a.fdiv (2 ^ b.toNat)
@[irreducible] def ieq (a b : Int) : Bool := a == b
@[irreducible] def ilt (a b : Int) : Bool := decide (a < b)
@[irreducible] def ile (a b : Int) : Bool := decide (a <= b)
@[irreducible] def imin (a b : Int) : Int := if b < a then b else a
@[irreducible] def imax (a b : Int) : Int := if b > a then b else a
@[irreducible] def iwrap (k : IntKind) (a : Int) : Int := k.wrap a
@[irreducible] def ibit (op : BinOp) (k : IntKind) (a b : Int) : Int := bits op k a b
@[irreducible] def bnot (a : Bool) : Bool := !a
@[irreducible] def band (a b : Bool) : Bool := a && b
@[irreducible] def beqb (a b : Bool) : Bool := a == b
@[irreducible] def bor (a b : Bool) : Bool := a || b
@[irreducible] def nat (a : Int) : Nat := a.toNat
@[irreducible] def icast (a : Nat) : Int := (a : Int)
@[irreducible] def nadd (a b : Nat) : Nat := a + b
@[irreducible] def nsub (a b : Nat) : Nat := a - b
@[irreducible] def nlt (a b : Nat) : Bool := decide (a < b)
@[irreducible] def bite (c a b : Bool) : Bool := bif c then a else b
def getL (l : List AV) : Nat -> AV :=
 List.rec (motive := fun _ => Nat -> AV) (fun _ => .tup []) (fun a _ ih n => Nat.rec (motive := fun _ => AV) a (fun m _ => ih m) n) l
theorem getL_nil (n : Nat) : getL [] n = .tup [] := rfl
theorem getL_zero (a : AV) (l : List AV) : getL (a :: l) 0 = a := rfl
theorem getL_succ (a : AV) (l : List AV) (n : Nat) : getL (a :: l) (n + 1) = getL l n := rfl
def setL : List AV -> Nat -> AV -> List AV
 | [], _, _ => []
 | _ :: l, 0, a => a :: l
 | x :: l, n + 1, a => x :: setL l n a
def getB : Heap -> Nat -> Blk
 | [], _ => .dead
 | a :: _, 0 => a
 | _ :: l, n + 1 => getB l n
def setB : Heap -> Nat -> Blk -> Heap
 | [], _, _ => []
 | _ :: l, 0, a => a :: l
 | x :: l, n + 1, a => x :: setB l n a
def dropL : List AV -> Nat -> List AV
 | l, 0 => l
 | [], _ + 1 => []
 | _ :: l, n + 1 => dropL l n
def takeL : List AV -> Nat -> List AV
 | _, 0 => []
 | [], _ + 1 => []
 | a :: l, n + 1 => a :: takeL l n
def rowAt (sz : Nat) (l : List AV) : Nat -> List AV
 | 0 => takeL l sz
 | k + 1 => rowAt sz (dropL l sz) k
def appL : List AV -> List AV -> List AV
 | [], m => m
 | a :: l, m => a :: appL l m
def pasteL (l : List AV) (off : Nat) (m : List AV) : List AV := appL (takeL l off) (appL m (dropL l (off + m.length)))
def forceV (a : AV) (k : AV -> VC) : VC :=
 @AV.casesOn (fun _ => VC) a (k .top) (fun a b => k (.li a b)) (fun a b => k (.si a b)) (fun b => k (.lb b)) (fun b => k (.sb b)) (fun x => k (.v x)) (fun l => k (.agg l)) (fun l => k (.tup l))
  (fun i o => k (.own i o)) (fun a b c d => k (.elt a b c d)) (fun i => k (.row i)) (fun a b c => k (.lsl a b c)) (fun a b c => k (.slc a b c)) (fun l => k (.xp l)) (fun a b c => k (.fn a b c)) (fun c a => k (.gd c a)) (fun a b c => k (.pa a b c)) (fun i => k (.mp i))
def forceL (l : List AV) : (List AV -> VC) -> VC :=
 List.rec (motive := fun _ => (List AV -> VC) -> VC) (fun k => k []) (fun a _ ih k => forceV a fun a' => ih fun l' => k (a' :: l')) l
theorem forceL_cons (a : AV) (l : List AV) (k : List AV -> VC) : forceL (a :: l) k = forceV a fun a' => forceL l fun l' => k (a' :: l') := rfl
def ev (fr : List AV) : Operand -> AV
 | .tmp t => getL fr t
 | .const (.int k n) => .li k n
 | .const (.bool b) => .lb b
 | .const (.func f a b) => .fn f (a.toList.map .v) (b.toList.map .v)
 | .const (.agg a) => .agg (a.toList.map .v)
 | .const (.tuple a) => .tup (a.toList.map .v)
 | .const x => .v x
 | .global g => .v (.pointer (some ⟨g, 0, none⟩))
 | .func f => .fn (.func f) [] []
def evL (ρ : Operand -> AV) : List Operand -> List AV
 | [] => []
 | o :: l => ρ o :: evL ρ l
def InR (k : IntKind) (n : Int) : Prop := k.min <= n /\ n <= k.max
def inRB (k : IntKind) (n : Int) : Bool := decide (k.min <= n) && decide (n <= k.max)
def isAgg (P : Program) (t : TypeId) : Option Bool := match P.underlying t with | some (.struct _) => some true | some (.array _ _) => some true | some _ => some false | none => none
def sizeT (P : Program) (t : TypeId) : Nat := match P.info? t with | some i => i.size | none => 0
def bytesT (P : Program) (t : TypeId) : Nat := match P.info? t with | some i => i.bytes | none => 0
def fieldT (P : Program) (t : TypeId) (f : Nat) : Option Field := match P.underlying t with | some (.struct fs) => fs.toList[f]? | _ => none
def toA : Value -> AV
 | .int k n => .li k n
 | .bool b => .lb b
 | x => .v x
def zeroL (P : Program) (t : TypeId) : Option (List AV) := match P.info? t with
 | some i => (match i.zero with
   | some z => (match decide (z.cells.toList.length = i.size) with | true => some (z.cells.toList.map toA) | false => none)
   | none => none)
 | none => none
def partL (P : Program) (t : TypeId) (l : List AV) : AR :=
 match isAgg P t with
 | some true => (match decide (sizeT P t <= l.length) with | true => .val (.agg (takeL l (sizeT P t))) | false => .fail)
 | some false => (match l with | a :: _ => .val a | [] => .fail)
 | none => .fail
def cellsA : AV -> List AV
 | .agg l => l
 | a => [a]
def kindOf : AV -> Option IntKind
 | .li k _ => some k
 | .si k _ => some k
 | _ => none
def isLit : AV -> Bool
 | .li _ _ => true
 | .lb _ => true
 | _ => false
def intOf : AV -> Int
 | .li _ n => n
 | .si _ n => n
 | _ => 0
def arith (k : IntKind) (lit : Bool) (x y : Int) : AR :=
 match lit with
 | true => (match inRB k x with | true => .val (.li k x) | false => .val (.li k (k.wrap x)))
 | false => (match k.signed with | true => .need ⟨fun z : IntKind × Int => InR z.1 z.2, (k, y)⟩ (.val (.si k y)) | false => .val (.si k (iwrap k y)))
def cmpA (lit : Bool) (x y : Bool) : AR := match lit with | true => .val (.lb x) | false => .val (.sb y)
def arBin (op : BinOp) (k : IntKind) (lit : Bool) (a b : Int) (bl : Bool) : AR :=
 match op with
 | .add => arith k lit (a + b) (iadd a b)
 | .sub => arith k lit (a - b) (isub a b)
 | .mul => arith k lit (a * b) (imul a b)
 | .quo => (match lit with
   | true => (match decide (b = 0) with | true => .fail | false => arith k true (a.tdiv b) 0)
   | false => (match bl with
     | true => (match decide (b = 0) with | true => .fail | false => arith k false 0 (iquo a b))
     | false => .need ⟨fun z : Int => z ≠ 0, b⟩ (arith k false 0 (iquo a b))))
 | .rem => (match lit with
   | true => (match decide (b = 0) with | true => .fail | false => .val (.li k (a.tmod b)))
   | false => (match bl with
     | true => (match decide (b = 0) with | true => .fail | false => .val (.si k (irem a b)))
     | false => .need ⟨fun z : Int => z ≠ 0, b⟩ (.val (.si k (irem a b)))))
 | .eql => cmpA lit (a == b) (ieq a b)
 | .neq => cmpA lit (a != b) (bnot (ieq a b))
 | .lss => cmpA lit (decide (a < b)) (ilt a b)
 | .leq => cmpA lit (decide (a <= b)) (ile a b)
 | .gtr => cmpA lit (decide (b < a)) (ilt b a)
 | .geq => cmpA lit (decide (b <= a)) (ile b a)
 | .and => .val (.si k (ibit .and k a b))
 | .or => .val (.si k (ibit .or k a b))
 | .xor => .val (.si k (ibit .xor k a b))
 | _ => .fail
def arShift (op : BinOp) (k : IntKind) (a b : Int) : AR :=
 match op with
 | .shl => .need ⟨fun z : IntKind × Int => 0 <= z.2 /\ z.2 < z.1.bits, (k, b)⟩ (match k.signed with | true => .need ⟨fun z : IntKind × Int => InR z.1 z.2, (k, ishl a b)⟩ (.val (.si k (ishl a b))) | false => .val (.si k (iwrap k (ishl a b))))
 | .shr => .need ⟨fun z : IntKind × Int => 0 <= z.2 /\ z.2 < z.1.bits, (k, b)⟩ (.val (.si k (ishr a b)))
 | _ => .fail
def eqA : AV -> AV -> Option AV
 | .lb a, .lb b => some (.lb (a == b))
 | .lb a, .sb b => some (.sb (beqb a b))
 | .sb a, .lb b => some (.sb (beqb a b))
 | .sb a, .sb b => some (.sb (beqb a b))
 | _, _ => none
def eqI (a b : AV) : Option Bool :=
 match kindOf a, kindOf b with
 | some k, some k' => (match decide (k = k') with | true => some (ieq (intOf a) (intOf b)) | false => none)
 | _, _ => none
def boolOf : AV -> Bool
 | .lb b => b
 | .sb b => b
 | _ => false
def eqC (a b : AV) : Option Bool := match eqI a b with | some r => some r | none => (match eqA a b with | some r => some (boolOf r) | none => none)
def eqCells : List AV -> List AV -> Option Bool
 | [], [] => some true
 | a :: l, b :: m => (match l, m with
   | [], [] => eqC a b
   | _, _ => (match eqC a b, eqCells l m with | some r, some s => some (band r s) | _, _ => none))
 | _, _ => none
def notA : AV -> AR
 | .lb b => .val (.lb (!b))
 | .sb b => .val (.sb (bnot b))
 | _ => .fail
def mapR (f : Nat -> Option AV) : AV -> AV
 | .row i => (match f i with | some a => a | none => .row i)
 | .elt i a b c => (match f i with | some _ => .top | none => .elt i a b c)
 | .own i o => (match f i with | some _ => .top | none => .own i o)
 | .lsl i n s => (match f i with | some _ => .top | none => .lsl i n s)
 | .mp i => (match f i with | some _ => .top | none => .mp i)
 | .agg l => .agg (mapRL f l)
 | .tup l => .tup (mapRL f l)
 | .fn g a b => .fn g (mapRL f a) (mapRL f b)
 | .gd k a => .gd k (mapR f a)
 | a => a
where mapRL (f : Nat -> Option AV) : List AV -> List AV
 | [] => []
 | a :: l => mapR f a :: mapRL f l
def rowIn : AV -> Option Nat
 | .row i => some i
 | .agg l => rowInL l
 | .tup l => rowInL l
 | .fn _ a b => (match rowInL a with | some i => some i | none => rowInL b)
 | .gd _ a => rowIn a
 | _ => none
where rowInL : List AV -> Option Nat
 | [] => none
 | a :: l => (match rowIn a with | some i => some i | none => rowInL l)
def okC : AV -> Bool
 | .li _ _ => true
 | .si _ _ => true
 | .lb _ => true
 | .sb _ => true
 | .slc _ _ _ => true
 | .xp _ => true
 | .pa _ _ _ => true
 | .v x => x.oneCell'
 | _ => false
def okL : List AV -> Bool
 | [] => true
 | a :: l => okC a && okL l
def oneC : AV -> Bool
 | .own _ _ => true
 | .elt _ _ _ _ => true
 | .row _ => true
 | .lsl _ _ _ => true
 | .fn _ _ _ => true
 | .mp _ => true
 | a => okC a
def oneL : List AV -> Bool
 | [] => true
 | a :: l => oneC a && oneL l
def loadA (P : Program) (hp : Heap) (t : TypeId) : AV -> AR
 | .own i off => (match getB hp i with
   | .cells _ l => partL P t (dropL l off)
   | _ => .fail)
 | .elt i sz k off => (match getB hp i with
   | .row _ sz' _ el => (match Nat.beq sz sz' with | true => partL P t (dropL (el k) off) | false => .fail)
   | .mat _ w _ f => (match Nat.beq sz w, isAgg P t with
     | true, some false => .need ⟨fun z : Nat × Nat => z.1 < z.2, (off, w)⟩ (.val (f k off))
     | _, _ => .fail)
   | .rows _ _ sz2 _ fz ln el ho => (match ho, Nat.beq sz 1 && Nat.beq off 0, isAgg P t with
     | some (k0, some h), true, some false => .need ⟨fun z : Nat × Nat => z.1 = z.2, (k, k0)⟩ (.val (.row h))
     | none, true, some false => .need ⟨fun z : Bool => z = true, fz k⟩ (.val (.slc (.sym (ln k)) sz2 (el k)))
     | _, _, _ => .fail)
   | _ => .fail)
 | .xp l => partL P t l
 | _ => .fail
@[irreducible] def updE (k : Nat) (c : List AV) (el : Nat -> List AV) (j : Nat) : List AV := if j = k then c else el j
@[irreducible] def selI (k j : Nat) (a b : Int) : Int := if j = k then a else b
@[irreducible] def selB (k j : Nat) (a b : Bool) : Bool := if j = k then a else b
def isBo : AV -> Bool
 | .lb _ => true
 | .sb _ => true
 | _ => false
def mixC (k j : Nat) (x y : AV) : Option AV :=
 match kindOf x, kindOf y with
 | some q, some q' => (match decide (q = q') with | true => some (.si q (selI k j (intOf x) (intOf y))) | false => none)
 | none, none => (match isBo x, isBo y with | true, true => some (.sb (selB k j (boolOf x) (boolOf y))) | _, _ => none)
 | _, _ => none
def mixL (k j : Nat) : List AV -> List AV -> Option (List AV)
 | [], [] => some []
 | x :: l, y :: m => (match mixC k j x y, mixL k j l m with | some z, some n => some (z :: n) | _, _ => none)
 | _, _ => none
@[irreducible] def updM0 (k j : Nat) (c : AV) (f : Nat -> Nat -> AV) (k' j' : Nat) : AV := if k' = k /\ j' = j then c else f k' j'
@[irreducible] def selMI (k j k' j' : Nat) (a b : Int) : Int := if k' = k /\ j' = j then a else b
@[irreducible] def selMB (k j k' j' : Nat) (a b : Bool) : Bool := if k' = k /\ j' = j then a else b
def mixM (k j k' j' : Nat) (x y : AV) : Option AV :=
 match kindOf x, kindOf y with
 | some q, some q' => (match decide (q = q') with | true => some (.si q (selMI k j k' j' (intOf x) (intOf y))) | false => none)
 | none, none => (match isBo x, isBo y with | true, true => some (.sb (selMB k j k' j' (boolOf x) (boolOf y))) | _, _ => none)
 | _, _ => none
def updM (k j : Nat) (c : AV) (f : Nat -> Nat -> AV) (k' j' : Nat) : AV := match mixM k j k' j' c (f k' j') with | some z => z | none => updM0 k j c f k' j'
@[irreducible] def updZ (k : Nat) (c : Bool) (f : Nat -> Bool) (k' : Nat) : Bool := if k' = k then c else f k'
@[irreducible] def updN (k : Nat) (c : Nat) (f : Nat -> Nat) (k' : Nat) : Nat := if k' = k then c else f k'
@[irreducible] def updR (k : Nat) (c : Nat -> List AV) (f : Nat -> Nat -> List AV) (k' : Nat) : Nat -> List AV := if k' = k then c else f k'
def updV (k off : Nat) (cs c : List AV) (el : Nat -> List AV) (j : Nat) : List AV := match mixL k j c (el j) with
 | some l => l
 | none => (match mixL k j cs (takeL (dropL (el j) off) cs.length) with
   | some m => pasteL (el j) off m
   | none => updE k c el j)
def storeA (P : Program) (hp : Heap) (t : TypeId) (p x : AV) : AR :=
 match decide ((cellsA x).length = sizeT P t /\ 0 < sizeT P t) with
 | false => .fail
 | true => (match p with
   | .own i off => (match getB hp i with
     | .cells t' l => (match decide (off + (cellsA x).length <= l.length) && oneL (cellsA x) with
       | true => .upd i (.cells t' (pasteL l off (cellsA x)))
       | false => .fail)
     | _ => .fail)
   | .elt i sz' k off => (match getB hp i with
     | .row e sz n el => (match decide (sz' = sz /\ off + (cellsA x).length <= sz) && okL (cellsA x) with
       | true => .upd i (.row e sz n (updV k off (cellsA x) (match decide (off = 0 /\ (cellsA x).length = sz) with | true => cellsA x | false => pasteL (el k) off (cellsA x)) el))
       | false => .fail)
     | .mat t' w n f => (match cellsA x with
       | [c] => (match decide (sz' = w) && okC c with
         | true => .need ⟨fun z : Nat × Nat => z.1 < z.2, (off, w)⟩ (.upd i (.mat t' w n (updM k off c f)))
         | false => .fail)
       | _ => .fail)
     | .rows e e' sz n fz ln el ho => (match cellsA x, ho with
       | [.row h], some (k0, _) => (match decide (sz' = 1 /\ off = 0) with
         | true => .need ⟨fun z : Nat × Nat => z.1 = z.2, (k, k0)⟩ (.upd i (.rows e e' sz n fz ln el (some (k0, some h))))
         | false => .fail)
       | _, _ => .fail)
     | _ => .fail)
   | _ => .fail)
def fieldAddrA (P : Program) (t : TypeId) (x : AV) (f : Nat) : AR :=
 match fieldT P t f with
 | none => .fail
 | some fd => (match sizeT P fd.type with
   | 0 => .fail
   | _ + 1 => (match x with
     | .own i off => .val (.own i (off + fd.offset))
     | .elt i sz k off => .val (.elt i sz k (off + fd.offset))
     | .xp l => .val (.xp (dropL l fd.offset))
     | _ => .fail))
def idx (a : AV) (n : LN) (k : Nat -> AR) : AR :=
 match a with
 | .li _ x => (match decide (0 <= x) with
   | true => (match n with
     | .lit m => (match decide (x.toNat < m) with | true => k x.toNat | false => .fail)
     | .sym m => .need ⟨fun z : Nat × Nat => z.1 < z.2, (x.toNat, m)⟩ (k x.toNat))
   | false => .fail)
 | .si _ x => .need ⟨fun z : Int × Nat => 0 <= z.1 /\ z.1 < (z.2 : Int), (x, n.val)⟩ (k (nat x))
 | _ => .fail
def brIdx (x : Int) (k : Nat -> AR) : Nat -> AR
 | 0 => .fail
 | 1 => k 0
 | n + 2 => .br (ieq x ((n + 1 : Nat) : Int)) (k (n + 1)) (brIdx x k (n + 1))
def arrA (hp : Heap) (n s : Nat) (x i : AV) : Option AR :=
 match x with
 | .elt b w k off => (match getB hp b with
   | .mat _ w' _ _ => (match Nat.beq w w' && Nat.beq n w && Nat.beq s 0 && Nat.beq off 0 with
     | true => some (idx i (.lit n) fun j => .val (.elt b w k j))
     | false => some .fail)
   | _ => some .fail)
 | .pa m sz el => (match Nat.beq sz (s + 1) with | true => some (.need ⟨fun z : Nat × Nat => z.1 = z.2, (m, n)⟩ (idx i (.lit n) fun j => .val (.xp (el j)))) | false => some .fail)
 | _ => none
def indexAddrA (P : Program) (hp : Heap) (t : TypeId) (x i : AV) : AR :=
 match P.underlying t with
 | some (.array n e) => (match sizeT P e with
   | 0 => .fail
   | s + 1 => (match arrA hp n s x i with
    | some r => r
    | none => (match i with
     | .li _ j => (match decide (0 <= j /\ j < n), x with
       | true, .own b off => .val (.own b (off + j.toNat * (s + 1)))
       | true, .xp l => .val (.xp (dropL l (j.toNat * (s + 1))))
       | _, _ => .fail)
     | .si _ j => (match Nat.ble n 16, x with
       | true, .own b off => .need ⟨fun z : Int × Nat => 0 <= z.1 /\ z.1 < (z.2 : Int), (j, n)⟩ (brIdx j (fun k => .val (.own b (off + k * (s + 1)))) n)
       | true, .xp l => .need ⟨fun z : Int × Nat => 0 <= z.1 /\ z.1 < (z.2 : Int), (j, n)⟩ (brIdx j (fun k => .val (.xp (dropL l (k * (s + 1))))) n)
       | _, _ => .fail)
     | _ => .fail)))
 | some (.slice e) => (match sizeT P e with
   | 0 => .fail
   | s + 1 => (match x with
     | .row b => (match getB hp b with
       | .row _ sz n _ => (match Nat.beq sz (s + 1) with | true => idx i n fun j => .val (.elt b sz j 0) | false => .fail)
       | .mat _ w n _ => (match Nat.beq w (s + 1) with | true => idx i n fun j => .val (.elt b w j 0) | false => .fail)
       | .rows _ _ _ n _ _ _ _ => (match Nat.beq s 0 with | true => idx i n fun j => .val (.elt b 1 j 0) | false => .fail)
       | _ => .fail)
     | .slc n sz el => (match Nat.beq sz (s + 1) with | true => idx i n fun j => .val (.xp (el j)) | false => .fail)
     | .lsl b n sz => (match i, Nat.beq sz (s + 1) with
       | .li _ j, true => (match decide (0 <= j /\ j < (n : Int)) with | true => .val (.own b (j.toNat * sz)) | false => .fail)
       | _, _ => .fail)
     | _ => .fail))
 | _ => .fail
def indexA (P : Program) (t : TypeId) (x i : AV) : AR :=
 match P.underlying t, x, i with
 | some (.array n e), .agg l, .li _ j => (match decide (0 <= j /\ j < (n : Int)), sizeT P e with
   | true, s + 1 => partL P e (dropL l (j.toNat * (s + 1)))
   | _, _ => .fail)
 | _, _, _ => .fail
def lenI : LN -> AR
 | .lit n => .val (.li .i64 (n : Int))
 | .sym n => .val (.si .i64 (icast n))
def lenA (hp : Heap) : AV -> AR
 | .v (.slice none 0 _) => .val (.li .i64 0)
 | .row i => (match getB hp i with | .row _ _ n _ => lenI n | .mat _ _ n _ => lenI n | .rows _ _ _ n _ _ _ _ => lenI n | _ => .fail)
 | .slc n _ _ => lenI n
 | .lsl _ n _ => .val (.li .i64 n)
 | _ => .fail
def minmax (mx : Bool) : AV -> List AV -> AR
 | a, [] => .val a
 | a, b :: rest => (match kindOf a, kindOf b with
   | some k, some _ => (match isLit a && isLit b with
     | true => minmax mx (.li k (match mx with | true => (if intOf b > intOf a then intOf b else intOf a) | false => (if intOf b < intOf a then intOf b else intOf a))) rest
     | false => minmax mx (.si k (match mx with | true => imax (intOf a) (intOf b) | false => imin (intOf a) (intOf b))) rest)
   | _, _ => .fail)
def cellsO : AV -> Option (List AV)
 | .agg l => some l
 | a => (match oneC a with | true => some [a] | false => none)
def spineK (l : List AV) : (List AV -> Option (List AV)) -> Option (List AV) :=
 List.rec (motive := fun _ => (List AV -> Option (List AV)) -> Option (List AV)) (fun k => k []) (fun a _ ih k => ih fun l' => k (a :: l')) l
theorem spineK_eq (l : List AV) : ∀ k, spineK l k = k l := by
 induction l with
 | nil => intro k; rfl
 | cons a l ih => intro k; exact ih _
def fillL (size : Nat) : List AV -> List (Nat × AV) -> Option (List AV)
 | cs, [] => some cs
 | cs, (i, a) :: rest => (match cellsO a with
   | none => none
   | some m => (match decide (m.length = size /\ i * size + size <= cs.length) with
     | true => spineK (pasteL cs (i * size) m) fun cs' => fillL size cs' rest
     | false => none))
def fillS (P : Program) (fs : List Field) : List AV -> List (Nat × AV) -> Option (List AV)
 | cs, [] => some cs
 | cs, (i, a) :: rest => (match fs[i]? with
   | none => none
   | some f => (match cellsO a with
     | none => none
     | some m => (match decide (m.length = sizeT P f.type /\ f.offset + m.length <= cs.length), sizeT P f.type with
       | true, _ + 1 => spineK (pasteL cs f.offset m) fun cs' => fillS P fs cs' rest
       | _, _ => none)))
def repL (l : List AV) : Nat -> List AV
 | 0 => []
 | n + 1 => appL l (repL l n)
def buildA (P : Program) (t : TypeId) (parts : List (Nat × AV)) : AR :=
 match zeroL P t, P.underlying t with
 | some z, some (.struct fs) => (match fs.toList.all (fun f => (P.info? f.type).isSome), fillS P fs.toList z parts with | true, some l => .val (.agg l) | _, _ => .fail)
 | some z, some (.array _ e) => (match sizeT P e with
   | 0 => .fail
   | s + 1 => (match fillL (s + 1) z parts with | some l => .val (.agg l) | none => .fail))
 | _, _ => .fail
def rowSlc (hp : Heap) (j : Nat) : Option AV := match getB hp j with | .row _ sz n el => some (.slc n sz el) | _ => none
def buildSliceA (P : Program) (hp : Heap) (t : TypeId) (n : Nat) : Nat -> List (Nat × AV) -> AR
 | 0, _ => .fail
 | d + 1, parts => (match rowIn.rowInL (parts.map (·.2)) with
   | some j => (match rowSlc hp j with
     | some s => .frz j s (buildSliceA P (setB hp j .dead) t n d (parts.map fun x => (x.1, mapR (fun i => match Nat.beq i j with | true => some s | false => none) x.2)))
     | none => .fail)
   | none => (match P.underlying t with
     | some (.slice e) => (match zeroL P e, decide (n * sizeT P e <= 1000), sizeT P e with
       | some z, true, s + 1 => (match fillL (s + 1) (repL z n) parts with
         | some l => (match okL l with
           | true => .blk (.row e (s + 1) (.lit n) (rowAt (s + 1) l)) .row
           | false => .blk (.cells e l) (fun i => .lsl i n (s + 1)))
         | none => .fail)
       | _, _, _ => .fail)
     | _ => .fail))
@[irreducible] def catE (n : Nat) (f g : Nat -> List AV) (k : Nat) : List AV := if k < n then f k else g (k - n)
def addLN : LN -> LN -> LN
 | .lit a, .lit b => .lit (a + b)
 | .lit a, .sym b => .sym (nadd a b)
 | .sym a, .lit b => .sym (nadd a b)
 | .sym a, .sym b => .sym (nadd a b)
def catL (n : LN) (f g : Nat -> List AV) : Nat -> List AV :=
 match n with
 | .lit 0 => g
 | n => catE n.val f g
def readS (hp : Heap) (a : AV) : Option (LN × Nat × (Nat -> List AV)) :=
 match a with
 | .row j => (match getB hp j with | .row _ sz n el => some (n, sz, el) | _ => none)
 | .slc n sz el => some (n, sz, el)
 | _ => none
def isNilS : AV -> Bool
 | .v (.slice none 0 0) => true
 | _ => false
def isSl (hp : Heap) : AV -> Bool
 | .row j => (match getB hp j with | .row _ _ _ _ => true | _ => false)
 | .slc _ _ _ => true
 | a => isNilS a
def maxRow : Nat := 1099511627776
def appendA (P : Program) (S : Sums) (hp : Heap) (t : TypeId) (s x : AV) : AR :=
 match P.underlying t with
 | some (.slice e) => (match isNilS x with
   | true => (match isSl hp s, sizeT P e with | true, _ + 1 => .val s | _, _ => .fail)
   | false => (match readS hp x with
     | none => .fail
     | some (m, sz, elx) => (match Nat.beq sz (sizeT P e), Nat.beq sz 0 with
       | true, false => (match isNilS s with
         | true => (match zeroL P e with
           | some _ => .need ⟨fun z : Nat × Nat => z.1 * (z.2 + 1) <= maxRow, (m.val, bytesT P e)⟩ (.blk (.row e sz m elx) .row)
           | none => .fail)
         | false => (match s with
           | .row i => (match getB hp i, Nat.ble S.lo i with
             | .row e' sz' n el, true => (match decide (e' = e /\ sz' = sz) && (zeroL P e).isSome with
               | true => .need ⟨fun z : Nat × Nat × Nat => (z.1 + z.2.1) * (z.2.2 + 1) <= maxRow, (n.val, m.val, bytesT P e)⟩ (.grow i (.row e sz (addLN n m) (catL n el elx)))
               | false => .fail)
             | _, _ => .fail)
           | _ => .fail))
       | _, _ => .fail)))
 | _ => .fail
def bigT (P : Program) (t : TypeId) : Option (Nat × AV) := match P.underlying t with
 | some (.array n e) => (match Nat.blt 15 n, zeroL P e with
   | true, some [z] => some (n, z)
   | _, _ => none)
 | _ => none
structure ZeroIs (P : Program) (z : TypeId × Nat × AV) : Prop where
 zero : zeroL P z.1 = some (List.replicate z.2.1 z.2.2)
 ok : okC z.2.2 = true
def findS {α : Type u} : List (Nat × α) -> Nat -> Option α
 | [], _ => none
 | (k, a) :: l, n => match Nat.beq k n with | true => some a | false => findS l n
def hasZ (S : Sums) (t : TypeId) : Bool := match findS S.eqs (t + 1048576) with | some _ => true | none => false
def makeSliceA (P : Program) (S : Sums) (t : TypeId) (n c : AV) : AR :=
 match P.underlying t with
 | some (.slice e) => (match bigT P e with
  | some (w, z) => (match hasZ S e, kindOf n, kindOf c with
    | true, some _, some _ => (.need ⟨fun z : Int × Int × Nat => 0 <= z.1 /\ z.1 <= z.2.1 /\ z.2.1 * (z.2.2 + 1) <= maxRow, (intOf n, intOf c, bytesT P e)⟩ (.blk (.mat e w (.sym (nat (intOf n))) (fun _ _ => z)) .row))
    | _, _, _ => .fail)
  | none => (match zeroL P e with
   | none => .fail
   | some z => (match okL z with
    | false => .fail
    | true => (match n with
     | .li _ x => (match decide (0 <= x), Nat.beq (sizeT P e) 0 with
       | true, false => .need ⟨fun z : Int × Int × Nat => z.1 <= z.2.1 /\ z.2.1 * (z.2.2 + 1) <= maxRow, (x, intOf c, bytesT P e)⟩ (match kindOf c with | some _ => .blk (.row e (sizeT P e) (.lit x.toNat) (fun _ => z)) .row | none => .fail)
       | _, _ => .fail)
     | .si _ x => (match Nat.beq (sizeT P e) 0 with
       | false => .need ⟨fun z : Int × Int × Nat => 0 <= z.1 /\ z.1 <= z.2.1 /\ z.2.1 * (z.2.2 + 1) <= maxRow, (x, intOf c, bytesT P e)⟩ (match kindOf c with | some _ => .blk (.row e (sizeT P e) (.sym (nat x)) (fun _ => z)) .row | none => .fail)
       | true => .fail)
     | _ => .fail))))
 | _ => .fail
def boundsA (n : LN) (lo hi : Option AV) (k : Nat -> LN -> AR) : AR :=
 match lo, hi with
 | none, none => k 0 n
 | some (.li _ a), none => (match decide (0 <= a), n with
   | true, .lit m => (match decide (a.toNat <= m) with | true => k a.toNat (.lit (m - a.toNat)) | false => .fail)
   | true, .sym m => .need ⟨fun z : Nat × Nat => z.1 <= z.2, (a.toNat, m)⟩ (k a.toNat (.sym (nsub m a.toNat)))
   | false, _ => .fail)
 | some (.si _ a), none => .need ⟨fun z : Int × Nat => 0 <= z.1 /\ z.1 <= (z.2 : Int), (a, n.val)⟩ (k (nat a) (.sym (nsub n.val (nat a))))
 | none, some (.li _ b) => (match decide (0 <= b) with
   | true => .need ⟨fun z : Nat × Nat => z.1 <= z.2, (b.toNat, n.val)⟩ (k 0 (.lit b.toNat))
   | false => .fail)
 | none, some (.si _ b) => .need ⟨fun z : Int × Nat => 0 <= z.1 /\ z.1 <= (z.2 : Int), (b, n.val)⟩ (k 0 (.sym (nat b)))
 | some a, some b => (match kindOf a, kindOf b with
   | some _, some _ => .need ⟨fun z : Int × Int × Nat => 0 <= z.1 /\ z.1 <= z.2.1 /\ z.2.1 <= (z.2.2 : Int), (intOf a, intOf b, n.val)⟩ (k (nat (intOf a)) (.sym (nsub (nat (intOf b)) (nat (intOf a)))))
   | _, _ => .fail)
 | _, _ => .fail
def sliceA (P : Program) (hp : Heap) (t : TypeId) (x : AV) (lo hi mx : Option AV) : AR :=
 match mx, P.underlying t with
 | none, some (.slice e) => (match x with
   | .slc n sz el => (match Nat.beq sz (sizeT P e), Nat.beq sz 0 with | true, false => boundsA n lo hi fun l m => .val (.slc m sz (fun k => el (l + k))) | _, _ => .fail)
   | .row j => (match getB hp j with
     | .row _ sz n el => (match Nat.beq sz (sizeT P e), Nat.beq sz 0 with | true, false => .frz j (.slc n sz el) (boundsA n lo hi fun l m => .val (.slc m sz (fun k => el (l + k)))) | _, _ => .fail)
     | _ => .fail)
   | _ => .fail)
 | _, _ => .fail
def partsA (ρ : Operand -> AV) : List (Nat × Operand) -> List (Nat × AV)
 | [] => []
 | (i, o) :: l => (i, ρ o) :: partsA ρ l
def convA (P : Program) (src dst : TypeId) (a : AV) : AR :=
 match P.underlying src, P.underlying dst with
 | some (.int _), some (.int k) => (match a with
   | .li _ n => .val (.li k (k.wrap n))
   | .si _ n => (match k.signed with | true => .need ⟨fun z : IntKind × Int => InR z.1 z.2, (k, n)⟩ (.val (.si k n)) | false => .val (.si k (iwrap k n)))
   | _ => .fail)
 | _, _ => .fail
def isPtr : AV -> Bool
 | .own _ _ => true
 | .elt _ _ _ _ => true
 | .xp _ => true
 | _ => false
def nilP : AV -> Bool
 | .v (.pointer none) => true
 | _ => false
def shiftOf (op : BinOp) (a b : AV) : AR :=
 match kindOf a, kindOf b with
 | some k, some _ => (match isLit a && isLit b with
   | true => (match decide (0 <= intOf b /\ intOf b < k.bits), op with
     | true, .shl => .val (.li k (k.wrap (intOf a * 2 ^ (intOf b).toNat)))
     | true, .shr => .val (.li k ((intOf a).fdiv (2 ^ (intOf b).toNat)))
     | _, _ => .fail)
   | false => arShift op k (intOf a) (intOf b))
 | _, _ => .fail
def eqB (op : BinOp) (r : AV) : AR := match op with | .eql => .val r | .neq => notA r | _ => .fail
def isShiftOp : BinOp -> Bool
 | .shl => true
 | .shr => true
 | _ => false
def isBoolV : AV -> Bool
 | .lb _ => true
 | .sb _ => true
 | _ => false
def okKs : List (Option IntKind) -> List AV -> Bool
 | [], [] => true
 | some k :: ks, a :: l => (match kindOf a with | some k' => decide (k = k') && okKs ks l | none => false)
 | none :: ks, a :: l => isBoolV a && okKs ks l
 | _, _ => false
def isBoolT (P : Program) (t : TypeId) : Bool := match P.underlying t with | some .bool => true | _ => false
def isPtrT (P : Program) (t : TypeId) : Bool := match P.underlying t with | some (.pointer _) => true | _ => false
def binA (P : Program) (S : Sums) (op : BinOp) (t : TypeId) (a b : AV) : AR :=
 match isShiftOp op with
 | true => shiftOf op a b
 | false => (match kindOf a, kindOf b with
   | some k, some k' => (match decide (k = k') with | true => arBin op k (isLit a && isLit b) (intOf a) (intOf b) (isLit b) | false => .fail)
   | _, _ => (match a, b with
     | .agg l, .agg m => (match Nat.blt t 1048576, findS S.eqs t with
       | true, some ks => (match okKs ks l && okKs ks m, eqCells l m with
         | true, some r => eqB op (.sb r)
         | _, _ => .fail)
       | _, _ => .fail)
     | a, b => (match isPtrT P t with
       | true => (match nilP a, nilP b with
         | true, true => eqB op (.lb true)
         | true, false => (match isPtr b with | true => eqB op (.lb false) | false => .fail)
         | false, true => (match isPtr a with | true => eqB op (.lb false) | false => .fail)
         | false, false => .fail)
       | false => (match isBoolT P t, eqA a b with
         | true, some r => eqB op r
         | _, _ => .fail))))
def fstN (q : Nat -> Bool) : Nat -> Nat
 | 0 => 0
 | n + 1 => (match Nat.blt (fstN q n) n with | true => fstN q n | false => (match q n with | true => n | false => n + 1))
@[irreducible] def lkB (n : Nat) (q : Nat -> Bool) : Bool := Nat.blt (fstN q n) n
@[irreducible] def lkV (n : Nat) (q : Nat -> Bool) (v : Nat -> Int) : Int := match Nat.blt (fstN q n) n with | true => v (fstN q n) | false => 0
@[irreducible] def keyQ (el : Nat -> List AV) (sz : Nat) (c : List AV) (k : Nat) : Bool := match eqCells c (takeL (el k) sz) with | some b => b | none => false
@[irreducible] def valQ (el : Nat -> List AV) (sz : Nat) (k : Nat) : Int := intOf (getL (el k) sz)
def TabOK (z : Nat × Nat × List (Option IntKind) × IntKind × (Nat -> List AV)) : Prop := ∀ k, k < z.1 -> okKs z.2.2.1 (takeL (z.2.2.2.2 k) z.2.1) = true /\ kindOf (getL (z.2.2.2.2 k) z.2.1) = some z.2.2.2.1
def zeroI (P : Program) (t : TypeId) : Option IntKind := match P.info? t with
 | some i => (match i.zero with
   | some (.int k n) => (match decide (n = 0) with | true => some k | false => none)
   | _ => none)
 | none => none
def tabT (P : Program) (S : Sums) (t : TypeId) : Option (List (Option IntKind) × IntKind) := match P.underlying t with
 | some (.map kt et) => (match Nat.blt kt 1048576, isAgg P kt, findS S.eqs kt, zeroI P et with
   | true, some true, some ks, some kv => some (ks, kv)
   | _, _, _, _ => none)
 | _ => none
def lookupA (P : Program) (S : Sums) (hp : Heap) (t : TypeId) (x c : AV) (ok : Bool) : AR :=
 match tabT P S t, x, c with
 | some (ks, kv), .mp i, .agg c => (match getB hp i with
   | .tab n sz el => (match okKs ks c && Nat.beq sz ks.length with
     | true => .need ⟨TabOK, (n.val, sz, ks, kv, el)⟩ (.val (match ok with
       | true => .tup [.si kv (lkV n.val (keyQ el sz c) (valQ el sz)), .sb (lkB n.val (keyQ el sz c))]
       | false => .si kv (lkV n.val (keyQ el sz c) (valQ el sz))))
     | false => .fail)
   | _ => .fail)
 | _, _, _ => .fail
def mapUpdateA (P : Program) (S : Sums) (hp : Heap) (t : TypeId) (x c v : AV) : AR :=
 match tabT P S t, x, c with
 | some (ks, kv), .mp i, .agg c => (match getB hp i, kindOf v with
   | .tab n sz el, some kv' => (match okKs ks c && Nat.beq sz ks.length && decide (kv' = kv) with
     | true => .need ⟨TabOK, (n.val, sz, ks, kv, el)⟩ (.need ⟨fun z : Bool => z = false, lkB n.val (keyQ el sz c)⟩ (.upd i (.tab (addLN n (.lit 1)) sz (catL n el (fun _ => appL c [v])))))
     | false => .fail)
   | _, _ => .fail)
 | _, _, _ => .fail
def makeMapA (P : Program) (S : Sums) (t : TypeId) : AR := match tabT P S t with
 | some (ks, _) => .blk (.tab (.lit 0) ks.length (fun _ => [])) .mp
 | none => .fail
def expA : Nat -> Heap -> AV -> AV
 | _, _, .li k n => .si k n
 | _, _, .lb b => .sb b
 | d + 1, hp, .agg l => .agg (l.map (expA d hp))
 | d + 1, hp, .fn f a b => .fn f (a.map (expA d hp)) (b.map (expA d hp))
 | d + 1, hp, .own i off => (match getB hp i with | .cells _ l => .xp ((dropL l off).map (expA d hp)) | _ => .top)
 | _ + 1, hp, .row i => (match getB hp i with | .row _ sz n el => .slc n sz el | _ => .top)
 | _, _, .v x => .v x
 | _, _, .si k n => .si k n
 | _, _, .sb b => .sb b
 | _, _, .slc n sz el => .slc n sz el
 | _, _, .xp l => .xp l
 | _, _, _ => .top
def ownIn : AV -> Bool
 | .own _ _ => true
 | .row _ => true
 | .lsl _ _ _ => true
 | .elt _ _ _ _ => true
 | .mp _ => true
 | .agg l => ownInL l
 | .tup l => ownInL l
 | .fn _ a b => ownInL a || ownInL b
 | .gd _ a => ownIn a
 | _ => false
where ownInL : List AV -> Bool
 | [] => false
 | a :: l => ownIn a || ownInL l
def plainA : AV -> Bool
 | .li _ _ => true
 | .si _ _ => true
 | .lb _ => true
 | .sb _ => true
 | .row _ => true
 | .own _ _ => true
 | .v _ => true
 | .agg l => plainL l
 | .tup l => plainL l
 | _ => false
where plainL : List AV -> Bool
 | [] => true
 | a :: l => plainA a && plainL l
def plainH : Heap -> Bool
 | [] => true
 | .dead :: l => plainH l
 | .cells _ c :: l => plainA.plainL c && plainH l
 | .row _ _ _ _ :: l => plainH l
 | _ :: _ => false
def shB : AV -> Bool
 | .top => true
 | .li _ _ => true
 | .si _ _ => true
 | .lb _ => true
 | .sb _ => true
 | .row _ => true
 | .own _ _ => true
 | .mp _ => true
 | .v _ => true
 | .slc _ _ _ => true
 | .xp _ => true
 | .pa _ _ _ => true
 | .agg l => shBL l
 | .tup l => shBL l
 | .fn _ a b => !(ownIn.ownInL a) && !(ownIn.ownInL b)
 | _ => false
where shBL : List AV -> Bool
 | [] => true
 | a :: l => shB a && shBL l
def shBH : Heap -> Bool
 | [] => true
 | .dead :: l => shBH l
 | .cells _ c :: l => shB.shBL c && shBH l
 | .row _ _ _ _ :: l => shBH l
 | .tab _ _ _ :: l => shBH l
 | _ :: _ => false
def PlainEl (z : Nat × (Nat -> List AV)) : Prop := ∀ k, k < z.1 -> plainA.plainL (z.2 k) = true
def rowNeeds : Heap -> List Cd
 | [] => []
 | .row _ _ n el :: l => ⟨PlainEl, (n.val, el)⟩ :: rowNeeds l
 | _ :: l => rowNeeds l
def callOK (args : List AV) (res : AV) (new : Heap) : Bool := match ownIn.ownInL args with | false => shB res && shBH new | true => plainA res && plainH new
def callNeeds (args : List AV) (new : Heap) : List Cd := match ownIn.ownInL args with | false => [] | true => rowNeeds new
def hoR (f : Nat -> Option AV) : Option (Nat × Option Nat) -> Option (Nat × Option Nat)
 | some (k, some h) => (match f h with | some _ => some (k, none) | none => some (k, some h))
 | x => x
def mapB (f : Nat -> Option AV) : Blk -> Blk
 | .cells t l => .cells t (mapR.mapRL f l)
 | .rows e e' sz n fz ln el ho => .rows e e' sz n fz ln el (hoR f ho)
 | b => b
def mapH (f : Nat -> Option AV) : Heap -> Heap
 | [] => []
 | b :: l => mapB f b :: mapH f l
def at1 (j : Nat) (a : AV) : Nat -> Option AV := fun i => match Nat.beq i j with | true => some a | false => none
def mapE (hp : Heap) : List AV -> List AV
 | [] => []
 | a :: l => expA 5 hp a :: mapE hp l
def frzCall (S : Sums) (hp : Heap) (g : FuncId) (args : List AV) : Option (Nat × AV) :=
 match rowIn.rowInL args with
 | none => none
 | some j => (match rowSlc hp j with
   | none => none
   | some s => (match findS S.two g with
     | some _ => none
     | none => (match findS S.one g with
       | none => none
       | some s1 => (match s1 (mapE hp args) with
         | none => none
         | some r => (match callOK args r.res r.new with | true => none | false => some (j, s))))))
def callA (S : Sums) (g : FuncId) : Nat -> Heap -> List AV -> AR
 | 0, _, _ => .fail
 | d + 1, hp, args => (match frzCall S hp g args with
   | none => .call g args
   | some (j, s) => .frz j s (callA S g d (setB (mapH (at1 j s) hp) j .dead) (mapR.mapRL (at1 j s) args)))
def hasN : List Nat -> Nat -> Bool
 | [], _ => false
 | m :: l, n => (match Nat.beq m n with | true => true | false => hasN l n)
def aop (P : Program) (S : Sums) (ρ : Operand -> AV) (hp : Heap) (op : Op) : AR :=
 match op with
 | .move x => .val (ρ x)
 | .assign x => .val (ρ x)
 | .alloc t => (match bigT P t with
   | some (n, z) => (match hasZ S t with | true => .blk (.mat t n (.lit 1) (fun _ _ => z)) (fun i => .elt i n 0 0) | false => .fail)
   | none => (match zeroL P t with | some l => .blk (.cells t l) (fun i => .own i 0) | none => .fail))
 | .box t x => (match cellsO (ρ x) with
   | some l => (match hasN S.imm t with
     | true => (match ownIn.ownInL l with
       | false => .val (.xp l)
       | true => .blk (.cells t l) (fun i => .own i 0))
     | false => .blk (.cells t l) (fun i => .own i 0))
   | none => .fail)
 | .build t parts => buildA P t (partsA ρ parts.toList)
 | .buildSlice t n parts => buildSliceA P hp t n 20 (partsA ρ parts.toList)
 | .load t a => loadA P hp t (ρ a)
 | .store t a x => storeA P hp t (ρ a) (ρ x)
 | .nilCheck x => (match isPtr (ρ x) with | true => .val (ρ x) | false => (match ρ x with | .fn (.func f) a b => .val (.fn (.func f) a b) | .pa n sz el => .need ⟨fun z : Nat => 0 < z, n⟩ (.val (.pa n sz el)) | _ => .fail))
 | .fieldAddr t x f => fieldAddrA P t (ρ x) f
 | .field t x f => (match fieldT P t f, ρ x with
   | some fd, .agg l => partL P fd.type (dropL l fd.offset)
   | _, _ => .fail)
 | .indexAddr t x i => indexAddrA P hp t (ρ x) (ρ i)
 | .index t x i => indexA P t (ρ x) (ρ i)
 | .binOp op t x y _ => binA P S op t (ρ x) (ρ y)
 | .unOp .not _ x => notA (ρ x)
 | .unOp .neg _ x => (match kindOf (ρ x) with
   | some k => arith k (isLit (ρ x)) (0 - intOf (ρ x)) (isub 0 (intOf (ρ x)))
   | none => .fail)
 | .convert src dst x => convA P src dst (ρ x)
 | .makeFunc f first cap => .val (.fn f (evL ρ first.toList) (evL ρ cap.toList))
 | .makeSlice t n c => makeSliceA P S t (ρ n) (ρ c)
 | .slice t x lo hi mx => sliceA P hp t (ρ x) (lo.map ρ) (hi.map ρ) (mx.map ρ)
 | .extract x i => (match ρ x with | .tup l => (match l[i]? with | some a => .val a | none => .fail) | _ => .fail)
 | .makeMap t none => makeMapA P S t
 | .lookup t x k ok => lookupA P S hp t (ρ x) (ρ k) ok
 | .mapUpdate t m k x => mapUpdateA P S hp t (ρ m) (ρ k) (ρ x)
 | .call c => (match c.callee with
   | .value f => (match ρ f with
     | .fn (.func f) first cap => callA S f 20 hp (appL first (appL (evL ρ c.args.toList) cap))
     | _ => .fail)
   | .builtin .len => (match c.args.toList, c.argTypes.toList with
     | [x], [t] => (match P.underlying t with | some (.slice _) => lenA hp (ρ x) | some (.array n _) => .val (.li .i64 n) | _ => .fail)
     | _, _ => .fail)
   | .builtin .min => (match evL ρ c.args.toList with | a :: l => minmax false a l | [] => .fail)
   | .builtin .max => (match evL ρ c.args.toList with | a :: l => minmax true a l | [] => .fail)
   | .builtin .append => (match c.args.toList, c.argTypes.toList with
     | [s, x], [t, t'] => (match Nat.beq t t' with | true => appendA P S hp t (ρ s) (ρ x) | false => .fail)
     | _, _ => .fail)
   | _ => .fail)
 | _ => .fail
def shiftA (b : Nat) : AV -> AV
 | .own i off => .own (b + i) off
 | .row i => .row (b + i)
 | .mp i => .mp (b + i)
 | .agg l => .agg (shiftL b l)
 | .tup l => .tup (shiftL b l)
 | a => a
where shiftL (b : Nat) : List AV -> List AV
 | [] => []
 | a :: l => shiftA b a :: shiftL b l
def shiftH (b : Nat) : Heap -> Heap
 | [] => []
 | .cells t c :: l => .cells t (shiftA.shiftL b c) :: shiftH b l
 | x :: l => x :: shiftH b l
def appH : Heap -> Heap -> Heap
 | [], m => m
 | a :: l, m => a :: appH l m
def forceB (b : Blk) (k : Blk -> VC) : VC := match b with
 | .cells t l => forceL l fun l' => k (.cells t l')
 | .row a b c d => k (.row a b c d)
 | .mat a b c d => k (.mat a b c d)
 | .rows a b c d e f g h => k (.rows a b c d e f g h)
 | .tab a b c => k (.tab a b c)
 | .dead => k .dead
def forceH : Heap -> (Heap -> VC) -> VC
 | [], k => k []
 | a :: l, k => forceB a fun a' => forceH l fun l' => k (a' :: l')
def forceD (a : AV) (k : AV -> VC) : VC := match a with
 | .agg l => forceL l fun l' => k (.agg l')
 | .tup l => forceL l fun l' => k (.tup l')
 | .gd n a => forceV a fun a' => k (.gd n a')
 | .xp l => forceL l fun l' => k (.xp l')
 | a => forceV a k
def forceLD : List AV -> (List AV -> VC) -> VC
 | [], k => k []
 | a :: l, k => forceD a fun a' => forceLD l fun l' => k (a' :: l')
def needs : List Cd -> VC -> VC
 | [], k => k
 | p :: l, k => .need p (needs l k)
def needsC (c : Bool) : List Cd -> VC -> VC
 | [], k => k
 | p :: l, k => .need (p.under c) (needsC c l k)
def noRowsH : Heap -> Bool
 | [] => true
 | .rows _ _ _ _ _ _ _ _ :: _ => false
 | _ :: l => noRowsH l
def AR.vc (S : Sums) (nb : Bool) (r : AR) (fr : List AV) (hp : Heap) (K : List AV -> Heap -> AV -> VC) : VC :=
 match r with
 | .fail => .fail
 | .val a => forceD a (K fr hp)
 | .need p r => .need p (r.vc S nb fr hp K)
 | .br b t e => .branch b (t.vc S nb fr hp K) (e.vc S nb fr hp K)
 | .blk b mk => forceH (appH hp [b]) fun hp' => K fr hp' (mk hp.length)
 | .upd i b => (match nb with
   | true => forceH (setB hp i b) fun hp' => K fr hp' (.tup [])
   | false => .fail)
 | .grow i b => (match nb && Nat.ble S.lo i with
   | true => forceLD (mapR.mapRL (at1 i .top) fr) fun fr' => forceH (setB (mapH (at1 i .top) hp) i b) fun hp' => K fr' hp' (.row i)
   | false => .fail)
 | .frz j a r => (match nb && Nat.ble S.lo j with
   | true => forceLD (mapR.mapRL (at1 j a) fr) fun fr' => forceH (setB (mapH (at1 j a) hp) j .dead) fun hp' => r.vc S nb fr' hp' K
   | false => .fail)
 | .call f args => (match findS S.two f with
   | some s2 => (match nb && noRowsH hp, s2 args hp with
     | true, some ⟨pre, res, hp2, mv⟩ => (match Nat.ble hp.length hp2.length with
       | true => (match mv with
         | none => needs pre (forceH hp2 fun hp' => forceD res (K fr hp'))
         | some j => (match Nat.ble S.lo j with
           | true => needs pre (forceLD (mapR.mapRL (at1 j .top) fr) fun fr' => forceH hp2 fun hp' => forceD res (K fr' hp'))
           | false => .fail))
       | false => .fail)
     | _, _ => .fail)
   | none => (match findS S.one f with
     | some s1 => forceLD (mapE hp args) fun args' => (match s1 args' with
       | some ⟨pre, res, new⟩ => (match callOK args res new with
         | true => needs pre (needs (callNeeds args new) (forceH (appH hp (shiftH hp.length new)) fun hp' => forceD (shiftA hp.length res) (K fr hp')))
         | false => .fail)
       | none => .fail)
     | none => .fail))
structure Cnd where
 j : Nat
 want : Bool
 c : Bool
 anc : List Nat
def AR.vcC (S : Sums) (k : Nat) (c : Bool) (r : AR) (hp : Heap) (K : Heap -> AV -> VC) : VC :=
 match r with
 | .val a => forceD a fun a' => K hp (.gd k a')
 | .need p r => .need (p.under c) (r.vcC S k c hp K)
 | .br b t e => .branch b (t.vcC S k c hp K) (e.vcC S k c hp K)
 | .blk b mk => forceH (appH hp [b]) fun hp' => K hp' (.gd k (mk hp.length))
 | .call f args => (match findS S.two f with
   | some _ => .fail
   | none => (match findS S.one f with
     | some s1 => forceLD (mapE hp args) fun args' => (match s1 args' with
       | some ⟨pre, res, new⟩ => (match callOK args res new with
         | true => needsC c pre (needsC c (callNeeds args new) (forceH (appH hp (shiftH hp.length new)) fun hp' => forceD (shiftA hp.length res) fun a => K hp' (.gd k a)))
         | false => .fail)
       | none => .fail)
     | none => .fail))
 | _ => .fail
def setF (l : List AV) : Nat -> AV -> (List AV -> VC) -> VC :=
 List.rec (motive := fun _ => Nat -> AV -> (List AV -> VC) -> VC) (fun _ _ k => k [])
  (fun x l ih n a k => Nat.rec (motive := fun _ => VC) (k (a :: l)) (fun m _ => ih m a fun l' => k (x :: l')) n) l
theorem setF_succ (x : AV) (l : List AV) (n : Nat) (a : AV) (k : List AV -> VC) : setF (x :: l) (n + 1) a k = setF l n a fun l' => k (x :: l') := rfl
def setK (fr : List AV) (d : Option Nat) (a : AV) (k : List AV -> VC) : VC :=
 match d with
 | none => k fr
 | some d => forceV a fun a' => setF fr d a' k
def branchK (fr : List AV) (d : Nat) (K : Bool -> List AV -> VC) : VC :=
 match getL fr d with
 | .lb true => K true fr
 | .lb false => K false fr
 | .sb b => .branch b (setF fr d (.lb true) (K true)) (setF fr d (.lb false) (K false))
 | _ => .fail
def dstOf (all : List Oper) (j : Nat) : Option Nat := match all[j]? with | some o => o.dst | none => none
def memN (n : Nat) : List Nat -> Bool
 | [] => false
 | m :: l => (match Nat.beq m n with | true => true | false => memN n l)
def unGd (anc : List Nat) : AV -> AV
 | .gd k a => (match memN k anc with | true => a | false => .top)
 | a => a
def evU (anc : List Nat) (fr : List AV) (x : Operand) : AV := unGd anc (ev fr x)
def noGd : AV -> AV
 | .gd _ _ => .top
 | a => a
def cleanL : List AV -> List AV
 | [] => []
 | a :: l => noGd a :: cleanL l
def cleanF (l : List AV) : (List AV -> VC) -> VC :=
 List.rec (motive := fun _ => (List AV -> VC) -> VC) (fun k => k []) (fun a _ ih k =>
  @AV.casesOn (fun _ => VC) a (ih fun l' => k (a :: l')) (fun _ _ => ih fun l' => k (a :: l')) (fun _ _ => ih fun l' => k (a :: l')) (fun _ => ih fun l' => k (a :: l')) (fun _ => ih fun l' => k (a :: l'))
   (fun _ => ih fun l' => k (a :: l')) (fun _ => ih fun l' => k (a :: l')) (fun _ => ih fun l' => k (a :: l')) (fun _ _ => ih fun l' => k (a :: l')) (fun _ _ _ _ => ih fun l' => k (a :: l')) (fun _ => ih fun l' => k (a :: l'))
   (fun _ _ _ => ih fun l' => k (a :: l')) (fun _ _ _ => ih fun l' => k (a :: l')) (fun _ => ih fun l' => k (a :: l')) (fun _ _ _ => ih fun l' => k (a :: l')) (fun _ _ => ih fun l' => k (.top :: l')) (fun _ _ _ => ih fun l' => k (a :: l')) (fun _ => ih fun l' => k (a :: l'))) l
def getN : List Nat -> Nat -> Nat
 | [], _ => 0
 | a :: _, 0 => a
 | _ :: l, n + 1 => getN l n
def addN : List Nat -> Nat -> List Nat
 | [], x => [x]
 | a :: l, x => a :: addN l x
def maskOf (ms : List Nat) : List Edge -> Nat
 | [] => 0
 | e :: l => (match Region.binds .any e with | true => Nat.lor (Nat.lor (Nat.shiftLeft 1 e.on) (getN ms e.on)) (maskOf ms l) | false => maskOf ms l)
def masks : List Oper -> List Nat -> List Nat
 | [], ms => ms
 | o :: l, ms => masks l (addN ms (maskOf ms o.after.toList))
def ordM (ms : List Nat) (j i : Nat) : Bool := Nat.testBit (getN ms i) j
def allLt (f : Nat -> Bool) : Nat -> Bool
 | 0 => true
 | n + 1 => (match f n with | true => allLt f n | false => false)
def barAt (dr : Bool) (all : List Oper) (i : Nat) : Bool := match dr with
 | false => true
 | true => (let ms := masks all []
   allLt (fun j => match Nat.blt j i with | true => ordM ms j i | false => (match Nat.beq j i with | true => true | false => ordM ms i j)) all.length)
def looksL (all : List Oper) (o : Oper) : List Nat :=
 (o.op.operands.toList.filterMap fun | .tmp t => some t | _ => none) ++ (match o.guard with
  | some (g, _) => (match all[g]? with | some o' => (match o'.dst with | some d => [d] | none => []) | none => [])
  | none => [])
def uniqOK (all : List Oper) : Bool :=
 allLt (fun j => match all[j]? with
  | none => true
  | some o => (match o.dst with
    | none => true
    | some d => allLt (fun i => match all[i]? with | none => true | some o' => !(decide (o'.dst = some d) && !(Nat.beq i j))) all.length)
    && (match o.guard with | none => true | some (g, _) => Nat.blt g j)) all.length
def tmpOK (all : List Oper) : Bool :=
 let ms := masks all []
 allLt (fun j => match all[j]? with
  | none => true
  | some o => (match o.guard with | none => true | some (g, _) => ordM ms g j) && (match o.dst with
    | none => true
    | some d => allLt (fun i => match all[i]? with
      | none => true
      | some o' => (match (looksL all o').contains d with
        | false => true
        | true => (match Nat.blt j i with | true => ordM ms j i | false => (match Nat.beq i j with | true => true | false => ordM ms i j)))) all.length)) all.length
def backOK (all : List Oper) : Bool :=
 allLt (fun j => match all[j]? with
  | none => true
  | some o => o.after.toList.all fun e => !(Region.binds .any e) || Nat.blt e.on j) all.length
def regOK (dr : Bool) (all : List Oper) : Bool := uniqOK all && (match dr with | true => tmpOK all && backOK all | false => true)
structure Sw where
 a : Nat
 s : Nat
 d : Nat
 t : TypeId
 x : Operand
def isSt : Op -> Option (TypeId × Nat × Operand)
 | .store t (.tmp d) x => some (t, d, x)
 | _ => none
def isAl (t : TypeId) : Op -> Bool
 | .alloc t' => Nat.beq t t'
 | _ => false
def isDst (d : Nat) : Option Nat -> Bool
 | some e => Nat.beq d e
 | none => false
def allocAt (d : Nat) (t : TypeId) : Nat -> List Oper -> Option Nat
 | _, [] => none
 | n, o :: l => (match isDst d o.dst, isAl t o.op with | true, true => some n | _, _ => allocAt d t (n + 1) l)
def swGo (all : List Oper) : Nat -> List Oper -> Option Sw
 | _, [] => none
 | n, o :: l => (match isSt o.op with
   | some (t, d, x) => (match barAt true all n with
     | true => swGo all (n + 1) l
     | false => (match allocAt d t 0 all with | some a => some ⟨a, n, d, t, x⟩ | none => swGo all (n + 1) l))
   | none => swGo all (n + 1) l)
def dstTo : List Oper -> Nat -> Option Nat -> List Oper
 | [], _, _ => []
 | o :: l, 0, d => { o with dst := d } :: l
 | o :: l, n + 1, d => o :: dstTo l n d
def swOps (all : List Oper) (z : Sw) : List Oper := dstTo (dstTo all z.a none) z.s (some z.d)
def mvX (o : Oper) : Option Operand := match o.op with
 | .move x => (match o.guard, o.after.toList with | none, [] => some x | _, _ => none)
 | _ => none
def mvOps : List Oper -> List Oper
 | [] => []
 | o :: l => (match mvX o with | some _ => o :: mvOps l | none => mvOps l)
def lenO : List Oper -> Nat
 | [] => 0
 | _ :: l => lenO l + 1
def nmv : List Oper -> Nat -> Nat
 | _, 0 => 0
 | [], _ + 1 => 0
 | o :: l, i + 1 => (match mvX o with | some _ => nmv l i | none => nmv l i + 1)
def mvAt (all : List Oper) (i : Nat) : Bool := match all[i]? with | some o => (mvX o).isSome | none => false
def renE (all : List Oper) (k : Nat) : List Edge -> List Edge
 | [] => []
 | e :: l => (match mvAt all e.on with | true => renE all k l | false => ⟨k + nmv all e.on, e.ground⟩ :: renE all k l)
def frontE : Nat -> List Edge -> List Edge
 | 0, l => l
 | n + 1, l => ⟨n, .data⟩ :: frontE n l
def renO (all : List Oper) (k : Nat) (o : Oper) : Oper := { o with after := ⟨frontE k (renE all k o.after.toList)⟩, guard := match o.guard with | some (g, w) => some (k + nmv all g, w) | none => none }
def restO (all : List Oper) (k : Nat) : List Oper -> List Oper
 | [] => []
 | o :: l => (match mvX o with | some _ => restO all k l | none => renO all k o :: restO all k l)
def hoist (all : List Oper) : List Oper := mvOps all ++ restO all (lenO (mvOps all)) all
def callish : Op -> Bool
 | .store _ _ _ => true
 | .mapUpdate _ _ _ _ => true
 | .call c => (match c.callee with | .value (.func _) => true | _ => false)
 | _ => false
def anyCallish : List Oper -> Bool
 | [] => false
 | o :: l => (match callish o.op with | true => true | false => anyCallish l)
def hoTry (all : List Oper) : Bool := match anyCallish all, mvOps all with
 | true, _ :: _ => true
 | _, _ => false
def turnish (S : Sums) : Op -> Bool
 | .store _ _ _ => true
 | .mapUpdate _ _ _ _ => true
 | .call c => (match c.callee with | .value (.func g) => (match findS S.two g with | some _ => true | none => false) | _ => false)
 | _ => false
def isApp : Op -> Bool
 | .call c => (match c.callee with | .builtin .append => true | _ => false)
 | _ => false
def apMv (all : List Oper) (n : Nat) : Bool := (let ms := masks all []
 !(allLt (fun j => match Nat.blt j n with | true => ordM ms j n | false => true) all.length) &&
 allLt (fun j => match Nat.blt j n with | true => ordM ms j n || mvAt all j | false => true) all.length)
def needGo (S : Sums) (all : List Oper) : Nat -> List Oper -> Bool
 | _, [] => false
 | n, o :: l => (match turnish S o.op with
   | true => (match barAt true all n with | true => needGo S all (n + 1) l | false => true)
   | false => (match isApp o.op with
     | true => (match apMv all n with | true => true | false => needGo S all (n + 1) l)
     | false => needGo S all (n + 1) l))
def needH (S : Sums) (all : List Oper) : Bool := match hoTry all with | true => needGo S all 0 all | false => false
def runMv : List Oper -> List AV -> (List AV -> VC) -> VC
 | [], fr, k => k fr
 | o :: l, fr, k => (match mvX o with
   | some x => forceD (noGd (ev fr x)) fun a => setK fr o.dst a fun fr' => runMv l fr' k
   | none => runMv l fr k)
def isSel : Op -> Bool
 | .select _ _ => true
 | _ => false
def hoOK (all : List Oper) : Bool :=
 regOK true (hoist all) && all.all (fun o => !(isSel o.op) && (match o.guard with | some (g, _) => !(mvAt all g) && Nat.blt g all.length | none => true)) &&
 allLt (fun i => match all[i]? with
  | none => true
  | some oi => (match mvX oi with
    | none => true
    | some _ => allLt (fun j => match all[j]? with
      | none => true
      | some oj => Nat.beq j i || oj.after.toList.any (fun e => Region.binds .any e && Nat.beq e.on i) || oi.apart all.toArray oj) all.length)) all.length
def getFl : List Bool -> Nat -> Bool
 | [], _ => false
 | b :: _, 0 => b
 | _ :: l, n + 1 => getFl l n
def snocB : List Bool -> Bool -> List Bool
 | [], x => [x]
 | a :: l, x => a :: snocB l x
def isIxA : Op -> Bool
 | .indexAddr _ _ _ => true
 | _ => false
def isAdr : Op -> Bool
 | .indexAddr _ _ _ => true
 | .fieldAddr _ _ _ => true
 | _ => false
def dstFl : List Oper -> List Bool -> Nat -> Bool
 | o :: l, b :: m, d => (match b, isAdr o.op, isDst d o.dst with | true, true, true => true | _, _, _ => dstFl l m d)
 | _, _, _ => false
def isEqOp : BinOp -> Bool
 | .eql => true
 | .neq => true
 | _ => false
def frKind (all : List Oper) (fl : List Bool) : Op -> Bool
 | .move _ => true
 | .indexAddr _ _ _ => true
 | .load _ (.tmp d) => dstFl all fl d
 | .fieldAddr _ (.tmp d) _ => dstFl all fl d
 | .binOp op _ _ (.const (.pointer none)) _ => isEqOp op
 | _ => false
def edgesFl (fl : List Bool) : List Edge -> Bool
 | [] => true
 | e :: l => (match getFl fl e.on with | true => edgesFl fl l | false => false)
def frOp (all : List Oper) (fl : List Bool) (o : Oper) : Bool := match frKind all fl o.op, o.guard with
 | true, none => edgesFl fl o.after.toList
 | true, some (g, _) => (match getFl fl g with | true => edgesFl fl o.after.toList | false => false)
 | false, _ => false
def frGo (all : List Oper) : List Oper -> List Bool -> List Bool
 | [], fl => fl
 | o :: l, fl => frGo all l (snocB fl (frOp all fl o))
def frL (all : List Oper) : List Bool := frGo all all []
def dropG (fl : List Bool) : Option (Nat × Bool) -> Option (Nat × Bool)
 | some (g, w) => (match getFl fl g with | true => none | false => some (g, w))
 | none => none
def tagO (fl : List Bool) (b : Bool) (o : Oper) : Oper := match b with
 | true => { o with dst := none, op := .move (.const (.bool true)), after := ⟨[]⟩, guard := none }
 | false => { o with guard := dropG fl o.guard }
def tagL (fl : List Bool) : List Oper -> List Bool -> List Oper
 | o :: l, b :: m => tagO fl b o :: tagL fl l m
 | _, _ => []
def isLd : Op -> Bool
 | .load _ _ => true
 | _ => false
def hasLd : List Oper -> List Bool -> Bool
 | o :: l, b :: m => (match b, isLd o.op with | true, true => true | _, _ => hasLd l m)
 | _, _ => false
def anyIxA : List Oper -> Bool
 | [] => false
 | o :: l => (match isIxA o.op with | true => true | false => anyIxA l)
def prTry (all : List Oper) : Bool := match anyCallish all, anyIxA all with
 | true, true => hasLd all (frL all)
 | _, _ => false
def prAp (all : List Oper) (fl : List Bool) (i : Nat) (oi : Oper) : Bool :=
 allLt (fun j => match all[j]? with
  | none => true
  | some oj => Nat.beq j i || (getFl fl j && Nat.blt j i) || oj.after.toList.any (fun e => Region.binds .any e && Nat.beq e.on i) || oi.apart all.toArray oj) all.length
def prOK (all : List Oper) : Bool :=
 regOK true (hoist (tagL (frL all) all (frL all))) && uniqOK all &&
 allLt (fun i => match all[i]?, (tagL (frL all) all (frL all))[i]? with
  | some o, some o' => ((mvX o').isSome == getFl (frL all) i) && !(isSel o.op) && (match o'.guard with | some (g, _) => !(mvAt (tagL (frL all) all (frL all)) g) && Nat.blt g all.length | none => true) &&
    (match getFl (frL all) i with | false => true | true => prAp all (frL all) i o && edgesFl (frL all) o.after.toList)
  | _, _ => false) all.length
def needP (S : Sums) (all : List Oper) : Bool := match prTry all with
 | true => needGo S (hoist all) 0 (hoist all)
 | false => false
def swOK (all : List Oper) : Bool := match swGo all 0 all with
 | none => true
 | some z => regOK true (swOps all z) && all.all (fun o => o.guard.isNone) && ordM (masks all []) z.a z.s && (match all[z.s]? with | some o => o.dst.isNone | none => false)
def codeOK : Code -> Bool
 | .region _ ops dr => regOK dr ops.toList && (match dr with | true => swOK ops.toList && (match hoTry ops.toList with | true => hoOK ops.toList | false => true) && (match prTry ops.toList with | true => prOK ops.toList | false => true) | false => true)
 | .seq a b => codeOK a && codeOK b
 | .cond _ a b => codeOK a && codeOK b
 | .block _ a => codeOK a
 | .loop a => codeOK a
 | .scope a => codeOK a
 | .rangeFunc _ _ a b => codeOK a && codeOK b
 | _ => true
abbrev Ctx := Option (Nat × Cnd)
def Ctx.anc : Ctx -> List Nat
 | none => []
 | some (_, x) => x.anc
def wrapA (ctx : Ctx) (a : AV) : AV := match ctx with | none => noGd a | some (k, _) => .gd k a
def armOf (anc : List Nat) (T : List Cnd) (a : AV) : Option (AV × Option Bool) :=
 match a with
 | .gd k a => (match memN k anc with
   | true => some (a, none)
   | false => (match T[k]? with | some ⟨_, _, c, _⟩ => some (a, some c) | none => none))
 | a => some (a, none)
def needO (ctx : Ctx) (cb w : Bool) (g : Option Bool) (k : VC) : VC :=
 match g with
 | none => k
 | some y => (match ctx with
   | none => .need ⟨fun z : Bool × Bool × Bool => z.1 = z.2.1 -> z.2.2 = true, (cb, w, y)⟩ k
   | some (_, ⟨_, _, c, _⟩) => .need ⟨fun z : Bool × Bool × Bool × Bool => z.1 = true -> z.2.1 = z.2.2.1 -> z.2.2.2 = true, (c, cb, w, y)⟩ k)
def pickK (ctx : Ctx) (T : List Cnd) (c a b : AV) (k : AV -> VC) : VC :=
 match unGd ctx.anc c with
 | .lb true => (match unGd ctx.anc a with | .top => .fail | a => forceD (wrapA ctx a) k)
 | .lb false => (match unGd ctx.anc b with | .top => .fail | b => forceD (wrapA ctx b) k)
 | .sb cb => (match armOf ctx.anc T a, armOf ctx.anc T b with
   | some (a, ga), some (b, gb) => needO ctx cb true ga (needO ctx cb false gb
     (match a, b with
     | .lb true, .sb y => k (wrapA ctx (.sb (bor cb y)))
     | .sb x, .lb false => k (wrapA ctx (.sb (band cb x)))
     | .sb x, .sb y => k (wrapA ctx (.sb (bite cb x y)))
     | .sb x, .lb y => k (wrapA ctx (.sb (bite cb x y)))
     | .lb x, .sb y => k (wrapA ctx (.sb (bite cb x y)))
     | .lb x, .lb y => k (wrapA ctx (.sb (bite cb x y)))
     | _, _ => .fail))
   | _, _ => .fail)
 | _ => .fail
def turnOp : Op -> Bool
 | .store _ _ _ => true
 | .mapUpdate _ _ _ _ => true
 | .slice _ _ _ _ _ => true
 | .buildSlice _ _ _ => true
 | .call c => (match c.callee with | .value _ => true | .builtin .append => true | _ => false)
 | _ => false
def tmpsO : List Operand -> List Nat
 | [] => []
 | .tmp t :: l => t :: tmpsO l
 | _ :: l => tmpsO l
def sndL : List (Nat × Operand) -> List Operand
 | [] => []
 | (_, x) :: l => x :: sndL l
def optO : Option Operand -> List Operand
 | none => []
 | some x => [x]
def appO : List Operand -> List Operand -> List Operand
 | [], m => m
 | a :: l, m => a :: appO l m
def opnds : Op -> List Operand
 | .move x => [x]
 | .assign x => [x]
 | .box _ x => [x]
 | .build _ parts => sndL parts.toList
 | .buildSlice _ _ parts => sndL parts.toList
 | .load _ x => [x]
 | .store _ x y => [x, y]
 | .nilCheck x => [x]
 | .fieldAddr _ x _ => [x]
 | .field _ x _ => [x]
 | .indexAddr _ x y => [x, y]
 | .index _ x y => [x, y]
 | .binOp _ _ x y _ => [x, y]
 | .unOp _ _ x => [x]
 | .convert _ _ x => [x]
 | .makeFunc _ a b => appO a.toList b.toList
 | .makeSlice _ x y => [x, y]
 | .slice _ x a b c => x :: appO (optO a) (appO (optO b) (optO c))
 | .extract x _ => [x]
 | .pick c a b => [c, a, b]
 | .lookup _ x y _ => [x, y]
 | .mapUpdate _ x y z => [x, y, z]
 | .call c => (match c.callee with | .value f => f :: c.args.toList | _ => c.args.toList)
 | _ => []
def forceM (anc : List Nat) (fr : List AV) : List Nat -> (List (Nat × AV) -> VC) -> VC
 | [], k => k []
 | t :: l, k => forceV (unGd anc (getL fr t)) fun a => forceM anc fr l fun m => k ((t, a) :: m)
def lookT (l : List (Nat × AV)) : Nat -> AV :=
 List.rec (motive := fun _ => Nat -> AV) (fun _ => .top) (fun p _ ih n => Bool.rec (motive := fun _ => AV) (ih n) p.2 (Nat.beq p.1 n)) l
theorem lookT_nil (n : Nat) : lookT [] n = .top := rfl
theorem lookT_cons (t : Nat) (a : AV) (l : List (Nat × AV)) (n : Nat) : lookT ((t, a) :: l) n = (match Nat.beq t n with | true => a | false => lookT l n) := by
 show Bool.rec (motive := fun _ => AV) (lookT l n) a (Nat.beq t n) = _
 cases Nat.beq t n <;> rfl
def evM (m : List (Nat × AV)) : Operand -> AV
 | .tmp t => lookT m t
 | x => ev [] x
def runOp (P : Program) (S : Sums) (nb : Bool) (ctx : Ctx) (T : List Cnd) (o : Oper) (fr : List AV) (hp : Heap) (K : List AV -> Heap -> VC) : VC :=
 match o.op with
 | .pick c a b => forceV (ev fr c) fun c' => forceV (ev fr a) fun a' => forceV (ev fr b) fun b' => pickK ctx T c' a' b' fun r => setK fr o.dst r fun fr' => K fr' hp
 | op => (match ctx with
   | none => forceM [] fr (tmpsO (opnds op)) fun m => (aop P S (evM m) hp op).vc S (turnOp op && nb) fr hp fun fr' hp' a => setK fr' o.dst (noGd a) fun fr'' => K fr'' hp'
   | some (k, ⟨_, _, c, anc⟩) => forceM anc fr (tmpsO (opnds op)) fun m => (aop P S (evM m) hp op).vcC S k c hp fun hp' a => setK fr o.dst a fun fr' => K fr' hp')
def findC (j : Nat) (want : Bool) : List Cnd -> Nat -> Option (Nat × Cnd)
 | [], _ => none
 | x :: l, n => (match Nat.beq x.j j, x.want == want with | true, true => some (n, x) | _, _ => findC j want l (n + 1))
def boolW (want b : Bool) (k : Bool -> VC) : VC := match want with | true => k b | false => k (bnot b)
def addC (T : List Cnd) (x : Cnd) : List Cnd := match T with | [] => [x] | y :: l => y :: addC l x
def lenK : List Cnd -> (Nat -> VC) -> VC
 | [], k => k 0
 | _ :: l, k => lenK l fun n => k (n + 1)
def forceT : List Cnd -> (List Cnd -> VC) -> VC
 | [], k => k []
 | ⟨j, want, c, anc⟩ :: l, k => forceT l fun l' => k (⟨j, want, c, anc⟩ :: l')
def hasO (i : Nat) : AV -> Bool
 | .own j _ => Nat.beq j i
 | .elt j _ _ _ => Nat.beq j i
 | .row j => Nat.beq j i
 | .lsl j _ _ => Nat.beq j i
 | .mp j => Nat.beq j i
 | .agg l => hasOL i l
 | .tup l => hasOL i l
 | .fn _ a b => hasOL i a || hasOL i b
 | .gd _ a => hasO i a
 | _ => false
where hasOL (i : Nat) : List AV -> Bool
 | [] => false
 | a :: l => hasO i a || hasOL i l
def hasOB (i : Nat) : Blk -> Bool
 | .cells _ l => hasO.hasOL i l
 | .rows _ _ _ _ _ _ _ (some (_, some h)) => Nat.beq h i
 | _ => false
def hasOH (i : Nat) : Heap -> Bool
 | [] => false
 | b :: l => hasOB i b || hasOH i l
def dropH : Heap -> Nat -> Heap
 | l, 0 => l
 | [], _ + 1 => []
 | _ :: l, n + 1 => dropH l n
def befAt (all : List Oper) (i : Nat) : Bool := (let ms := masks all []
    allLt (fun j => match Nat.blt j i with | true => ordM ms j i | false => true) all.length)
def lastT (f : Nat -> Bool) : Nat -> Nat
 | 0 => 0
 | n + 1 => (match f n with | true => n + 1 | false => lastT f n)
def lateN (all : List Oper) (i : Nat) : Nat := (let ms := masks all []
    lastT (fun j => match Nat.blt i j with | true => !(ordM ms i j) | false => false) all.length)
def lateI (o : Oper) (fr : List AV) : Bool := match o.op with
 | .call c => (match c.callee, c.args.toList with
   | .builtin .append, [.tmp t, _] => (match getL fr t with | .row _ => true | _ => false)
   | _, _ => false)
 | _ => false
def growOf : AR -> Option Nat
 | .need _ r => growOf r
 | .grow i _ => some i
 | _ => none
def runLate (P : Program) (S : Sums) (o : Oper) (fr : List AV) (hp : Heap) (K : Nat -> List AV -> Heap -> VC) : VC :=
 forceM [] fr (tmpsO (opnds o.op)) fun m => (match growOf (aop P S (evM m) hp o.op) with
  | some i => (aop P S (evM m) hp o.op).vc S true fr hp fun fr' hp' a => setK fr' o.dst (noGd a) fun fr'' => K i fr'' hp'
  | none => .fail)
def cleanT (i : Nat) (fr : List AV) : List Nat -> Bool
 | [] => true
 | t :: l => !(hasO i (getL fr t)) && cleanT i fr l
def cleanD (i : Nat) (d : Option Nat) (fr : List AV) (n : Nat) (hp : Heap) : Bool := (match d with | none => true | some d => !(hasO i (getL fr d))) && !(hasOH i (dropH hp n))
def detA : AV -> Bool
 | .lb _ => true
 | .sb _ => true
 | .si _ _ => true
 | .li _ _ => true
 | .agg l => detL l
 | .tup l => detL l
 | _ => false
where detL : List AV -> Bool
 | [] => true
 | a :: l => (match detA a with | true => detL l | false => false)
def arV : AR -> Option (List Cd × AV)
 | .val a => some ([], a)
 | .need p (.val a) => some ([p], a)
 | _ => none
def frVal (P : Program) (ρ : Operand -> AV) : Op -> Option (List Cd × AV)
 | .move x => some ([], ρ x)
 | .assign x => some ([], ρ x)
 | .indexAddr t x i => (match ρ x with | .slc n sz el => arV (indexAddrA P [] t (.slc n sz el) (ρ i)) | _ => none)
 | .fieldAddr t x f => (match ρ x with
   | .xp l => (match fieldAddrA P t (.xp l) f with | .val a => some ([], a) | _ => none)
   | _ => none)
 | .nilCheck x => (match isPtr (ρ x) with | true => some ([], ρ x) | false => none)
 | .call c => (match c.callee, c.args.toList with
   | .builtin .min, [x, y] => arV (minmax false (ρ x) [ρ y])
   | .builtin .max, [x, y] => arV (minmax true (ρ x) [ρ y])
   | _, _ => none)
 | .load t x => (match ρ x with
   | .xp l => (match partL P t l with | .val a => some ([], a) | _ => none)
   | _ => none)
 | .binOp op t x (.const (.pointer none)) _ => (match isPtrT P t, isPtr (ρ x), op with
   | true, true, .eql => some ([], .lb false)
   | true, true, .neq => some ([], .lb true)
   | _, _, _ => none)
 | .binOp op t x y _ => (match kindOf (ρ x), kindOf (ρ y) with
   | some _, some _ => (match arV (binA P ⟨[], [], 0, [], [], []⟩ op t (ρ x) (ρ y)) with | some (ps, a) => (match detA a with | true => some (ps, a) | false => none) | none => none)
   | _, _ => none)
 | .pick c a b => (match ρ c with | .lb true => some ([], ρ a) | .lb false => some ([], ρ b) | _ => none)
 | _ => none
def isSelO : Op -> Bool
 | .select _ _ => true
 | _ => false
def okU (P : Program) (all : List Oper) (n : Nat) (g : Nat -> AV) (j : Nat) : Bool := match all[j]? with
 | none => false
 | some o => (match o.guard, frVal P (evM ((tmpsO (opnds o.op)).map fun t => (t, unGd [] (g t)))) o.op with
   | none, some ([], _) =>
     allLt (fun p => match all[p]? with | none => true | some o' => (match Nat.blt p j, Nat.blt p n with
      | false, true => (match o'.dst with | none => true | some d => !((looksL all o).contains d))
      | _, _ => true)) all.length &&
     allLt (fun k => match all[k]? with | none => true | some o' => Nat.beq k j || ordM (masks all []) k j || o'.after.toList.any (fun e => Region.binds .any e && Nat.beq e.on j) || o.apart all.toArray o') all.length
   | _, _ => false)
def barU (P : Program) (all : List Oper) (n : Nat) (g : Nat -> AV) : Bool := all.all (fun o => !(isSelO o.op)) && allLt (fun j => match Nat.blt j n with
 | true => (match ordM (masks all []) j n with | true => true | false => okU P all n g j)
 | false => (match Nat.beq j n with | true => true | false => ordM (masks all []) n j)) all.length
def barX (P : Program) (S : Sums) (dr : Bool) (all : List Oper) (n : Nat) (T : List Cnd) (o : Oper) (g : Nat -> AV) : Bool := match barAt dr all n with
 | true => true
 | false => (match dr, T, turnish S o.op with | true, [], true => barU P all n g | _, _, _ => false)
def splG (S : Sums) (n : Nat) : List Oper -> Bool
 | [] => false
 | o :: l => (match o.guard with
   | some (g, _) => (match Nat.beq g n, turnish S o.op with | true, true => true | _, _ => splG S n l)
   | none => splG S n l)
def splB (S : Sums) (n : Nat) (o : Oper) (all : List Oper) : Bool := match turnOp o.op with | true => false | false => splG S n all
def splK (sp : Bool) (d : Option Nat) (fr : List AV) (k : List AV -> VC) : VC :=
 match sp with
 | false => k fr
 | true => (match d with
   | none => k fr
   | some d => (match getL fr d with
     | .sb b => .branch b (setF fr d (.lb true) k) (setF fr d (.lb false) k)
     | _ => k fr))
def runOps (P : Program) (S : Sums) (dr : Bool) (all : List Oper) : Option (Nat × Nat) -> Nat -> List Oper -> List Cnd -> List AV -> Heap -> (List AV -> Heap -> VC) -> VC
 | Z, n, [], _, fr, hp, K => (match Z with
   | none => cleanF fr fun fr' => K fr' hp
   | some (_, u) => (match Nat.ble u n with | true => cleanF fr fun fr' => K fr' hp | false => .fail))
 | some (i, u), n, o :: rest, T, fr, hp, K => (match Nat.blt n u with
   | false => .fail
   | true => (match o.guard, T, cleanT i fr (looksL all o) with
     | none, [], true => runOp P S false none [] o fr hp fun fr' hp' => (match cleanD i o.dst fr' hp.length hp' with
       | true => (match Nat.beq (n + 1) u with
         | true => runOps P S dr all none (n + 1) rest [] fr' hp' K
         | false => runOps P S dr all (some (i, u)) (n + 1) rest [] fr' hp' K)
       | false => .fail)
     | _, _, _ => .fail))
 | none, n, o :: rest, T, fr, hp, K =>
   match o.guard with
   | none => (match dr, T, lateI o fr with
     | true, [], true => (match barAt true all n with
       | true => runOp P S true none T o fr hp fun fr' hp' => runOps P S dr all none (n + 1) rest T fr' hp' K
       | false => (match befAt all n, Nat.blt (n + 1) (lateN all n) with
         | true, true => runLate P S o fr hp fun i fr' hp' => runOps P S dr all (some (i, lateN all n)) (n + 1) rest T fr' hp' K
         | _, _ => .fail))
     | _, _, _ => runOp P S (barX P S dr all n T o (getL fr)) none T o fr hp fun fr' hp' => splK (splB S n o all) o.dst fr' fun fr' => runOps P S dr all none (n + 1) rest T fr' hp' K)
   | some (j, want) => (match findC j want T 0 with
     | some kx => runOp P S (barAt dr all n) (some kx) T o fr hp fun fr' hp' => runOps P S dr all none (n + 1) rest T fr' hp' K
     | none => (match dstOf all j with
       | none => .fail
       | some d => (match getL fr d with
         | .tup [] => setK fr o.dst (.tup []) fun fr' => runOps P S dr all none (n + 1) rest T fr' hp K
         | .lb b => (match b == want with
           | true => runOp P S (barAt dr all n) none T o fr hp fun fr' hp' => runOps P S dr all none (n + 1) rest T fr' hp' K
           | false => setK fr o.dst (.tup []) fun fr' => runOps P S dr all none (n + 1) rest T fr' hp K)
         | .sb b => boolW want b fun c => lenK T fun lt => forceT (addC T ⟨j, want, c, [lt]⟩) fun T' =>
           runOp P S (barAt dr all n) (some (lt, ⟨j, want, c, [lt]⟩)) T' o fr hp fun fr' hp' => runOps P S dr all none (n + 1) rest T' fr' hp' K
         | .gd p (.lb b) => (match b == want, T[p]? with
           | true, some x => runOp P S (barAt dr all n) (some (p, x)) T o fr hp fun fr' hp' => runOps P S dr all none (n + 1) rest T fr' hp' K
           | false, some _ => setK fr o.dst (.tup []) fun fr' => runOps P S dr all none (n + 1) rest T fr' hp K
           | _, none => .fail)
         | .gd p (.sb b) => (match T[p]? with
           | none => .fail
           | some ⟨_, _, cx, anc⟩ => boolW want b fun c => lenK T fun lt => forceT (addC T ⟨j, want, band cx c, lt :: anc⟩) fun T' =>
             runOp P S (barAt dr all n) (some (lt, ⟨j, want, band cx c, lt :: anc⟩)) T' o fr hp fun fr' hp' =>
              runOps P S dr all none (n + 1) rest T' fr' hp' K)
         | _ => .fail)))
def gdOK (all : List Oper) (fr : List AV) : Option (Nat × Bool) -> Bool
 | none => true
 | some (g, w) => (match dstOf all g with
   | some d => (match getL fr d with | .lb b => b == w | _ => false)
   | none => false)
def preK (P : Program) (all : List Oper) : List Oper -> List Bool -> List AV -> (List AV -> VC) -> VC
 | o :: l, b :: m, fr, k => (match b with
   | false => preK P all l m fr k
   | true => (match gdOK all fr o.guard with
     | false => .fail
     | true => forceM [] fr (tmpsO (opnds o.op)) fun mm => (match frVal P (evM mm) o.op with
       | none => .fail
       | some (ps, a) => needs ps (forceD (noGd a) fun a => setK fr o.dst a fun fr' => preK P all l m fr' k))))
 | _, _, fr, k => k fr
def gdAll (all : List Oper) (fl : List Bool) (fr : List AV) : List Oper -> List Bool -> Bool
 | o :: l, b :: m => (match b, o.guard with
   | false, some (g, w) => (match getFl fl g with
     | true => (match gdOK all fr (some (g, w)) with | true => gdAll all fl fr l m | false => false)
     | false => gdAll all fl fr l m)
   | _, _ => gdAll all fl fr l m)
 | _, _ => true
def runPre (P : Program) (S : Sums) (all : List Oper) (fr : List AV) (hp : Heap) (K : List AV -> Heap -> VC) : VC :=
 let fl := frL all
 let tg := tagL fl all fl
 preK P all all fl fr fun fr' => (match gdAll all fl fr' all fl with
  | true => runOps P S true (hoist tg) none (lenO (mvOps tg)) (restO tg (lenO (mvOps tg)) tg) [] fr' hp K
  | false => .fail)
def runSw (P : Program) (S : Sums) (z : Sw) (fb : Bool) : Nat -> List Oper -> List AV -> Heap -> (List AV -> Heap -> VC) -> VC
 | _, [], fr, hp, K => cleanF fr fun fr' => K fr' hp
 | n, o :: rest, fr, hp, K => (match Nat.beq n z.a, Nat.beq n z.s with
   | true, _ => (match zeroL P z.t with | some _ => runSw P S z fb (n + 1) rest fr hp K | none => .fail)
   | false, true => forceM [] fr (tmpsO [z.x]) fun m => forceL (cellsA (evM m z.x)) fun l => (match decide (l.length = sizeT P z.t /\ 0 < sizeT P z.t) && oneL l with
     | true => forceH (appH hp [.cells z.t l]) fun hp' => setF fr z.d (.own hp.length 0) fun fr' => runSw P S z fb (n + 1) rest fr' hp' K
     | false => .fail)
   | false, false => runOp P S (match rest with | [] => fb | _ :: _ => false) none [] o fr hp fun fr' hp' => runSw P S z fb (n + 1) rest fr' hp' K)
def finB (all : List Oper) : Bool := match all with | [] => false | _ :: l => barAt true all (lenO l)
def aliveB (hp : Heap) (i : Nat) : Bool := match getB hp i with | .dead => false | _ => true
def nrm : AV -> AV
 | .li k n => .si k n
 | .lb b => .sb b
 | .pa n sz el => (match n with | 0 => .v (.pointer none) | n + 1 => .pa (n + 1) sz el)
 | a => a
def nrmL : List AV -> List AV
 | [] => []
 | a :: l => nrm a :: nrmL l
def ElEq (z : Nat × (Nat -> List AV) × (Nat -> List AV)) : Prop := ∀ j, j < z.1 -> nrmL (z.2.1 j) = nrmL (z.2.2 j)
def MatEq (z : Nat × Nat × (Nat -> Nat -> AV) × (Nat -> Nat -> AV)) : Prop := ∀ k, k < z.1 -> ∀ j, j < z.2.1 -> nrm (z.2.2.1 k j) = nrm (z.2.2.2 k j)
def RowsEq (z : Nat × Option Nat × ((Nat -> Bool) × (Nat -> Nat) × (Nat -> Nat -> List AV)) × ((Nat -> Bool) × (Nat -> Nat) × (Nat -> Nat -> List AV))) : Prop :=
 ∀ k, k < z.1 -> z.2.1 ≠ some k -> z.2.2.1.1 k = z.2.2.2.1 k /\ z.2.2.1.2.1 k = z.2.2.2.2.1 k /\ ElEq (z.2.2.2.2.1 k, z.2.2.1.2.2 k, z.2.2.2.2.2 k)
def goneB (lo : Nat) (tgt : Heap) (i : Nat) : Bool := Nat.ble lo i && !(aliveB tgt i)
def fnEq : Fn -> Fn -> Bool
 | .func a, .func b => Nat.beq a b
 | _, _ => false
mutual
def leA (lo : Nat) (src tgt : Heap) (a b : AV) (k : VC) : VC :=
 match b with
 | .top => k
 | .si q y => (match kindOf a with | some q' => (match decide (q = q') with | true => .need ⟨fun z : Int × Int => z.1 = z.2, (intOf a, y)⟩ k | false => .fail) | none => .fail)
 | .li q y => (match a with | .li q' x => (match decide (q = q' /\ x = y) with | true => k | false => .fail) | _ => .fail)
 | .sb y => (match a with | .sb x => .need ⟨fun z : Bool × Bool => z.1 = z.2, (x, y)⟩ k | .lb x => .need ⟨fun z : Bool × Bool => z.1 = z.2, (x, y)⟩ k | _ => .fail)
 | .lb y => (match a with | .lb x => (match x == y with | true => k | false => .fail) | _ => .fail)
 | .own i o => (match a with | .own j p => (match decide (i = j /\ o = p) && aliveB tgt i with | true => k | false => .fail) | _ => .fail)
 | .elt i s q o => (match a with | .elt j s' q' o' => (match decide (i = j /\ o = o' /\ s = s') && aliveB tgt i with | true => .need ⟨fun z : Nat × Nat => z.1 = z.2, (q', q)⟩ k | false => .fail) | _ => .fail)
 | .row i => (match a with | .row j => (match decide (i = j) && aliveB tgt i with | true => k | false => .fail) | _ => .fail)
 | .lsl i n s => (match a with | .lsl j n' s' => (match decide (i = j /\ n = n' /\ s = s') && aliveB tgt i with | true => k | false => .fail) | _ => .fail)
 | .mp i => (match a with | .mp j => (match decide (i = j) && aliveB tgt i with | true => k | false => .fail) | _ => .fail)
 | .slc n sz el => (match a with
   | .slc n' sz' el' => (match decide (sz = sz') with | true => .need ⟨fun z : Nat × Nat => z.1 = z.2, (n'.val, n.val)⟩ (.need ⟨ElEq, (n.val, el', el)⟩ k) | false => .fail)
   | .row i => (match getB src i with
     | .row _ sz' n' el' => (match decide (sz = sz') && goneB lo tgt i with | true => .need ⟨fun z : Nat × Nat => z.1 = z.2, (n'.val, n.val)⟩ (.need ⟨ElEq, (n.val, el', el)⟩ k) | false => .fail)
     | _ => .fail)
   | .v (.slice none 0 _) => .need ⟨fun z : Nat => z = 0, n.val⟩ k
   | _ => .fail)
 | .agg m => (match a with | .agg l => leL lo src tgt l m k | _ => .fail)
 | .tup m => (match a with | .tup l => leL lo src tgt l m k | _ => .fail)
 | .xp l => (match ownIn.ownInL l with
   | true => .fail
   | false => (match a with
     | .xp m => leL lo src tgt m l k
     | .own i o => (match getB src i with
       | .cells _ m => (match goneB lo tgt i with | true => leL lo src tgt (dropL m o) l k | false => .fail)
       | _ => .fail)
     | _ => .fail))
 | .v x => .need ⟨fun z : AV × AV => z.1 = z.2, (a, .v x)⟩ k
 | .fn f l m => (match a with
   | .fn g l' m' => (match ownIn.ownInL l || ownIn.ownInL m || ownIn.ownInL l' || ownIn.ownInL m' with
     | false => .need ⟨fun z : AV × AV => z.1 = z.2, (.fn g l' m', .fn f l m)⟩ k
     | true => (match fnEq g f with | true => leL lo src tgt l' l (leL lo src tgt m' m k) | false => .fail))
   | _ => .fail)
 | .gd _ _ => .fail
 | .pa n sz el => (match a with | .pa n' sz' el' => (match decide (sz = sz') with | true => .need ⟨fun z : Nat × Nat => z.1 = z.2, (n', n)⟩ (.need ⟨ElEq, (n, el', el)⟩ k) | false => .fail) | _ => .fail)
def leL (lo : Nat) (src tgt : Heap) (l m : List AV) (k : VC) : VC :=
 match m with
 | [] => (match l with | [] => k | _ => .fail)
 | b :: m => (match l with | a :: l => leA lo src tgt a b (leL lo src tgt l m k) | [] => .fail)
end
def leB (lo n : Nat) (src tgt : Heap) (a b : Blk) (k : VC) : VC :=
 match b with
 | .dead => (match Nat.ble lo n with | true => k | false => (match a with | .dead => k | _ => .fail))
 | .cells t m => (match a with | .cells t' l => (match decide (t = t') with | true => leL lo src tgt l m k | false => .fail) | _ => .fail)
 | .row e sz n el => (match a with
   | .row e' sz' n' el' => (match decide (e = e' /\ sz = sz') with | true => .need ⟨fun z : Nat × Nat => z.1 = z.2, (n'.val, n.val)⟩ (.need ⟨ElEq, (n.val, el', el)⟩ k) | false => .fail)
   | _ => .fail)
 | .mat t w n f => (match a with
   | .mat t' w' n' f' => (match decide (t = t' /\ w = w') with | true => .need ⟨fun z : Nat × Nat => z.1 = z.2, (n'.val, n.val)⟩ (.need ⟨MatEq, (n.val, w, f', f)⟩ k) | false => .fail)
   | _ => .fail)
 | .rows e e1 sz n fz ln el ho => (match a with
   | .rows e' e1' sz' n' fz' ln' el' ho' => (match decide (e = e' /\ e1 = e1' /\ sz = sz'), ho, ho' with
     | true, none, none => .need ⟨fun z : Nat × Nat => z.1 = z.2, (n'.val, n.val)⟩ (.need ⟨RowsEq, (n.val, none, (fz', ln', el'), (fz, ln, el))⟩ k)
     | true, some (q, oh), some (q', oh') => (match oh, oh' with
       | none, _ => .need ⟨fun z : Nat × Nat => z.1 = z.2, (n'.val, n.val)⟩ (.need ⟨fun z : Nat × Nat => z.1 = z.2, (q', q)⟩ (.need ⟨RowsEq, (n.val, some q, (fz', ln', el'), (fz, ln, el))⟩ k))
       | some h, some h' => (match Nat.beq h h' && aliveB tgt h with
         | true => .need ⟨fun z : Nat × Nat => z.1 = z.2, (n'.val, n.val)⟩ (.need ⟨fun z : Nat × Nat => z.1 = z.2, (q', q)⟩ (.need ⟨RowsEq, (n.val, some q, (fz', ln', el'), (fz, ln, el))⟩ k))
         | false => .fail)
       | some _, none => .fail)
     | _, _, _ => .fail)
   | _ => .fail)
 | .tab n sz el => (match a with
   | .tab n' sz' el' => (match decide (sz = sz') with | true => .need ⟨fun z : Nat × Nat => z.1 = z.2, (n'.val, n.val)⟩ (.need ⟨ElEq, (n.val, el', el)⟩ k) | false => .fail)
   | _ => .fail)
def leH (lo : Nat) (src tgt : Heap) : Nat -> Heap -> Heap -> VC -> VC
 | _, [], [], k => k
 | n, _ :: _, [], k => (match Nat.ble lo n with | true => k | false => .fail)
 | n, a :: l, b :: m, k => leB lo n src tgt a b (leH lo src tgt (n + 1) l m k)
 | _, [], _ :: _, _ => .fail
def leS (lo : Nat) (fr : List AV) (hp : Heap) (s : AS) : VC := leL lo hp s.hp fr s.fr (leH lo hp s.hp 0 hp s.hp .done)
def firstRegion : Code -> Nat
 | .region id _ _ => id
 | .seq a _ => firstRegion a
 | .block _ a => firstRegion a
 | .loop a => firstRegion a
 | .scope a => firstRegion a
 | _ => 0
def leLW (f : AV -> AV -> VC -> VC) (l m : List AV) (k : VC) : VC :=
 List.rec (motive := fun _ => List AV -> VC) (fun l => List.rec (motive := fun _ => VC) k (fun _ _ _ => .fail) l) (fun b _ ih l => List.rec (motive := fun _ => VC) .fail (fun a l' _ => f a b (ih l')) l) m l
def leAF : Nat -> Nat -> Heap -> Heap -> AV -> AV -> VC -> VC
 | 0, _, _, _, _, _, _ => .fail
 | d + 1, lo, src, tgt, a, b, k =>
 match b with
 | .top => k
 | .si q y => (match kindOf a with | some q' => (match decide (q = q') with | true => .need ⟨fun z : Int × Int => z.1 = z.2, (intOf a, y)⟩ k | false => .fail) | none => .fail)
 | .li q y => (match a with | .li q' x => (match decide (q = q' /\ x = y) with | true => k | false => .fail) | _ => .fail)
 | .sb y => (match a with | .sb x => .need ⟨fun z : Bool × Bool => z.1 = z.2, (x, y)⟩ k | .lb x => .need ⟨fun z : Bool × Bool => z.1 = z.2, (x, y)⟩ k | _ => .fail)
 | .lb y => (match a with | .lb x => (match x == y with | true => k | false => .fail) | _ => .fail)
 | .own i o => (match a with | .own j p => (match decide (i = j /\ o = p) && aliveB tgt i with | true => k | false => .fail) | _ => .fail)
 | .elt i s q o => (match a with | .elt j s' q' o' => (match decide (i = j /\ o = o' /\ s = s') && aliveB tgt i with | true => .need ⟨fun z : Nat × Nat => z.1 = z.2, (q', q)⟩ k | false => .fail) | _ => .fail)
 | .row i => (match a with | .row j => (match decide (i = j) && aliveB tgt i with | true => k | false => .fail) | _ => .fail)
 | .lsl i n s => (match a with | .lsl j n' s' => (match decide (i = j /\ n = n' /\ s = s') && aliveB tgt i with | true => k | false => .fail) | _ => .fail)
 | .mp i => (match a with | .mp j => (match decide (i = j) && aliveB tgt i with | true => k | false => .fail) | _ => .fail)
 | .slc n sz el => (match a with
   | .slc n' sz' el' => (match decide (sz = sz') with | true => .need ⟨fun z : Nat × Nat => z.1 = z.2, (n'.val, n.val)⟩ (.need ⟨ElEq, (n.val, el', el)⟩ k) | false => .fail)
   | .row i => (match getB src i with
     | .row _ sz' n' el' => (match decide (sz = sz') && goneB lo tgt i with | true => .need ⟨fun z : Nat × Nat => z.1 = z.2, (n'.val, n.val)⟩ (.need ⟨ElEq, (n.val, el', el)⟩ k) | false => .fail)
     | _ => .fail)
   | .v (.slice none 0 _) => .need ⟨fun z : Nat => z = 0, n.val⟩ k
   | _ => .fail)
 | .agg m => (match a with | .agg l => leLW (leAF d lo src tgt) l m k | _ => .fail)
 | .tup m => (match a with | .tup l => leLW (leAF d lo src tgt) l m k | _ => .fail)
 | .xp l => (match ownIn.ownInL l with
   | true => .fail
   | false => (match a with
     | .xp m => leLW (leAF d lo src tgt) m l k
     | .own i o => (match getB src i with
       | .cells _ m => (match goneB lo tgt i with | true => leLW (leAF d lo src tgt) (dropL m o) l k | false => .fail)
       | _ => .fail)
     | _ => .fail))
 | .v x => .need ⟨fun z : AV × AV => z.1 = z.2, (a, .v x)⟩ k
 | .fn f l m => (match a with
   | .fn g l' m' => (match ownIn.ownInL l || ownIn.ownInL m || ownIn.ownInL l' || ownIn.ownInL m' with
     | false => .need ⟨fun z : AV × AV => z.1 = z.2, (.fn g l' m', .fn f l m)⟩ k
     | true => (match fnEq g f with | true => leLW (leAF d lo src tgt) l' l (leLW (leAF d lo src tgt) m' m k) | false => .fail))
   | _ => .fail)
 | .gd _ _ => .fail
 | .pa n sz el => (match a with | .pa n' sz' el' => (match decide (sz = sz') with | true => .need ⟨fun z : Nat × Nat => z.1 = z.2, (n', n)⟩ (.need ⟨ElEq, (n, el', el)⟩ k) | false => .fail) | _ => .fail)
def leBF (lo n : Nat) (src tgt : Heap) (a b : Blk) (k : VC) : VC :=
 match b with
 | .dead => (match Nat.ble lo n with | true => k | false => (match a with | .dead => k | _ => .fail))
 | .cells t m => (match a with | .cells t' l => (match decide (t = t') with | true => leLW (leAF 6 lo src tgt) l m k | false => .fail) | _ => .fail)
 | .row e sz n el => (match a with
   | .row e' sz' n' el' => (match decide (e = e' /\ sz = sz') with | true => .need ⟨fun z : Nat × Nat => z.1 = z.2, (n'.val, n.val)⟩ (.need ⟨ElEq, (n.val, el', el)⟩ k) | false => .fail)
   | _ => .fail)
 | .mat t w n f => (match a with
   | .mat t' w' n' f' => (match decide (t = t' /\ w = w') with | true => .need ⟨fun z : Nat × Nat => z.1 = z.2, (n'.val, n.val)⟩ (.need ⟨MatEq, (n.val, w, f', f)⟩ k) | false => .fail)
   | _ => .fail)
 | .rows e e1 sz n fz ln el ho => (match a with
   | .rows e' e1' sz' n' fz' ln' el' ho' => (match decide (e = e' /\ e1 = e1' /\ sz = sz'), ho, ho' with
     | true, none, none => .need ⟨fun z : Nat × Nat => z.1 = z.2, (n'.val, n.val)⟩ (.need ⟨RowsEq, (n.val, none, (fz', ln', el'), (fz, ln, el))⟩ k)
     | true, some (q, oh), some (q', oh') => (match oh, oh' with
       | none, _ => .need ⟨fun z : Nat × Nat => z.1 = z.2, (n'.val, n.val)⟩ (.need ⟨fun z : Nat × Nat => z.1 = z.2, (q', q)⟩ (.need ⟨RowsEq, (n.val, some q, (fz', ln', el'), (fz, ln, el))⟩ k))
       | some h, some h' => (match Nat.beq h h' && aliveB tgt h with
         | true => .need ⟨fun z : Nat × Nat => z.1 = z.2, (n'.val, n.val)⟩ (.need ⟨fun z : Nat × Nat => z.1 = z.2, (q', q)⟩ (.need ⟨RowsEq, (n.val, some q, (fz', ln', el'), (fz, ln, el))⟩ k))
         | false => .fail)
       | some _, none => .fail)
     | _, _, _ => .fail)
   | _ => .fail)
 | .tab n sz el => (match a with
   | .tab n' sz' el' => (match decide (sz = sz') with | true => .need ⟨fun z : Nat × Nat => z.1 = z.2, (n'.val, n.val)⟩ (.need ⟨ElEq, (n.val, el', el)⟩ k) | false => .fail)
   | _ => .fail)
def leHF (lo : Nat) (src tgt : Heap) : Nat -> Heap -> Heap -> VC -> VC
 | _, [], [], k => k
 | n, _ :: _, [], k => (match Nat.ble lo n with | true => k | false => .fail)
 | n, a :: l, b :: m, k => leBF lo n src tgt a b (leHF lo src tgt (n + 1) l m k)
 | _, [], _ :: _, _ => .fail
def leSF (lo : Nat) (fr : List AV) (hp : Heap) (s : AS) : VC := leLW (leAF 6 lo hp s.hp) fr s.fr (leHF lo hp s.hp 0 hp s.hp .done)
def swN (i j k : Nat) : Nat := match Nat.beq k i with | true => j | false => (match Nat.beq k j with | true => i | false => k)
def swA (i j : Nat) : AV -> AV
 | .own k o => .own (swN i j k) o
 | .elt k a b c => .elt (swN i j k) a b c
 | .row k => .row (swN i j k)
 | .lsl k n s => .lsl (swN i j k) n s
 | .mp k => .mp (swN i j k)
 | .agg l => .agg (swL i j l)
 | .tup l => .tup (swL i j l)
 | .fn f a b => .fn f (swL i j a) (swL i j b)
 | .gd k a => .gd k (swA i j a)
 | a => a
where swL (i j : Nat) : List AV -> List AV
 | [] => []
 | a :: l => swA i j a :: swL i j l
def swB (i j : Nat) : Blk -> Blk
 | .cells t l => .cells t (swA.swL i j l)
 | .rows e e' sz n fz ln el (some (k, some h)) => .rows e e' sz n fz ln el (some (k, some (swN i j h)))
 | b => b
def swM (i j : Nat) : Heap -> Heap
 | [] => []
 | b :: l => swB i j b :: swM i j l
def swH (i j : Nat) (hp : Heap) : Heap := setB (setB (swM i j hp) i (swB i j (getB hp j))) j (swB i j (getB hp i))
def misO (lo n : Nat) : List AV -> List AV -> Option (Nat × Nat)
 | b :: m, l => (match l with
   | [] => none
   | a :: l => (match b with
     | .own i _ => (match a with
       | .own j _ => (match Nat.beq i j with
         | true => misO lo n m l
         | false => (match Nat.ble lo i && Nat.ble lo j && Nat.blt i n && Nat.blt j n with | true => some (i, j) | false => none))
       | _ => misO lo n m l)
     | _ => misO lo n m l))
 | [], _ => none
def swK (lo : Nat) (f2 fr : List AV) (hp : Heap) (K : List AV -> Heap -> VC) : VC := match misO lo hp.length f2 fr with
 | none => K fr hp
 | some (i, j) => forceLD (swA.swL i j fr) fun fr' => forceH (swH i j hp) fun hp' => K fr' hp'
def exK (lo : Nat) (A : Ann) (m : Option Nat) (fr : List AV) (hp : Heap) : VC :=
 .ex (A := A) A.dat m fun g => forceL (A.st g).fr fun f2 => forceH (A.st g).hp fun h2 => swK lo f2 fr hp fun fr hp => leSF lo fr hp ⟨f2, h2⟩
def nilCK (t x c : Nat) (fr : List AV) (hp : Heap) (K : Heap -> VC) : VC := match getL fr t, Nat.beq (c % 64) 5 with
 | .own i o, true => (match getB hp i with
   | .cells ty l => (match isNilS (getL l (o + c / 64)) with
     | true => forceL (setL l (o + c / 64) (.row hp.length)) fun l' => forceH (appH (setB hp i (.cells ty l')) [.row (x % 65536) (x / 65536 + 1) (.lit 0) (fun _ => [])]) fun hp' => K hp'
     | false => .fail)
   | _ => .fail)
 | _, _ => .fail
def nilK : List (Nat × TypeId × Nat) -> List AV -> Heap -> (List AV -> Heap -> VC) -> VC
 | [], fr, hp, K => K fr hp
 | (t, e, sz) :: l, fr, hp, K => (match isNilS (getL fr t), sz with
   | true, _ + 1 => setF fr t (.row hp.length) fun fr' => forceH (appH hp [.row e sz (.lit 0) (fun _ => [])]) fun hp' => nilK l fr' hp' K
   | _, 0 => nilCK t e 5 fr hp fun hp' => nilK l fr hp' K
   | _, _ => nilK l fr hp K)
abbrev Anns := List (Nat × List (Nat × TypeId × Nat) × (List AV -> Heap -> Ann))
def mskO : List Oper -> Nat
 | [] => 0
 | o :: l => (match o.dst with | some d => Nat.lor (Nat.shiftLeft 1 d) (mskO l) | none => mskO l)
def mskC : Code -> Nat
 | .region _ ops _ => mskO ops.toList
 | .seq a b => Nat.lor (mskC a) (mskC b)
 | .cond _ a b => Nat.lor (mskC a) (mskC b)
 | .block _ a => mskC a
 | .loop a => mskC a
 | _ => 0
def mskP : List Nat -> Nat
 | [] => 0
 | p :: l => Nat.lor (Nat.shiftLeft 1 p) (mskP l)
def topM (m : Nat) : List AV -> Nat -> (List AV -> VC) -> VC
 | [], _, k => k []
 | a :: l, n, k => (match Nat.testBit m n with
   | true => topM m l (n + 1) fun l' => k (.top :: l')
   | false => topM m l (n + 1) fun l' => k (a :: l'))
def setPs : List Nat -> List AV -> List AV -> (List AV -> VC) -> VC
 | [], [], fr, k => k fr
 | p :: ps, a :: as, fr, k => forceD (noGd a) fun a' => setF fr p a' fun fr' => setPs ps as fr' k
 | _, _, _, _ => .fail
def exR (lo : Nat) (A : Ann) (i : Nat) (fr : List AV) (hp : Heap) : VC :=
 .ex (A := A) A.dat none fun g => .need ⟨fun z : Nat × Nat => z.1 = z.2, (A.mu g, i)⟩ (forceL (A.st g).fr fun f2 => forceH (A.st g).hp fun h2 => swK lo f2 fr hp fun fr hp => leSF lo fr hp ⟨f2, h2⟩)
def keyR (a b : Code) : Nat := match firstRegion a with | 0 => firstRegion b | n => n
def nonInt : AV -> Bool
 | .own _ _ => true
 | .row _ => true
 | .lsl _ _ _ => true
 | .elt _ _ _ _ => true
 | .mp _ => true
 | .slc _ _ _ => true
 | .xp _ => true
 | .pa _ _ _ => true
 | .fn _ _ _ => true
 | .v x => (match x with | .slice _ _ _ => true | .pointer _ => true | .map _ => true | _ => false)
 | _ => false
def nonIntL : List AV -> Bool
 | [] => true
 | a :: l => nonInt a && nonIntL l
def expV : Nat -> Heap -> AV -> AV
 | 0, _, _ => .top
 | d + 1, hp, a => (match a with
   | .own i off => (match getB hp i with
     | .cells _ l => (match nonIntL l with | true => .xp ((dropL l off).map (expV d hp)) | false => .top)
     | _ => .top)
   | a => (match ownIn a with | true => .top | false => a))
def expVL (hp : Heap) : List AV -> List AV
 | [] => []
 | a :: l => expV 5 hp a :: expVL hp l
def IntItem : AV -> Prop
 | .li _ _ => True
 | .si _ _ => True
 | .lb _ => True
 | .sb _ => True
 | .slc n sz el => 0 < sz /\ ∀ k, k < n.val -> ∀ a ∈ el k, kindOf a ≠ none
 | _ => False
def IntItems (l : List AV) : Prop := ∀ a ∈ l, IntItem a
def itsKey (gf : Nat) : Nat := gf + 1048576
def itSel (S : Sums) (d gf : Nat) (hp : Heap) (caps : List AV) (k : Iter -> List AV -> Option (Nat × Nat × List AV) -> VC) : VC :=
 match findS S.its gf, ownIn.ownInL caps with
 | some it, false => (match Nat.blt gf 1048576 with | true => k it caps none | false => .fail)
 | _, _ => (match findS S.its (itsKey gf) with
   | some it => forceLD (expVL hp caps) fun cv => k it cv (some (d, gf, cv))
   | none => .fail)
def callIt (S : Sums) (g : Operand) (fr : List AV) (hp : Heap) (K : Items -> Option (Nat × Nat × List AV) -> VC) : VC :=
 match g with
 | .tmp d => (match getL fr d with
   | .fn (.func gf) [] caps => itSel S d gf hp caps fun it cv cap => (match it cv with
     | some x => needs x.pre (K x cap)
     | none => .fail)
   | _ => .fail)
 | _ => .fail
def capI (c : Option (Nat × Nat × List AV)) (its : List AV) (k : VC) : VC :=
 match c with
 | none => k
 | some _ => .need ⟨IntItems, its⟩ k
def iterL (run : List AV -> Heap -> (AE -> List AV -> Heap -> VC) -> VC) : Nat -> List AV -> Heap -> (AE -> List AV -> Heap -> VC) -> VC
 | 0, _, _, _ => .fail
 | n + 1, fr, hp, Q => run fr hp fun e fr' hp' => match e with
   | .normal => iterL run n fr' hp' Q
   | e => Q e fr' hp'
def asMove : Op -> Option Nat
 | .move (.tmp s) => some s
 | _ => none
def asNil : Op -> Option (TypeId × Nat)
 | .binOp .eql t (.tmp a) (.const (.slice none 0 0)) _ => some (t, a)
 | _ => none
def isSliceT (P : Program) (t : TypeId) : Bool := match P.underlying t with | some (.slice _) => true | _ => false
def isSlc : AV -> Option LN
 | .slc n _ _ => some n
 | _ => none
def nilCmp (P : Program) (ops : List Oper) (fr : List AV) : Option (Nat × Nat × Nat × LN) :=
 match ops with
 | [o1, o2] => (match asNil o2.op with
   | some (t, a') => (match asMove o1.op with
     | some s => (match o1.dst, o1.guard, o2.dst, o2.guard with
       | some a, none, some b, none => (match Nat.beq a a' && isSliceT P t && Nat.blt a fr.length, isSlc (getL fr s) with
         | true, some n => some (s, a, b, n)
         | _, _ => none)
       | _, _, _, _ => none)
     | none => none)
   | none => none)
 | _ => none
def unitA : Ann := ⟨Unit, fun _ => ⟨[], []⟩, Unit, fun _ => (), fun _ => True, fun _ => 0⟩
def capC (d gf : Nat) (cv : List AV) (fr : List AV) (hp : Heap) : VC :=
 match getL fr d with
 | .fn (.func gf') [] caps => (match Nat.beq gf gf' with
   | true => forceLD (expVL hp caps) fun cw => leLW (leAF 6 0 [] []) cw cv .done
   | false => .fail)
 | _ => .fail
def capK (c : Option (Nat × Nat × List AV)) (fr : List AV) (hp : Heap) (k : VC) : VC :=
 match c with
 | none => k
 | some (d, gf, cv) => .loop (A := unitA) (fun _ => ()) (capC d gf cv fr hp) fun _ => k
def nilVC (s a b : Nat) (n : LN) (fr : List AV) (hp : Heap) (K : List AV -> Heap -> VC) : VC :=
 .loop (A := unitA) (fun _ => ()) (.branch (ieq (icast n.val) 0) (setF fr a (getL fr s) fun f => setF f b (.lb true) fun f => K f hp) .done) (fun _ => setF fr a (getL fr s) fun f => setF f b (.lb false) fun f => K f hp)
@[irreducible] def cpI (n j : Nat) (x y : Int) : Int := if j < n then x else y
def allK (k : IntKind) : List AV -> Bool
 | [] => true
 | a :: l => (match kindOf a with | some k' => decide (k' = k) && allK k l | none => false)
def cpy1 (k : IntKind) (n j : Nat) : List AV -> List AV -> List AV
 | a :: e, b :: l => .si k (cpI n j (intOf a) (intOf b)) :: cpy1 k n j e l
 | _, _ => []
def cpyN (k : IntKind) (n sz : Nat) (el : Nat -> List AV) : Nat -> Nat -> List AV -> List AV
 | 0, _, _ => []
 | m + 1, j, l => appL (cpy1 k n j (el j) (takeL l sz)) (cpyN k n sz el m (j + 1) (dropL l sz))
def cpOK (k : IntKind) (sz : Nat) (el : Nat -> List AV) : Nat -> Nat -> Bool
 | 0, _ => true
 | m + 1, j => allK k (el j) && Nat.beq (el j).length sz && cpOK k sz el m (j + 1)
structure Cpy where
 d1 : Nat
 d2 : Nat
 d3 : Nat
 d4 : Nat
 s : Nat
 i : Nat
 off : Nat
 N : Nat
 sz : Nat
 n : LN
 el : Nat -> List AV
 t : TypeId
 l : List AV
 k : IntKind
def cpyO (ops : List Oper) : Option (TypeId × Operand × Nat × TypeId × TypeId × Nat × Nat × Nat × Nat × Nat) :=
 match ops with
 | [o1, o2, o3, o4] => (match o1.op, o2.op, o3.op, o4.op with
   | .fieldAddr t1 x f, .slice t2 (.tmp a) none none none, .move (.tmp s), .call c => (match c.callee, c.args.toList, c.argTypes.toList with
     | .builtin .copy, [.tmp b, .tmp e], [T, _] => (match o1.dst, o2.dst, o3.dst, o4.dst with
       | some d1, some d2, some d3, some d4 => (match o1.guard, o2.guard, o3.guard, o4.guard with
         | none, none, none, none => (match Nat.beq a d1 && Nat.beq b d2 && Nat.beq e d3 && !(Nat.beq d2 d3) && !(Nat.beq s d1) && !(Nat.beq s d2) with
           | true => some (t1, x, f, t2, T, s, d1, d2, d3, d4)
           | false => none)
         | _, _, _, _ => none)
       | _, _, _, _ => none)
     | _, _, _ => none)
   | _, _, _, _ => none)
 | _ => none
def cpyP (P : Program) (ops : List Oper) (fr : List AV) (hp : Heap) : Option Cpy :=
 match cpyO ops with
 | none => none
 | some (t1, x, f, t2, T, s, d1, d2, d3, d4) => (match fieldAddrA P t1 (ev fr x) f, P.underlying t2, P.underlying T, getL fr s with
   | .val (.own i off), some (.array N e), some (.slice e'), .slc n sz el => (match getB hp i with
     | .cells t l => (match kindOf (getL l off) with
       | some k => (match decide (e = e') && Nat.beq sz (sizeT P e) && Nat.blt 0 sz && Nat.ble (off + N * sz) l.length && allK k (takeL (dropL l off) (N * sz)) && cpOK k sz el N 0 && Nat.blt d1 fr.length && Nat.blt d2 fr.length && Nat.blt d3 fr.length with
         | true => some ⟨d1, d2, d3, d4, s, i, off, N, sz, n, el, t, l, k⟩
         | false => none)
       | none => none)
     | _ => none)
   | _, _, _, _ => none)
def cpyH (z : Cpy) (hp : Heap) : Heap := setB hp z.i (.cells z.t (pasteL z.l z.off (cpyN z.k z.n.val z.sz z.el z.N 0 (dropL z.l z.off))))
def cpyVC (z : Cpy) (fr : List AV) (hp : Heap) (K : List AV -> Heap -> VC) : VC :=
 forceH (cpyH z hp) fun hp' => setF fr z.d1 (.own z.i z.off) fun f => setF f z.d2 .top fun f => setF f z.d3 (getL fr z.s) fun f => setF f z.d4 .top fun f => K f hp'
def giA (j : Nat) (l : List AV) : AV -> AV
 | .own i o => (match Nat.beq i j with | true => .xp (dropL l o) | false => .own i o)
 | .elt i a b c => (match Nat.beq i j with | true => .top | false => .elt i a b c)
 | .row i => (match Nat.beq i j with | true => .top | false => .row i)
 | .lsl i n s => (match Nat.beq i j with | true => .top | false => .lsl i n s)
 | .mp i => (match Nat.beq i j with | true => .top | false => .mp i)
 | .agg m => .agg (giL j l m)
 | .tup m => .tup (giL j l m)
 | .fn g a b => .fn g (giL j l a) (giL j l b)
 | .gd k a => .gd k (giA j l a)
 | a => a
where giL (j : Nat) (l : List AV) : List AV -> List AV
 | [] => []
 | a :: m => giA j l a :: giL j l m
def giB (j : Nat) (l : List AV) : Blk -> Blk
 | .cells t m => .cells t (giA.giL j l m)
 | .rows e e' sz n fz ln el ho => .rows e e' sz n fz ln el (hoR (at1 j .top) ho)
 | b => b
def giH (j : Nat) (l : List AV) : Heap -> Heap
 | [] => []
 | b :: m => giB j l b :: giH j l m
def paA (j : Nat) (p : AV) : AV -> AV
 | .elt i a k o => (match Nat.beq i j with | true => (match Nat.beq k 0 && Nat.beq o 0 with | true => p | false => .top) | false => .elt i a k o)
 | .own i o => (match Nat.beq i j with | true => .top | false => .own i o)
 | .row i => (match Nat.beq i j with | true => .top | false => .row i)
 | .lsl i n s => (match Nat.beq i j with | true => .top | false => .lsl i n s)
 | .mp i => (match Nat.beq i j with | true => .top | false => .mp i)
 | .agg m => .agg (paL j p m)
 | .tup m => .tup (paL j p m)
 | .fn g a b => .fn g (paL j p a) (paL j p b)
 | .gd k a => .gd k (paA j p a)
 | a => a
where paL (j : Nat) (p : AV) : List AV -> List AV
 | [] => []
 | a :: m => paA j p a :: paL j p m
def paB (j : Nat) (p : AV) : Blk -> Blk
 | .cells t m => .cells t (paA.paL j p m)
 | .rows e e' sz n fz ln el ho => .rows e e' sz n fz ln el (hoR (at1 j .top) ho)
 | b => b
def paH (j : Nat) (p : AV) : Heap -> Heap
 | [] => []
 | b :: m => paB j p b :: paH j p m
def refAt (fr : List AV) (hp : Heap) (t off : Nat) : Option Nat := match getL fr t with
 | .row j => some j
 | .own i o => (match getB hp i with
   | .cells _ l => (match getL l (o + off) with | .row j => some j | _ => none)
   | _ => none)
 | _ => none
def toRowsK (e' sz j : Nat) (fr : List AV) (hp : Heap) (K : List AV -> Heap -> VC) : VC := match getB hp j, sz with
 | .row e 1 n el, s + 1 => .need ⟨fun z : Nat × (Nat -> List AV) => 0 < z.1 /\ ∀ k, k < z.1 -> z.2 k = [.v (.slice none 0 0)], (n.val, el)⟩ (forceH (setB hp j (.rows e e' (s + 1) n (fun _ => false) (fun _ => 0) (fun _ _ => []) none)) fun hp' => K fr hp')
 | _, _ => .fail
def idxV : AV -> Option Int
 | .li _ a => some a
 | .si _ a => some a
 | _ => none
def idxX (fr : List AV) (x : Nat) : Option Int := match Nat.ble 4096 x with
 | false => idxV (getL fr x)
 | true => (match idxV (getL fr (x % 4096)), idxV (getL fr (x / 4096)) with | some a, some b => some (irem a b) | _, _ => none)
def openK (x j : Nat) (fr : List AV) (hp : Heap) (K : List AV -> Heap -> VC) : VC := match getB hp j, idxX fr x with
 | .rows e e' sz n fz ln el none, some a => .need ⟨fun z : Int × Nat => 0 <= z.1 /\ z.1 < (z.2 : Int), (a, n.val)⟩ (.need ⟨fun z : Bool => z = false, fz (nat a)⟩
   (forceH (appH (setB hp j (.rows e e' sz n fz ln el (some (nat a, some hp.length)))) [.row e' sz (.sym (ln (nat a))) (el (nat a))]) fun hp' => K fr hp'))
 | _, _ => .fail
def closeK (lo : Nat) (stay : Bool) (j : Nat) (fr : List AV) (hp : Heap) (K : List AV -> Heap -> VC) : VC := match getB hp j with
 | .rows e e' sz n fz ln el (some (k, some h)) => (match getB hp h with
   | .row e2 sz2 m f => (match decide (e2 = e' /\ sz2 = sz /\ h ≠ j) && Nat.ble lo h && Nat.ble lo j with
     | true => forceLD (mapR.mapRL (at1 h .top) fr) fun fr' => forceH (setB (setB (mapH (at1 h .top) hp) h .dead) j (.rows e e' sz n (updZ k stay fz) (updN k m.val ln) (updR k f el) none)) fun hp' => K fr' hp'
     | false => .fail)
   | _ => .fail)
 | _ => .fail
def restK (lo j : Nat) (fr : List AV) (hp : Heap) (K : List AV -> Heap -> VC) : VC := match getB hp j with
 | .rows e _ sz n _ ln el none => (match Nat.ble lo j with
   | true => forceH (setB hp j (.row e 1 n (fun k => [.slc (.sym (ln k)) sz (el k)]))) fun hp' => K fr hp'
   | false => .fail)
 | _ => .fail
def frzK (lo j : Nat) (fr : List AV) (hp : Heap) (K : List AV -> Heap -> VC) : VC := match getB hp j with
 | .row _ sz n el => (match Nat.ble lo j with
   | true => forceLD (mapR.mapRL (at1 j (.slc n sz el)) fr) fun fr' => forceH (setB (mapH (at1 j (.slc n sz el)) hp) j .dead) fun hp' => K fr' hp'
   | false => .fail)
 | _ => .fail
def nilsK (sz j : Nat) (fr : List AV) (hp : Heap) (K : List AV -> Heap -> VC) : VC := match getB hp j with
 | .row e 1 n el => .need ⟨fun z : Nat × (Nat -> List AV) => ∀ k, k < z.1 -> z.2 k = [.v (.slice none 0 0)], (n.val, el)⟩ (forceH (setB hp j (.row e 1 n (fun _ => [.slc (.sym 0) sz (fun _ => [])]))) fun hp' => K fr hp')
 | _ => .fail
def rowsK (lo x c j : Nat) (fr : List AV) (hp : Heap) (K : List AV -> Heap -> VC) : VC := match c % 64 with
 | 1 => openK x j fr hp K
 | 2 => closeK lo false j fr hp K
 | 3 => closeK lo true j fr hp K
 | 4 => restK lo j fr hp K
 | 6 => frzK lo j fr hp K
 | 7 => nilsK x j fr hp K
 | c => (match Nat.ble 16 c with | true => toRowsK x (c - 16) j fr hp K | false => .fail)
def giveK (lo : Nat) : List (Nat × TypeId × Nat) -> List AV -> Heap -> (List AV -> Heap -> VC) -> VC
 | [], fr, hp, K => K fr hp
 | (t, x, c) :: r, fr, hp, K => (match Nat.beq c 0 with
  | false => (match refAt fr hp t (c / 64) with
    | some j => rowsK lo x c j fr hp fun fr hp => giveK lo r fr hp K
    | none => nilCK t x c fr hp fun hp => giveK lo r fr hp K)
  | true => (match getL fr t with
   | .own j _ => (match getB hp j with
     | .cells _ l => (match ownIn.ownInL l, Nat.ble lo j with
       | false, true => forceLD (giA.giL j l fr) fun fr' => forceH (setB (giH j l hp) j .dead) fun hp' => giveK lo r fr' hp' K
       | _, _ => .fail)
     | _ => .fail)
   | .row j => (match getB hp j with
     | .row _ sz n el => (match Nat.ble lo j with
       | true => forceLD (mapR.mapRL (at1 j (.slc n sz el)) fr) fun fr' => forceH (setB (mapH (at1 j (.slc n sz el)) hp) j .dead) fun hp' => giveK lo r fr' hp' K
       | false => .fail)
     | _ => .fail)
   | .elt j _ _ _ => (match getB hp j with
     | .mat _ w (.lit 1) f => (match Nat.ble lo j with
       | true => forceLD (paA.paL j (.pa w 1 (fun k => [f 0 k])) fr) fun fr' => forceH (setB (paH j (.pa w 1 (fun k => [f 0 k])) hp) j .dead) fun hp' => giveK lo r fr' hp' K
       | false => .fail)
     | _ => .fail)
   | _ => .fail))
def giveI (I : List (Nat × List (Nat × TypeId × Nat) × (List AV -> Heap -> Ann))) (lo id : Nat) (fr : List AV) (hp : Heap) (K : List AV -> Heap -> VC) : VC := match findS I (id + 2097152) with
 | none => K fr hp
 | some (l, _) => giveK lo l fr hp K
def rdyN (all : List Oper) (D : List Nat) (i : Nat) : Bool := match memN i D with
 | true => false
 | false => (match all[i]? with | none => false | some o => o.after.toList.all fun e => !(Region.binds .any e) || memN e.on D)
def apN (all : List Oper) (D : List Nat) (i : Nat) (o : Oper) : Bool := allLt (fun k => match all[k]? with
 | none => true
 | some o' => Nat.beq k i || memN k D || o'.after.toList.any (fun e => Region.binds .any e && Nat.beq e.on i) || o.apart all.toArray o') all.length
def wantN (all : List Oper) (g : Nat -> AV) (o : Oper) : Option Bool := match o.guard with
 | none => some true
 | some (j, w) => (match dstOf all j with
   | some d => (match g d with | .lb b => some (b == w) | _ => none)
   | none => none)
def fixV (P : Program) (all : List Oper) (g : Nat -> AV) (o : Oper) : Option (List Cd × AV) := match wantN all g o with
 | some true => (match frVal P (evM ((tmpsO (opnds o.op)).map fun t => (t, unGd [] (g t)))) o.op with
   | some (ps, a) => some (ps, noGd a)
   | none => none)
 | some false => some ([], .tup [])
 | none => none
def fixN (P : Program) (all : List Oper) (D : List Nat) (g : Nat -> AV) (i : Nat) : Option (Oper × List Cd × AV) := match rdyN all D i, all[i]? with
 | true, some o => (match fixV P all g o with
   | some (ps, a) => (match apN all D i o with | true => some (o, ps, a) | false => none)
   | none => none)
 | _, _ => none
def fixGo (P : Program) (all : List Oper) (D : List Nat) (g : Nat -> AV) : Nat -> Option (Nat × Oper × List Cd × AV)
 | 0 => none
 | i + 1 => (match fixN P all D g i with | some (o, ps, a) => some (i, o, ps, a) | none => fixGo P all D g i)
def spN (all : List Oper) (D : List Nat) (g : Nat -> AV) (i : Nat) : Option (Nat × Bool) := match rdyN all D i, all[i]? with
 | true, some o => (match o.guard with
   | some (j, _) => (match dstOf all j with
     | some d => (match g d with | .sb c => some (d, c) | _ => none)
     | none => none)
   | none => none)
 | _, _ => none
def spGo (all : List Oper) (D : List Nat) (g : Nat -> AV) : Nat -> Option (Nat × Bool)
 | 0 => none
 | i + 1 => (match spN all D g i with | some x => some x | none => spGo all D g i)
def rdyL (all : List Oper) (D : List Nat) : Nat -> List Nat
 | 0 => []
 | i + 1 => (match rdyN all D i with | true => i :: rdyL all D i | false => rdyL all D i)
def allOrd : List Nat -> (Nat -> VC) -> VC
 | [], _ => .done
 | i :: l, k => .loop (A := ⟨Unit, fun _ => ⟨[], []⟩, Unit, fun _ => (), fun _ => True, fun _ => 0⟩) (fun _ => ()) (k i) fun _ => allOrd l k
def runAny (P : Program) (S : Sums) (all : List Oper) : Nat -> List Nat -> List AV -> Heap -> (List AV -> Heap -> VC) -> VC
 | 0, _, _, _, _ => .fail
 | f + 1, D, fr, hp, K => (match fixGo P all D (getL fr) all.length with
   | some (i, o, ps, a) => needs ps (setK fr o.dst a fun fr' => runAny P S all f (i :: D) fr' hp K)
   | none => (match spGo all D (getL fr) all.length with
     | some (d, c) => .branch c (setF fr d (.lb true) fun fr' => runAny P S all f D fr' hp K) (setF fr d (.lb false) fun fr' => runAny P S all f D fr' hp K)
     | none => (match rdyL all D all.length with
       | [] => cleanF fr fun fr' => K fr' hp
       | i :: l => allOrd (i :: l) fun i => (match all[i]? with
         | some o => (match wantN all (getL fr) o with
           | some true => runOp P S true none [] o fr hp fun fr' hp' => runAny P S all f (i :: D) fr' hp' K
           | _ => .fail)
         | none => .fail))))
def cutK (b : Code) : Nat := firstRegion b + 1048576
def wpA (P : Program) (S : Sums) (U : Nat) (I : Anns) : Code -> List AV -> Heap -> (AE -> List AV -> Heap -> VC) -> VC
 | .skip, fr, hp, Q => Q .normal fr hp
 | .region id ops dr, fr, hp, Q => giveI I S.lo id fr hp fun fr hp => (match dr with
   | true => (match findS I (id + 4194304) with
     | some _ => (match ops.toList.all fun o => !(isSelO o.op) with
       | true => runAny P S ops.toList (2 * ops.toList.length + 1) [] fr hp (Q .normal)
       | false => .fail)
     | none => (match swGo ops.toList 0 ops.toList with
       | none => (match needP S ops.toList with
         | true => runPre P S ops.toList fr hp (Q .normal)
         | false => (match needH S ops.toList with
           | false => runOps P S true ops.toList none 0 ops.toList [] fr hp (Q .normal)
           | true => runMv ops.toList fr fun fr' => runOps P S true (hoist ops.toList) none (lenO (mvOps ops.toList)) (restO ops.toList (lenO (mvOps ops.toList)) ops.toList) [] fr' hp (Q .normal)))
       | some z => (match Nat.blt z.d fr.length with
         | true => setF fr z.d .top fun fr' => runSw P S z (finB ops.toList) 0 (swOps ops.toList z) fr' hp (Q .normal)
         | false => .fail)))
   | false => (match nilCmp P ops.toList fr with
     | some (s, a, b, n) => nilVC s a b n fr hp (Q .normal)
     | none => (match cpyP P ops.toList fr hp with
       | some z => cpyVC z fr hp (Q .normal)
       | none => runOps P S false ops.toList none 0 ops.toList [] fr hp (Q .normal))))
 | .seq a b, fr, hp, Q => (match findS I (cutK b) with
   | none => wpA P S U I a fr hp fun e fr' hp' => match e with
     | .normal => wpA P S U I b fr' hp' Q
     | e => Q e fr' hp'
   | some (_, ann) =>
     let A := ann fr hp
     .loop (A := A) A.dat (wpA P S U I a fr hp fun e fr' hp' => match e with
      | .normal => exK S.lo A none fr' hp'
      | e => Q e fr' hp') fun g => forceL (A.st g).fr fun fr => forceH (A.st g).hp fun hp => wpA P S U I b fr hp Q)
 | .cond c t e, fr, hp, Q => (match c with
   | .tmp d => branchK fr d fun b fr => (match b with | true => wpA P S U I t fr hp Q | false => wpA P S U I e fr hp Q)
   | .const (.bool true) => wpA P S U I t fr hp Q
   | .const (.bool false) => wpA P S U I e fr hp Q
   | _ => .fail)
 | .block id c, fr, hp, Q => wpA P S U I c fr hp fun e fr' hp' => match e with
   | .exit j => (match Nat.beq id j with | true => Q .normal fr' hp' | false => Q (.exit j) fr' hp')
   | e => Q e fr' hp'
 | .loop c, fr, hp, Q => (match findS I (firstRegion c) with
   | none => iterL (wpA P S U I c) U fr hp Q
   | some (nils, ann) => nilK nils fr hp fun fr hp =>
     let A := ann fr hp
     .loop (A := A) A.dat (exK S.lo A none fr hp) fun g => forceL (A.st g).fr fun fr => forceH (A.st g).hp fun hp => wpA P S U I c fr hp fun e fr' hp' => match e with
      | .normal => exK S.lo A (some (A.mu g)) fr' hp'
      | e => Q e fr' hp')
 | .rangeFunc g ps assign body, fr, hp, Q => callIt S g fr hp fun x cap => (match findS I (keyR assign body) with
   | none => .fail
   | some (nils, ann) => nilK nils fr hp fun fr hp =>
     let A := ann fr hp
     .loop (A := A) A.dat (exR S.lo A 0 fr hp) fun g => forceL (A.st g).fr fun fr => forceH (A.st g).hp fun hp => capK cap fr hp (
      .branch (nlt (A.mu g) x.n)
       (capI cap (x.it (A.mu g)) (setPs ps.toList (x.it (A.mu g)) fr fun fr1 => wpA P S U I assign fr1 hp fun e fr2 hp2 => match e with
        | .normal => wpA P S U I body fr2 hp2 fun e fr3 hp3 => topM (Nat.lor (mskP ps.toList) (Nat.lor (mskC assign) (mskC body))) fr3 0 fun fr4 => match e with
          | .normal => exR S.lo A (nadd (A.mu g) 1) fr4 hp3
          | e => Q e fr4 hp3
        | _ => .fail))
       (Q .normal fr hp)))
 | .exit id, fr, hp, Q => Q (.exit id) fr hp
 | .ret, fr, hp, Q => Q .ret fr hp
 | _, _, _, _ => .fail
def resK (P : Program) (fr : List AV) (hp : Heap) : List ResultVar -> (List AV -> VC) -> VC
 | [], k => k []
 | .tmp t :: l, k => resK P fr hp l fun m => k (getL fr t :: m)
 | .cell a ty :: l, k => (match loadA P hp ty (getL fr a) with | .val x => resK P fr hp l fun m => k (x :: m) | _ => .fail)
def outK (l : List AV) (hp : Heap) : VC := match l with
 | [a] => forceD a fun a' => .out a' hp
 | l => forceLD l fun l' => .out (.tup l') hp
def padL : List AV -> Nat -> List AV
 | l, 0 => l
 | [], n + 1 => .tup [] :: padL [] n
 | a :: l, n + 1 => a :: padL l n
def wpF (P : Program) (S : Sums) (U : Nat) (I : Anns) (fn : Func) (args : List AV) (hp : Heap) : VC :=
 match fn.body with
 | some c => forceL (padL args fn.ntmps) fun fr => wpA P S U I c fr hp fun e fr hp => match e with
   | .exit _ => .fail
   | _ => resK P fr hp fn.results.toList fun l => outK l hp
 | none => .fail
def VC.sat (R : AV -> Heap -> Prop) : VC -> Prop
 | .fail => False
 | .need p k => p.ok /\ k.sat R
 | .branch b t e => (b = true -> t.sat R) /\ (b = false -> e.sat R)
 | .out r hp => R r hp
 | .done => True
 | @VC.loop A d e b => e.sat R /\ ∀ g, A.q (d g) -> (b g).sat R
 | @VC.ex A d m k => ∃ g, A.q (d g) /\ (match m with | some n => A.mu g < n | none => True) /\ (k g).sat R
end
end Abs
end Go.Proofs.Ytdfdjlijghjdaaa

namespace Go.Proofs.Ytdfdjlijghjdaaa
namespace Abs
open Go
inductive Sh where
 | int (k : IntKind)
 | bool
 | slice (sz : Nat) (e : List Sh)
 | agg (l : List Sh)
 | fn (f : Nat) (a b : List Sh)
 | ptr (l : List Sh)
 | own (i off : Nat)
 | rowr (i : Nat)
 | mpr (i : Nat)
 | any
mutual
@[reducible] def Dat : Sh -> Type
 | .int _ => Int
 | .bool => Bool
 | .slice _ e => Nat × (Nat -> DatL e)
 | .agg l => DatL l
 | .fn _ a b => DatL a × DatL b
 | .ptr l => DatL l
 | .own _ _ => Unit
 | .rowr _ => Unit
 | .mpr _ => Unit
 | .any => AV
@[reducible] def DatL : List Sh -> Type
 | [] => Unit
 | s :: l => Dat s × DatL l
end
mutual
def enc : (s : Sh) -> Dat s -> AV
 | .int k, n => .si k n
 | .bool, b => .sb b
 | .slice sz e, x => .slc (.sym x.1) sz (fun k => encL e (x.2 k))
 | .agg l, x => .agg (encL l x)
 | .fn f a b, x => .fn (.func f) (encL a x.1) (encL b x.2)
 | .ptr l, x => .xp (encL l x)
 | .own i off, _ => .own i off
 | .rowr i, _ => .row i
 | .mpr i, _ => .mp i
 | .any, a => a
def encL : (l : List Sh) -> DatL l -> List AV
 | [], _ => []
 | s :: l, x => enc s x.1 :: encL l x.2
end
def preL : List Sh -> List AV -> List AV
 | [], _ => []
 | _ :: _, [] => []
 | _ :: l, a :: m => a :: preL l m
mutual
def dec : (s : Sh) -> AV -> Dat s
 | .int _, a => intOf a
 | .bool, a => boolOf a
 | .slice _ e, a => (match a with | .slc n _ el => (n.val, fun k => decL e (el k)) | _ => (0, fun _ => decL e []))
 | .agg l, a => (match a with | .agg m => decL l m | _ => decL l [])
 | .fn _ a b, v => (match v with | .fn _ l m => (decL a l, decL b m) | _ => (decL a [], decL b []))
 | .ptr l, a => (match a with | .xp m => decL l (preL l m) | _ => decL l [])
 | .own _ _, _ => ()
 | .rowr _, _ => ()
 | .mpr _, _ => ()
 | .any, a => a
def decL : (l : List Sh) -> List AV -> DatL l
 | [], _ => ()
 | s :: l, m => (match m with | a :: m => (dec s a, decL l m) | [] => (dec s .top, decL l []))
end
def cellSh : Sh -> Bool
 | .int _ => true
 | .bool => true
 | .slice _ _ => true
 | _ => false
def cellShL : List Sh -> Bool
 | [] => true
 | s :: l => cellSh s && cellShL l
mutual
def noOwn : Sh -> Bool
 | .any => false
 | .own _ _ => false
 | .rowr _ => false
 | .mpr _ => false
 | .agg l => noOwnL l
 | .fn _ a b => noOwnL a && noOwnL b
 | _ => true
def noOwnL : List Sh -> Bool
 | [] => true
 | s :: l => noOwn s && noOwnL l
end
def isBoolA : AV -> Bool
 | .lb _ => true
 | .sb _ => true
 | _ => false
mutual
def okSh : Sh -> AV -> Bool
 | .int k, a => (match kindOf a with | some k' => decide (k = k') | none => false)
 | .bool, a => isBoolA a
 | .slice sz e, a => cellShL e && (match a with | .slc _ sz' _ => Nat.beq sz sz' | .v (.slice none 0 0) => true | _ => false)
 | .agg l, a => (match a with | .agg m => okShL l m | _ => false)
 | .fn f a b, v => (match v with | .fn (.func g) l m => Nat.beq g f && okShL a l && okShL b m | _ => false)
 | .ptr l, a => (match a with | .xp m => noOwnL l && okShL l (preL l m) | _ => false)
 | .own i off, a => (match a with | .own j p => Nat.beq j i && Nat.beq p off | _ => false)
 | .rowr i, a => (match a with | .row j => Nat.beq j i | _ => false)
 | .mpr i, a => (match a with | .mp j => Nat.beq j i | _ => false)
 | .any, _ => true
def okShL : List Sh -> List AV -> Bool
 | [], m => (match m with | [] => true | _ => false)
 | s :: l, m => (match m with | a :: m => okSh s a && okShL l m | [] => false)
end
def appP : List Cd -> List Cd -> List Cd
 | [], m => m
 | p :: l, m => p :: appP l m
mutual
def CanSh : Sh -> AV -> Prop
 | .slice _ e, a => (match a with | .slc n _ el => ∀ k, k < n.val -> CanL e (el k) | _ => True)
 | .agg l, a => (match a with | .agg m => CanL l m | _ => False)
 | .fn _ a b, v => (match v with | .fn _ l m => CanL a l /\ CanL b m | _ => False)
 | .ptr l, a => (match a with | .xp m => CanL l (preL l m) | _ => False)
 | _, _ => True
def CanL : List Sh -> List AV -> Prop
 | [], m => (match m with | [] => True | _ => False)
 | s :: l, m => (match m with | a :: m => okSh s a = true /\ CanSh s a /\ CanL l m | [] => False)
end
def CanEl (e : List Sh) (z : Nat × (Nat -> List AV)) : Prop := ∀ k, k < z.1 -> CanL e (z.2 k)
mutual
def canSh : Sh -> AV -> List Cd
 | .slice _ e, a => (match a with | .slc n _ el => [⟨CanEl e, (n.val, el)⟩] | _ => [])
 | .agg l, a => (match a with | .agg m => canShL l m | _ => [])
 | .fn _ a b, v => (match v with | .fn _ l m => appP (canShL a l) (canShL b m) | _ => [])
 | .ptr l, a => (match a with | .xp m => canShL l (preL l m) | _ => [])
 | _, _ => []
def canShL : List Sh -> List AV -> List Cd
 | [], _ => []
 | s :: l, m => (match m with | a :: m => appP (canSh s a) (canShL l m) | [] => [])
end
mutual
def decK {β : Type 1} : (s : Sh) -> AV -> (Dat s -> β) -> β
 | .int _, a, f => (match a with | .li _ n => f n | .si _ n => f n | _ => f 0)
 | .bool, a, f => (match a with | .lb b => f b | .sb b => f b | _ => f false)
 | .slice _ e, a, f => (match a with | .slc n _ el => (match n with | .lit n => f (n, fun k => decL e (el k)) | .sym n => f (n, fun k => decL e (el k))) | _ => f (0, fun _ => decL e []))
 | .agg l, a, f => (match a with | .agg m => decKL l m f | _ => decKL l [] f)
 | .fn _ a b, v, f => (match v with | .fn _ l m => decKL a l fun x => decKL b m fun y => f (x, y) | _ => decKL a [] fun x => decKL b [] fun y => f (x, y))
 | .ptr l, a, f => (match a with | .xp m => decKL l (preL l m) f | _ => decKL l [] f)
 | .own _ _, _, f => f ()
 | .rowr _, _, f => f ()
 | .mpr _, _, f => f ()
 | .any, a, f => f a
def decKL {β : Type 1} : (l : List Sh) -> List AV -> (DatL l -> β) -> β
 | [], _, f => f ()
 | s :: l, m, f => (match m with | a :: m => decK s a fun x => decKL l m fun y => f (x, y) | [] => decK s .top fun x => decKL l [] fun y => f (x, y))
end
noncomputable section
def okShLP : {g : List Sh -> List AV -> Bool // okShL = g} := ⟨_, by delta okShL; rfl⟩
def okShLN : List Sh -> List AV -> Bool := okShLP.1
theorem okShLN_eq : okShLN = okShL := okShLP.2.symm
def canShLP : {g : List Sh -> List AV -> List Cd // canShL = g} := ⟨_, by delta canShL; rfl⟩
def canShLN : List Sh -> List AV -> List Cd := canShLP.1
theorem canShLN_eq : canShLN = canShL := canShLP.2.symm
def decKLP : {g : (β : Type 1) -> (l : List Sh) -> List AV -> (DatL l -> β) -> β // (fun β => @decKL β) = g} := ⟨_, by delta decKL; rfl⟩
def decKLN {β : Type 1} (l : List Sh) (m : List AV) (f : DatL l -> β) : β := decKLP.1 β l m f
theorem decKLN_eq {β : Type 1} (l : List Sh) (m : List AV) (f : DatL l -> β) : decKLN l m f = decKL l m f := by unfold decKLN; rw [<- decKLP.2]
end
end Abs
end Go.Proofs.Ytdfdjlijghjdaaa

namespace Go.Proofs.Ytdfdjlijghjdaaa
namespace Abs
open Go Go.RowKit
inductive Pl where
 | nil
 | at (b cap n : Nat)
structure Cx where
 ρ : Nat -> Option Pl
 I : Nat -> Prop
 O : Nat -> Option (Nat × Nat)
mutual
inductive Rel (C : Cx) (w : World) : AV -> Value -> Prop
 | top (v : Value) : Rel C w .top v
 | gd (k : Nat) (a : AV) (v : Value) : Rel C w (.gd k a) v
 | li (k : IntKind) (n : Int) : Rel C w (.li k n) (.int k n)
 | si (k : IntKind) (n : Int) : Rel C w (.si k n) (.int k n)
 | lb (b : Bool) : Rel C w (.lb b) (.bool b)
 | sb (b : Bool) : Rel C w (.sb b) (.bool b)
 | v (x : Value) : Rel C w (.v x) x
 | agg (l : List AV) (vs : List Value) (h : RelL C w l vs) : Rel C w (.agg l) (.agg ⟨vs⟩)
 | tup (l : List AV) (vs : List Value) (h : RelL C w l vs) : Rel C w (.tup l) (.tuple ⟨vs⟩)
 | own (i off b c n : Nat) (h : C.ρ i = some (.at b c n)) : Rel C w (.own i off) (.pointer (some ⟨b, off, none⟩))
 | elt (i sz k off b c n : Nat) (h : C.ρ i = some (.at b c n)) (hk : k < n) : Rel C w (.elt i sz k off) (.pointer (some ⟨b, k * sz + off, none⟩))
 | row (i b c n : Nat) (h : C.ρ i = some (.at b c n)) : Rel C w (.row i) (.slice (some ⟨b, 0, none⟩) n c)
 | lsl (i n sz b c m : Nat) (h : C.ρ i = some (.at b c m)) : Rel C w (.lsl i n sz) (.slice (some ⟨b, 0, none⟩) n n)
 | rown (i : Nat) (h : C.ρ i = some .nil) : Rel C w (.row i) (.slice none 0 0)
 | slc (n : LN) (sz : Nat) (el : Nat -> List AV) (A : Option Addr) (cap : Nat) (vs : Nat -> List Value) (hcap : n.val <= cap)
   (hA : 0 < n.val -> ∃ ad, A = some ad /\ C.I ad.block /\ ∀ k, k < n.val -> ∀ j, j < sz -> w.cell? (ad.add (k * sz + j)) = (vs k)[j]?)
   (hr : ∀ k, k < n.val -> RelL C w (el k) (vs k)) (hl : ∀ k, k < n.val -> (vs k).length = sz) (hn : ∀ k, k < n.val -> okL (el k) = true) : Rel C w (.slc n sz el) (.slice A n.val cap)
 | xp (l : List AV) (ad : Addr) (vs : List Value) (hr : RelL C w l vs) (hI : l ≠ [] -> C.I ad.block) (hc : ∀ j, j < l.length -> w.cell? (ad.add j) = vs[j]?)
   (hn : ownIn.ownInL l = false) : Rel C w (.xp l) (.pointer (some ad))
 | fn (f : Fn) (l m : List AV) (vs ws : List Value) (h : RelL C w l vs) (h' : RelL C w m ws) : Rel C w (.fn f l m) (.func f ⟨vs⟩ ⟨ws⟩)
 | pa (n sz : Nat) (el : Nat -> List AV) (A : Option Addr) (vs : Nat -> List Value) (hI : (n = 0 ↔ A = none) /\ ∀ ad, A = some ad -> C.I ad.block) (hc : ∀ ad, A = some ad -> ∀ k, k < n -> ∀ j, j < sz -> w.cell? (ad.add (k * sz + j)) = (vs k)[j]?)
   (hr : ∀ k, k < n -> RelL C w (el k) (vs k)) (hl : ∀ k, k < n -> (vs k).length = sz) (hn : ∀ k, k < n -> okL (el k) = true) : Rel C w (.pa n sz el) (.pointer A)
 | mp (i b c n : Nat) (h : C.ρ i = some (.at b c n)) : Rel C w (.mp i) (.map (some b))
inductive RelL (C : Cx) (w : World) : List AV -> List Value -> Prop
 | nil : RelL C w [] []
 | cons (a : AV) (l : List AV) (v : Value) (vs : List Value) (h : Rel C w a v) (h' : RelL C w l vs) : RelL C w (a :: l) (v :: vs)
end
structure Cext (C : Cx) (w : World) (C' : Cx) (w' : World) : Prop where
 rho : ∀ i p, C.ρ i = some p -> C'.ρ i = some p
 imm : ∀ b, C.I b -> C'.I b
 blk : ∀ b, C.I b -> w'.heap[b]? = w.heap[b]?
theorem Cext.refl (C : Cx) (w : World) : Cext C w C w := ⟨fun _ _ h => h, fun _ h => h, fun _ _ => rfl⟩
theorem Cext.trans {C C' C'' : Cx} {w w' w'' : World} (h : Cext C w C' w') (k : Cext C' w' C'' w'') : Cext C w C'' w'' :=
 ⟨fun i p hp => k.rho i p (h.rho i p hp), fun b hb => k.imm b (h.imm b hb), fun b hb => (k.blk b (h.imm b hb)).trans (h.blk b hb)⟩
theorem cell_of_blk {w w' : World} {a : Addr} (h : w'.heap[a.block]? = w.heap[a.block]?) : w'.cell? a = w.cell? a := by
 unfold World.cell?; rw [h]
theorem add_block (a : Addr) (n : Nat) : (a.add n).block = a.block := by unfold Addr.add; split <;> rfl
theorem add_add (a : Addr) (i j : Nat) : (a.add i).add j = a.add (i + j) := by
 unfold Addr.add
 by_cases hi : i = 0 <;> by_cases hj : j = 0 <;> simp [hi, hj, Nat.add_assoc]
section
variable {C C' : Cx} {w w' : World}
theorem Rel.mono (hx : Cext C w C' w') {a : AV} {v : Value} (h : Rel C w a v) : Rel C' w' a v := by
 refine Rel.rec (C := C) (w := w) (motive_1 := fun a v _ => Rel C' w' a v) (motive_2 := fun l vs _ => RelL C' w' l vs)
  ?_ ?_ ?_ ?_ ?_ ?_ ?_ ?_ ?_ ?_ ?_ ?_ ?_ ?_ ?_ ?_ ?_ ?_ ?_ ?_ ?_ h
 ·exact fun v => .top v
 ·exact fun k a v => .gd k a v
 ·exact fun k n => .li k n
 ·exact fun k n => .si k n
 ·exact fun b => .lb b
 ·exact fun b => .sb b
 ·exact fun x => .v x
 ·exact fun l vs _ h => .agg l vs h
 ·exact fun l vs _ h => .tup l vs h
 ·exact fun i off b c n h => .own i off b c n (hx.rho _ _ h)
 ·exact fun i sz k off b c n h hk => .elt i sz k off b c n (hx.rho _ _ h) hk
 ·exact fun i b c n h => .row i b c n (hx.rho _ _ h)
 ·exact fun i n sz b c m h => .lsl i n sz b c m (hx.rho _ _ h)
 ·exact fun i h => .rown i (hx.rho _ _ h)
 ·intro n sz el A cap vs hcap hA _ hl hn ih
  refine .slc n sz el A cap vs hcap (fun h0 => ?_) ih hl hn
  obtain ⟨ad, rfl, hI, hc⟩ := hA h0
  refine ⟨ad, rfl, hx.imm _ hI, fun k hk j hj => ?_⟩
  exact (cell_of_blk (by simpa [add_block] using hx.blk _ hI)).trans (hc k hk j hj)
 ·intro l ad vs _ hI hc hn ih
  refine .xp l ad vs ih (fun h => hx.imm _ (hI h)) (fun j hj => ?_) hn
  have hl : l ≠ [] := by rintro rfl; simp at hj
  exact (cell_of_blk (by simpa [add_block] using hx.blk _ (hI hl))).trans (hc j hj)
 ·exact fun f l m vs ws _ _ h h' => .fn f l m vs ws h h'
 ·intro n sz el A vs hI hc _ hl hn ih
  exact .pa n sz el A vs ⟨hI.1, fun ad e => hx.imm _ (hI.2 ad e)⟩ (fun ad e k hk j hj => (cell_of_blk (by simpa [add_block] using hx.blk _ (hI.2 ad e))).trans (hc ad e k hk j hj)) ih hl hn
 ·exact fun i b c n h => .mp i b c n (hx.rho _ _ h)
 ·exact .nil
 ·exact fun a l v vs _ _ h h' => .cons a l v vs h h'
theorem RelL.mono (hx : Cext C w C' w') : ∀ {l : List AV} {vs : List Value}, RelL C w l vs -> RelL C' w' l vs
 | _, _, .nil => .nil
 | _, _, .cons a l v vs h h' => .cons a l v vs (Rel.mono hx h) (RelL.mono hx h')
theorem RelL.len : ∀ {l : List AV} {vs : List Value}, RelL C w l vs -> l.length = vs.length
 | _, _, .nil => rfl
 | _, _, .cons _ _ _ _ _ h => by simp [RelL.len h]
theorem RelL.get : ∀ {l : List AV} {vs : List Value} {i : Nat} {a : AV}, RelL C w l vs -> l[i]? = some a -> ∃ v, vs[i]? = some v /\ Rel C w a v
 | _, _, 0, _, .cons _ _ v _ h _, e => by simp at e; subst e; exact ⟨v, rfl, h⟩
 | _, _, i + 1, _, .cons _ _ _ _ _ h', e => by simpa using RelL.get (i := i) h' (by simpa using e)
theorem RelL.append {l m : List AV} {vs ws : List Value} (h : RelL C w l vs) (h' : RelL C w m ws) : RelL C w (l ++ m) (vs ++ ws) := by
 induction l generalizing vs with
 | nil => cases h; exact h'
 | cons a l ih => cases h with | cons _ _ v vs h0 h1 => exact .cons _ _ _ _ h0 (ih h1)
theorem RelL.drop (n : Nat) : ∀ {l : List AV} {vs : List Value}, RelL C w l vs -> RelL C w (l.drop n) (vs.drop n) := by
 induction n with
 | zero => intro l vs h; simpa using h
 | succ n ih => intro l vs h; cases h with
   | nil => simp; exact .nil
   | cons _ _ _ _ _ h => simpa using ih h
theorem RelL.take (n : Nat) : ∀ {l : List AV} {vs : List Value}, RelL C w l vs -> RelL C w (l.take n) (vs.take n) := by
 induction n with
 | zero => intro l vs h; simp; exact .nil
 | succ n ih => intro l vs h; cases h with
   | nil => simp; exact .nil
   | cons _ _ _ _ h0 h => simpa using RelL.cons _ _ _ _ h0 (ih h)
end
theorem dropL_eq : ∀ (l : List AV) (n : Nat), dropL l n = l.drop n
 | [], 0 => rfl
 | _ :: _, 0 => rfl
 | [], n + 1 => by simp [dropL]
 | _ :: l, n + 1 => by simp [dropL, dropL_eq l n]
theorem takeL_eq : ∀ (l : List AV) (n : Nat), takeL l n = l.take n
 | [], 0 => rfl
 | _ :: _, 0 => rfl
 | [], n + 1 => by simp [takeL]
 | _ :: l, n + 1 => by simp [takeL, takeL_eq l n]
theorem appL_eq : ∀ (l m : List AV), appL l m = l ++ m
 | [], _ => rfl
 | _ :: l, m => by simp [appL, appL_eq l m]
theorem appH_eq : ∀ (l m : Heap), appH l m = l ++ m
 | [], _ => rfl
 | _ :: l, m => by simp [appH, appH_eq l m]
theorem getL_eq : ∀ (l : List AV) (n : Nat), getL l n = l.getD n (.tup [])
 | [], _ => rfl
 | _ :: _, 0 => rfl
 | _ :: l, n + 1 => by rw [getL_succ, getL_eq l n]; simp
theorem setL_eq : ∀ (l : List AV) (n : Nat) (a : AV), setL l n a = l.set n a
 | [], _, _ => rfl
 | _ :: _, 0, _ => rfl
 | _ :: l, n + 1, a => by simp [setL, setL_eq l n a]
theorem getB_eq : ∀ (l : Heap) (n : Nat), getB l n = l.getD n .dead
 | [], _ => rfl
 | _ :: _, 0 => rfl
 | _ :: l, n + 1 => by simp [getB, getB_eq l n]
theorem setB_eq : ∀ (l : Heap) (n : Nat) (a : Blk), setB l n a = l.set n a
 | [], _, _ => rfl
 | _ :: _, 0, _ => rfl
 | _ :: l, n + 1, a => by simp [setB, setB_eq l n a]
theorem forceV_eq (a : AV) (k : AV -> VC) : forceV a k = k a := by cases a <;> rfl
theorem forceL_eq : ∀ (l : List AV) (k : List AV -> VC), forceL l k = k l
 | [], _ => rfl
 | a :: l, k => by rw [forceL_cons, forceV_eq, forceL_eq l]
theorem forceD_eq (a : AV) (k : AV -> VC) : forceD a k = k a := by cases a <;> simp [forceD, forceV_eq, forceL_eq]
theorem forceLD_eq : ∀ (l : List AV) (k : List AV -> VC), forceLD l k = k l
 | [], _ => rfl
 | a :: l, k => by simp [forceLD, forceD_eq, forceLD_eq l]
theorem forceB_eq (a : Blk) (k : Blk -> VC) : forceB a k = k a := by cases a <;> simp [forceB, forceL_eq]
theorem forceH_eq : ∀ (l : Heap) (k : Heap -> VC), forceH l k = k l
 | [], _ => rfl
 | a :: l, k => by simp [forceH, forceB_eq, forceH_eq l]
def holeB (ho : Option (Nat × Option Nat)) (k : Nat) : Prop := ∃ x, ho = some (k, x)
def SubOwn (C : Cx) (w : World) (b k : Nat) (e' : TypeId) (sz n : Nat) (el : Nat -> List AV) (v : Value) : Prop :=
 (n = 0 /\ v = .slice none 0 0) \/ ∃ (b' c' : Nat) (cs : Array Value) (vs : Nat -> List Value), v = .slice (some ⟨b', 0, none⟩) n c' /\ C.O b' = some (b, k) /\ n <= c' /\ c' <= maxLen /\ w.heap[b']? = some (.cells cs e' (0, 0)) /\ cs.size = c' * sz /\
  ∀ q, q < n -> RelL C w (el q) (vs q) /\ okL (el q) = true /\ (vs q).length = sz /\ ∀ j, j < sz -> cs[q * sz + j]? = (vs q)[j]?
def BRel (C : Cx) (w : World) : Pl -> Blk -> Prop
 | .at b _ _, .cells t l => ∃ vs, RelL C w l vs /\ w.heap[b]? = some (.cells ⟨vs⟩ t (0, 0))
 | .at b cap n, .row e sz m el => m.val = n /\ n <= cap /\ (0 < sz /\ cap <= maxLen) /\ ∃ (cs : Array Value) (vs : Nat -> List Value), w.heap[b]? = some (.cells cs e (0, 0)) /\ cs.size = cap * sz /\
   ∀ k, k < n -> RelL C w (el k) (vs k) /\ okL (el k) = true /\ (vs k).length = sz /\ ∀ j, j < sz -> cs[k * sz + j]? = (vs k)[j]?
 | .nil, .row _ sz m _ => m.val = 0 /\ 0 < sz
 | .at b cap n, .mat t wd m f => m.val = n /\ n <= cap /\ (0 < wd /\ cap <= maxLen) /\ ∃ cs : Array Value, w.heap[b]? = some (.cells cs t (0, 0)) /\ cs.size = cap * wd /\
   ∀ k, k < n -> ∀ j, j < wd -> okC (f k j) = true /\ ∃ v, cs[k * wd + j]? = some v /\ Rel C w (f k j) v
 | .at b cap n, .rows e e' sz m fz ln el ho => m.val = n /\ n <= cap /\ (0 < sz /\ cap <= maxLen) /\ ∃ cs : Array Value, w.heap[b]? = some (.cells cs e (0, 0)) /\ cs.size = cap /\
   ∀ k, k < n -> ∃ v, cs[k]? = some v /\ (∀ h, ho = some (k, some h) -> Rel C w (.row h) v) /\ (¬ holeB ho k -> (fz k = true -> Rel C w (.slc (.sym (ln k)) sz (el k)) v) /\ (fz k = false -> SubOwn C w b k e' sz (ln k) (el k) v))
 | .at b _ _, .tab m sz el => ∃ (es : Array MapEntry) (clock : Nat) (vs : Nat -> List Value), w.heap[b]? = some (.map es clock) /\ es.size = m.val /\
   ∀ k, k < m.val -> RelL C w (el k) (vs k) /\ okL (el k) = true /\ (vs k).length = sz + 1 /\ ∃ e, es[k]? = some e /\ e.key = .agg ⟨(vs k).take sz⟩ /\ (vs k)[sz]? = some e.val
 | _, _ => False
def CellB (w : World) (b : Nat) : Prop := ∃ cs t fz, w.heap[b]? = some (.cells cs t fz)
theorem CellB.keep {w w' : World} {b : Nat} (h : CellB w b) (e : w'.heap[b]? = w.heap[b]?) : CellB w' b := by
 obtain ⟨cs, t, fz, h1⟩ := h
 exact ⟨cs, t, fz, e.trans h1⟩
structure HR (C : Cx) (H : Heap) (w : World) : Prop where
 live : ∀ i p, C.ρ i = some p -> BRel C w p (getB H i)
 inj : ∀ i j b c n b' c' n', C.ρ i = some (.at b c n) -> C.ρ j = some (.at b' c' n') -> i ≠ j -> b ≠ b'
 fresh : ∀ i b c n, C.ρ i = some (.at b c n) -> b < w.heap.size /\ ¬ C.I b
 ilt : ∀ b, C.I b -> b < w.heap.size
 sub : ∀ b x, C.O b = some x -> b < w.heap.size /\ ¬ C.I b /\ (∀ i b' c n, C.ρ i = some (.at b' c n) -> b' ≠ b) /\ CellB w b
structure Since (h : Nat) (C0 : Cx) (w0 : World) (C : Cx) (w : World) : Prop where
 os : w.os = w0.os
 tape : w.tape = w0.tape
 output : w.output = w0.output
 size : w0.heap.size <= w.heap.size
 keep : ∀ k, k < w0.heap.size -> (∀ i b c n, i < h -> C0.ρ i = some (.at b c n) -> b ≠ k) -> w.heap[k]? = w0.heap[k]?
 imm : ∀ b, C0.I b -> C.I b
 imm' : ∀ b, C.I b -> C0.I b \/ w0.heap.size <= b
 rho : ∀ i, i < h -> C.ρ i = C0.ρ i
 own : ∀ i b c n, h <= i -> C.ρ i = some (.at b c n) -> w0.heap.size <= b
 sub : ∀ b x, C.O b = some x -> w0.heap.size <= b
def Fn (P : Program) (f : FuncId) (args : List AV) (H : Heap) (r : AV) (H' : Heap) : Prop :=
 ∀ (C : Cx) (w : World) (vs : List Value), (∀ b, C.O b = none) -> HR C H w -> RelL C w args vs ->
   Calls P f ⟨vs⟩ w fun e w' => ∃ v C', e = .returned v /\ HR C' H' w' /\ Rel C' w' r v /\ Since H.length C w C' w'
structure SinceJ (j h : Nat) (C0 : Cx) (w0 : World) (C : Cx) (w : World) : Prop where
 jlt : j < h
 os : w.os = w0.os
 tape : w.tape = w0.tape
 output : w.output = w0.output
 size : w0.heap.size <= w.heap.size
 keep : ∀ k, k < w0.heap.size -> (∀ i b c n, C0.ρ i = some (.at b c n) -> b ≠ k) -> w.heap[k]? = w0.heap[k]?
 imm : ∀ b, C0.I b -> C.I b
 imm' : ∀ b, C.I b -> C0.I b \/ w0.heap.size <= b \/ ∃ c n, C0.ρ j = some (.at b c n)
 rho : ∀ i, i < h -> i ≠ j -> C.ρ i = C0.ρ i
 own : ∀ i b c n, (i = j \/ h <= i) -> C.ρ i = some (.at b c n) -> (∃ c' n', C0.ρ j = some (.at b c' n')) \/ w0.heap.size <= b
 sub : ∀ b x, C.O b = some x -> w0.heap.size <= b \/ ∃ c n, C0.ρ j = some (.at b c n)
def FnJ (P : Program) (f : FuncId) (args : List AV) (H : Heap) (r : AV) (H' : Heap) (j : Nat) : Prop :=
 ∀ (C : Cx) (w : World) (vs : List Value), (∀ b, C.O b = none) -> HR C H w -> RelL C w args vs ->
   Calls P f ⟨vs⟩ w fun e w' => ∃ v C', e = .returned v /\ HR C' H' w' /\ Rel C' w' r v /\ SinceJ j H.length C w C' w'
def FnM (P : Program) (f : FuncId) (args : List AV) (H : Heap) (r : AV) (H' : Heap) : Option Nat -> Prop
 | none => Fn P f args H r H'
 | some j => FnJ P f args H r H' j
end Abs
end Go.Proofs.Ytdfdjlijghjdaaa

namespace Go.Proofs.Ytdfdjlijghjdaaa
namespace Abs
open Go Go.RowKit
structure Grow (base n : Nat) (C : Cx) (w : World) (C' : Cx) (w' : World) : Prop where
 os : w'.os = w.os
 tape : w'.tape = w.tape
 output : w'.output = w.output
 size : w.heap.size <= w'.heap.size
 keep : ∀ k, k < w.heap.size -> w'.heap[k]? = w.heap[k]?
 imm : ∀ b, C.I b -> C'.I b
 imm' : ∀ b, C'.I b -> C.I b \/ w.heap.size <= b
 rho : ∀ i, (i < base \/ base + n <= i) -> C'.ρ i = C.ρ i
 own : ∀ i b c m, base <= i -> i < base + n -> C'.ρ i = some (.at b c m) -> w.heap.size <= b
 sub : ∀ b, C'.O b = C.O b
theorem Grow.refl (base : Nat) (C : Cx) (w : World) : Grow base 0 C w C w :=
 ⟨rfl, rfl, rfl, Nat.le_refl _, fun _ _ => rfl, fun _ h => h, fun _ h => .inl h, fun _ _ => rfl, fun _ _ _ _ h h' => by omega, fun _ => rfl⟩
section
variable {C C' : Cx} {w w' : World} {H : Heap} {base n : Nat}
theorem Grow.cext (h : Grow base n C w C' w') (hn : ∀ i, base <= i -> i < base + n -> C.ρ i = none) (hi : ∀ b, C.I b -> b < w.heap.size) : Cext C w C' w' := by
 refine ⟨fun i p hp => ?_, h.imm, fun b hb => h.keep b (hi b hb)⟩
 by_cases hr : i < base \/ base + n <= i
 ·rw [h.rho i hr, hp]
 ·rw [hn i (by omega) (by omega)] at hp; cases hp
def SubKeep (C : Cx) (w : World) (C' : Cx) (w' : World) : Prop := ∀ b x, C.O b = some x -> C'.O b = some x /\ w'.heap[b]? = w.heap[b]?
theorem SubOwn.mono {b k : Nat} {e' : TypeId} {sz n : Nat} {el : Nat -> List AV} {v : Value} (hs : SubKeep C w C' w') (hx : ∀ {l : List AV} {vs : List Value}, okL l = true -> RelL C w l vs -> RelL C' w' l vs) (h : SubOwn C w b k e' sz n el v) : SubOwn C' w' b k e' sz n el v := by
 rcases h with h | ⟨b', c', cs, vs, h1, h2, h3, h4, h5, h6, h7⟩
 ·exact .inl h
 ·exact .inr ⟨b', c', cs, vs, h1, (hs _ _ h2).1, h3, h4, (hs _ _ h2).2.trans h5, h6, fun q hq => ⟨hx (h7 q hq).2.1 (h7 q hq).1, (h7 q hq).2⟩⟩
theorem BRel.mono (hx : Cext C w C' w') {p : Pl} {b : Blk} (hb : ∀ q c m, p = .at q c m -> w'.heap[q]? = w.heap[q]?) (hs : SubKeep C w C' w') (h : BRel C w p b) : BRel C' w' p b := by
 match p, b, h with
 | .at q c m, .mat t wd k f, h =>
   obtain ⟨h1, h2, h3, cs, hh, hs, hc⟩ := h
   exact ⟨h1, h2, h3, cs, (hb q c m rfl).trans hh, hs, fun k hk j hj => by
    obtain ⟨ho, v, hv, hr⟩ := hc k hk j hj
    exact ⟨ho, v, hv, hr.mono hx⟩⟩
 | .at q c m, .rows e e' sz k fz ln el ho, h =>
   obtain ⟨h1, h2, h3, cs, hh, hz, hc⟩ := h
   exact ⟨h1, h2, h3, cs, (hb q c m rfl).trans hh, hz, fun k hk => by
    obtain ⟨v, hv, hr, hn⟩ := hc k hk
    exact ⟨v, hv, fun h e => (hr h e).mono hx, fun hno => ⟨fun hf => ((hn hno).1 hf).mono hx, fun hf => ((hn hno).2 hf).mono hs fun _ h => h.mono hx⟩⟩⟩
 | .at q c m, .cells t l, h =>
   obtain ⟨vs, hr, hh⟩ := h
   exact ⟨vs, hr.mono hx, (hb q c m rfl).trans hh⟩
 | .at q c m, .row e sz k el, h =>
   obtain ⟨h1, h2, h3, cs, vs, hh, hs, hc⟩ := h
   exact ⟨h1, h2, h3, cs, vs, (hb q c m rfl).trans hh, hs, fun k hk => ⟨(hc k hk).1.mono hx, (hc k hk).2⟩⟩
 | .at q c m, .tab k sz el, h =>
   obtain ⟨es, ck, vs, hh, hs, hc⟩ := h
   exact ⟨es, ck, vs, (hb q c m rfl).trans hh, hs, fun k hk => ⟨(hc k hk).1.mono hx, (hc k hk).2⟩⟩
 | .nil, .row e sz k el, h => exact h
theorem heap_alloc (w : World) (o : Obj) (k : Nat) (hk : k < w.heap.size) : (w.alloc o).heap[k]? = w.heap[k]? := by
 show (w.heap.push o)[k]? = _
 rw [Array.getElem?_push, if_neg (by omega)]
theorem heap_alloc_self (w : World) (o : Obj) : (w.alloc o).heap[w.heap.size]? = some o := by
 show (w.heap.push o)[w.heap.size]? = _
 simp
def Cx.put (C : Cx) (j : Nat) (p : Pl) : Cx := { C with ρ := fun i => if i = j then some p else C.ρ i }
theorem Cx.put_ne {j i : Nat} {p : Pl} (h : i ≠ j) : (C.put j p).ρ i = C.ρ i := by simp [Cx.put, h]
theorem Cx.put_eq {j : Nat} {p : Pl} : (C.put j p).ρ j = some p := by simp [Cx.put]
theorem Grow.new (C : Cx) (w : World) (j cap n : Nat) (o : Obj) : Grow j 1 C w (C.put j (.at w.heap.size cap n)) (w.alloc o) :=
 ⟨rfl, rfl, rfl, by simp, fun k hk => heap_alloc w o k hk, fun _ h => h, fun _ h => .inl h, fun i hi => Cx.put_ne (by omega),
  fun i b c m h1 h2 h => (by
   obtain rfl : i = j := by omega
   rw [Cx.put_eq] at h; injection h with h; injection h with h; omega), fun _ => rfl⟩
theorem Grow.newNil (C : Cx) (w : World) (j : Nat) : Grow j 1 C w (C.put j .nil) w :=
 ⟨rfl, rfl, rfl, Nat.le_refl _, fun k hk => rfl, fun _ h => h, fun _ h => .inl h, fun i hi => Cx.put_ne (by omega),
  fun i b c m h1 h2 h => (by
   obtain rfl : i = j := by omega
   rw [Cx.put_eq] at h; injection h with h; cases h), fun _ => rfl⟩
theorem HR.new (h : HR C H w) {j cap n : Nat} (hj : C.ρ j = none) {o : Obj} (hb : BRel (C.put j (.at w.heap.size cap n)) (w.alloc o) (.at w.heap.size cap n) (getB H j)) :
  HR (C.put j (.at w.heap.size cap n)) H (w.alloc o) := by
 have hx : Cext C w (C.put j (.at w.heap.size cap n)) (w.alloc o) := (Grow.new C w j cap n o).cext (fun i h1 h2 => (show i = j by omega) ▸ hj) h.ilt
 refine ⟨fun i p hp => ?_, fun i i' b c m b' c' m' hp hp' hne => ?_, fun i b c m hp => ?_, fun b hb => Nat.lt_of_lt_of_le (h.ilt b hb) (by simp), fun b x hb => ?_⟩
 ·by_cases hi : i = j
  ·subst hi; rw [Cx.put_eq] at hp; injection hp with hp; subst hp; exact hb
  ·rw [Cx.put_ne hi] at hp
   refine (h.live i p hp).mono hx (fun q c m hq => heap_alloc w o q ?_) fun b x hb => ⟨hb, heap_alloc w o b (h.sub b x hb).1⟩
   subst hq; exact (h.fresh i q c m hp).1
 ·by_cases hi : i = j
  ·by_cases hi' : i' = j
   ·omega
   ·subst hi; rw [Cx.put_eq] at hp; rw [Cx.put_ne hi'] at hp'
    injection hp with hp; injection hp with hp _ _
    have := (h.fresh _ _ _ _ hp').1; omega
  ·rw [Cx.put_ne hi] at hp
   by_cases hi' : i' = j
   ·subst hi'; rw [Cx.put_eq] at hp'
    injection hp' with hp'; injection hp' with hp' _ _
    have := (h.fresh _ _ _ _ hp).1; omega
   ·rw [Cx.put_ne hi'] at hp'; exact h.inj _ _ _ _ _ _ _ _ hp hp' hne
 ·by_cases hi : i = j
  ·subst hi; rw [Cx.put_eq] at hp; injection hp with hp; injection hp with hp _ _
   subst hp
   exact ⟨by simp, fun hI => by have := h.ilt _ hI; omega⟩
  ·rw [Cx.put_ne hi] at hp
   exact ⟨Nat.lt_of_lt_of_le (h.fresh _ _ _ _ hp).1 (by simp), (h.fresh _ _ _ _ hp).2⟩
 ·obtain ⟨s1, s2, s3, s4⟩ := h.sub b x hb
  refine ⟨Nat.lt_of_lt_of_le s1 (by simp), s2, fun i b' c m hp => ?_, s4.keep (heap_alloc w o b s1)⟩
  by_cases hi : i = j
  ·subst hi; rw [Cx.put_eq] at hp; injection hp with hp; injection hp with hp _ _
   omega
  ·rw [Cx.put_ne hi] at hp; exact s3 i b' c m hp
theorem HR.newNil (h : HR C H w) {j : Nat} (hj : C.ρ j = none) (hb : BRel (C.put j .nil) w .nil (getB H j)) : HR (C.put j .nil) H w := by
 have hx : Cext C w (C.put j .nil) w := (Grow.newNil C w j).cext (fun i h1 h2 => (show i = j by omega) ▸ hj) h.ilt
 have key : ∀ i b c m, (C.put j .nil).ρ i = some (.at b c m) -> C.ρ i = some (.at b c m) := fun i b c m hp => by
  by_cases hi : i = j
  ·subst hi; rw [Cx.put_eq] at hp; injection hp with hp; cases hp
  ·rwa [Cx.put_ne hi] at hp
 refine ⟨fun i p hp => ?_, fun i i' b c m b' c' m' hp hp' hne => h.inj _ _ _ _ _ _ _ _ (key _ _ _ _ hp) (key _ _ _ _ hp') hne, fun i b c m hp => h.fresh _ _ _ _ (key _ _ _ _ hp), h.ilt, fun b x hb => ⟨(h.sub b x hb).1, (h.sub b x hb).2.1, fun i b' c m hp => (h.sub b x hb).2.2.1 i b' c m (key _ _ _ _ hp), (h.sub b x hb).2.2.2⟩⟩
 by_cases hi : i = j
 ·subst hi; rw [Cx.put_eq] at hp; injection hp with hp; subst hp; exact hb
 ·rw [Cx.put_ne hi] at hp
  exact (h.live i p hp).mono hx (fun q c m hq => rfl) fun b x hb => ⟨hb, rfl⟩
end
inductive PO (S : Sums) (hp : Heap) : AR -> AV -> Heap -> Prop
 | val (a : AV) : PO S hp (.val a) a []
 | need (p : Cd) (r : AR) (a : AV) (new : Heap) (h : p.ok) (h' : PO S hp r a new) : PO S hp (.need p r) a new
 | brt (t e : AR) (a : AV) (new : Heap) (h : PO S hp t a new) : PO S hp (.br true t e) a new
 | brf (t e : AR) (a : AV) (new : Heap) (h : PO S hp e a new) : PO S hp (.br false t e) a new
 | blk (b : Blk) (mk : Nat -> AV) : PO S hp (.blk b mk) (mk hp.length) [b]
 | call (f : FuncId) (args : List AV) (s1 : Summ) (pre : List Cd) (res : AV) (new : Heap) (h2 : findS S.two f = none) (h1 : findS S.one f = some s1)
   (hs : s1 (args.map (expA 5 hp)) = some ⟨pre, res, new⟩) (hg : callOK args res new = true) (hpre : ∀ p ∈ pre, p.ok) (hcn : ∀ p ∈ callNeeds args new, p.ok) :
   PO S hp (.call f args) (shiftA hp.length res) (shiftH hp.length new)
end Abs
end Go.Proofs.Ytdfdjlijghjdaaa

namespace Go.Proofs.Ytdfdjlijghjdaaa
namespace Abs
open Go Go.RowKit
section
variable {P : Program} {C C' : Cx} {w w' : World} {H : Heap}
theorem info_of_underlying {t : TypeId} {d : TypeDesc} (h : P.underlying t = some d) : ∃ i, P.info? t = some i := by
 unfold Program.underlying at h
 cases hi : P.info? t with
 | none => simp [hi] at h
 | some i => exact ⟨i, rfl⟩
theorem run_sizeT {t : TypeId} {i : TypeInfo} (h : P.info? t = some i) (w : World) : (sizeOf t).run P w = .ok (sizeT P t) w := by
 simp [sizeOf, typeInfo, h, sizeT]
theorem run_isAgg {t : TypeId} {b : Bool} (h : isAgg P t = some b) (w : World) : (Go.isAgg t).run P w = .ok b w := by
 unfold isAgg at h
 cases hd : P.underlying t with
 | none => simp [hd] at h
 | some d => cases d <;> simp [hd] at h <;> subst h <;> simp [Go.isAgg, run_underlying hd]
theorem isAgg_info {t : TypeId} {b : Bool} (h : isAgg P t = some b) : ∃ i, P.info? t = some i := by
 unfold isAgg at h
 cases hd : P.underlying t with
 | none => simp [hd] at h
 | some d => exact info_of_underlying hd
theorem run_part_load {t : TypeId} {ad : Addr} {l : List AV} {vs : List Value} {a : AV} (hr : RelL C w l vs) (hc : ∀ j, j < l.length -> w.cell? (ad.add j) = vs[j]?)
  (hp : partL P t l = .val a) : ∃ v, (loadVar t ad).run P w = .ok v w /\ Rel C w a v := by
 have hlen := hr.len
 unfold partL at hp
 cases hg : isAgg P t with
 | none => simp [hg] at hp
 | some b =>
   obtain ⟨i, hi⟩ := isAgg_info hg
   cases b with
   | true =>
     simp only [hg] at hp
     by_cases hs : sizeT P t <= l.length
     ·simp [hs, takeL_eq] at hp
      subst hp
      refine ⟨.agg ⟨vs.take (sizeT P t)⟩, ?_, .agg _ _ (hr.take _)⟩
      have hrun := run_loadCells_list (P := P) (w := w) ad (vs.take (sizeT P t)) (fun j v hj => by
       have hj' := hj
       rw [List.getElem?_take] at hj
       split at hj
       ·rename_i hlt
        have : j < l.length := by omega
        rw [hc j this, hj]
       ·cases hj)
      have hl2 : (vs.take (sizeT P t)).length = sizeT P t := by rw [List.length_take]; omega
      rw [hl2] at hrun
      simp [loadVar, run_isAgg hg, run_sizeT hi, hrun]
     ·simp [hs] at hp
   | false =>
     simp only [hg] at hp
     match l, vs, hr, hp with
     | a' :: l', v :: vs', .cons _ _ _ _ h0 h1, hp =>
       simp at hp; subst hp
       refine ⟨v, ?_, h0⟩
       have := hc 0 (by simp)
       simp [Addr.add] at this
       simp [loadVar, run_isAgg hg, load, Sem.run, this]
theorem run_part_fix {t : TypeId} {ad : Addr} {l : List AV} {vs : List Value} {a : AV} (hr : RelL C w l vs) (hp : partL P t l = .val a) :
  ∃ v, Rel C w a v /\ ∀ w' : World, (∀ j, j < l.length -> w'.cell? (ad.add j) = vs[j]?) -> (loadVar t ad).run P w' = .ok v w' := by
 have hlen := hr.len
 unfold partL at hp
 cases hg : isAgg P t with
 | none => simp [hg] at hp
 | some b =>
   obtain ⟨i, hi⟩ := isAgg_info hg
   cases b with
   | true =>
     simp only [hg] at hp
     by_cases hs : sizeT P t <= l.length
     ·simp [hs, takeL_eq] at hp
      subst hp
      refine ⟨.agg ⟨vs.take (sizeT P t)⟩, .agg _ _ (hr.take _), fun w' hc => ?_⟩
      have hrun := run_loadCells_list (P := P) (w := w') ad (vs.take (sizeT P t)) (fun j v hj => by
       have hj' := hj
       rw [List.getElem?_take] at hj
       split at hj
       ·rename_i hlt
        have : j < l.length := by omega
        rw [hc j this, hj]
       ·cases hj)
      have hl2 : (vs.take (sizeT P t)).length = sizeT P t := by rw [List.length_take]; omega
      rw [hl2] at hrun
      simp [loadVar, run_isAgg hg, run_sizeT hi, hrun]
     ·simp [hs] at hp
   | false =>
     simp only [hg] at hp
     match l, vs, hr, hp with
     | a' :: l', v :: vs', .cons _ _ _ _ h0 h1, hp =>
       simp at hp; subst hp
       refine ⟨v, h0, fun w' hc => ?_⟩
       have := hc 0 (by simp)
       simp [Addr.add] at this
       simp [loadVar, run_isAgg hg, load, Sem.run, this]
theorem run_part {t : TypeId} {cs : List Value} {off : Nat} {l : List AV} {a : AV} (hr : RelL C w l (cs.drop off)) (hp : partL P t l = .val a) :
  ∃ v, (part t ⟨cs⟩ off).run P w = .ok v w /\ Rel C w a v := by
 have hlen := hr.len
 unfold partL at hp
 cases hg : isAgg P t with
 | none => simp [hg] at hp
 | some b =>
   obtain ⟨i, hi⟩ := isAgg_info hg
   cases b with
   | true =>
     simp only [hg] at hp
     by_cases hs : sizeT P t <= l.length
     ·simp [hs, takeL_eq] at hp
      subst hp
      refine ⟨.agg ⟨(cs.drop off).take (sizeT P t)⟩, ?_, .agg _ _ (hr.take _)⟩
      simp [part, run_isAgg hg, run_sizeT hi]
     ·simp [hs] at hp
   | false =>
     simp only [hg] at hp
     match l, hd : cs.drop off, hr, hp with
     | a' :: l', v :: vs', .cons _ _ _ _ h0 h1, hp =>
       simp at hp; subst hp
       refine ⟨v, ?_, h0⟩
       have hv : cs[off]? = some v := by
        have := congrArg (fun l => l[0]?) hd
        simpa using this
       simp [part, run_isAgg hg, hv]
theorem cell_add {b : Nat} {cs : Array Value} {t : TypeId} {fr : Nat × Nat} (h : w.heap[b]? = some (.cells cs t fr)) (off j : Nat) :
  w.cell? ((⟨b, off, none⟩ : Addr).add j) = cs[off + j]? := by
 unfold Addr.add
 by_cases hj : j = 0 <;> simp [hj, World.cell?, h]
theorem own_drop (n : Nat) : ∀ {l : List AV}, ownIn.ownInL l = false -> ownIn.ownInL (l.drop n) = false := by
 induction n with
 | zero => intro l h; simpa using h
 | succ n ih => intro l h; cases l with
   | nil => simpa using h
   | cons a l => simp [ownIn.ownInL] at h; simpa using ih h.2
theorem run_load {hp : Heap} {t : TypeId} {x a : AV} {v : Value} (hH : HR C H w) (hpre : ∀ i, i < hp.length -> getB H i = getB hp i) (hx : Rel C w x v) (h : loadA P hp t x = .val a) :
  ∃ u, (Instr.loadAt t v).run P w = .ok u w /\ Rel C w a u := by
 have old : ∀ i b, getB hp i = b -> b ≠ .dead -> getB H i = b := fun i b hb hne => by
  rw [hpre i, hb]
  rcases Nat.lt_or_ge i hp.length with hlt | hge
  ·exact hlt
  ·rw [getB_eq, List.getD_eq_getElem?_getD, List.getElem?_eq_none hge, Option.getD_none] at hb; exact absurd hb.symm hne
 cases hx with
 | own i off b c n hρ =>
   simp only [loadA] at h
   cases hb : getB hp i with
   | cells t' l =>
     simp only [hb] at h
     have hl := hH.live i _ hρ
     rw [old i _ hb (by simp)] at hl
     obtain ⟨vs, hr, hh⟩ := hl
     rw [dropL_eq] at h
     have := run_part_load (P := P) (t := t) (ad := ⟨b, off, none⟩) (hr.drop off) (fun j hj => by
      rw [cell_add hh]; simp [List.getElem?_drop]) h
     simpa [Instr.loadAt, Instr.sureAddr] using this
   | _ => simp [hb] at h
 | elt i sz k off b c n hρ hk =>
   simp only [loadA] at h
   cases hb : getB hp i with
   | row e sz' m el =>
     simp only [hb] at h
     have hl := hH.live i _ hρ
     rw [old i _ hb (by simp)] at hl
     obtain ⟨hm, hcap, hs0, cs, vs, hh, hsz, hcell⟩ := hl
     obtain ⟨hr, hno, hlv, hc⟩ := hcell k hk
     by_cases hq : Nat.beq sz sz' = true
     ·have e : sz = sz' := Nat.eq_of_beq_eq_true hq
      subst e
      simp only [hq] at h
      rw [dropL_eq] at h
      have := run_part_load (P := P) (t := t) (ad := ⟨b, k * sz + off, none⟩) (hr.drop off) (fun j hj => by
       have hlen := hr.len
       simp at hj
       rw [cell_add hh, Nat.add_assoc, hc (off + j) (by omega)]; simp [List.getElem?_drop]) h
      simpa [Instr.loadAt, Instr.sureAddr] using this
     ·simp [hq] at h
   | mat t' w' m f =>
     simp only [hb] at h
     exfalso
     revert h
     split <;> simp
   | rows e e' sz2 m fz ln el ho =>
     simp only [hb] at h
     exfalso
     revert h
     split <;> simp
   | _ => simp [hb] at h
 | xp l ad vs hr hI hc hn =>
   simp only [loadA] at h
   have := run_part_load (P := P) (t := t) (ad := ad) hr hc h
   simpa [Instr.loadAt, Instr.sureAddr] using this
 | _ => simp [loadA] at h
theorem run_one {t : TypeId} {ad : Addr} {v : Value} (hg : isAgg P t = some false) (h : w.cell? ad = some v) : (Instr.loadAt t (.pointer (some ad))).run P w = .ok v w := by
 simp [Instr.loadAt, Instr.sureAddr, loadVar, run_isAgg hg, load, Sem.run, h]
theorem run_loadN {hp : Heap} {t : TypeId} {x : AV} {v : Value} {p : Cd} {r : AR} (hH : HR C H w) (hpre : ∀ i, i < hp.length -> getB H i = getB hp i) (hx : Rel C w x v) (h : loadA P hp t x = .need p r) (hp' : p.ok) :
  ∃ a u, r = .val a /\ (Instr.loadAt t v).run P w = .ok u w /\ Rel C w a u := by
 have part : ∀ l, partL P t l = .need p r -> False := fun l h => by
  unfold partL at h
  split at h
  ·split at h <;> cases h
  ·split at h <;> cases h
  ·cases h
 cases hx with
 | own i off b c n hρ =>
   simp only [loadA] at h
   split at h
   ·exact (part _ h).elim
   ·cases h
 | xp l ad vs hr hI hc hn => exact (part _ h).elim
 | elt i sz k off b c n hρ hk =>
   simp only [loadA] at h
   have old : ∀ b, getB hp i = b -> b ≠ .dead -> getB H i = b := fun b hb hne => by
    rw [hpre i, hb]
    rcases Nat.lt_or_ge i hp.length with hlt | hge
    ·exact hlt
    ·rw [getB_eq, List.getD_eq_getElem?_getD, List.getElem?_eq_none hge, Option.getD_none] at hb; exact absurd hb.symm hne
   split at h
   ·split at h
    ·exact (part _ h).elim
    ·cases h
   ·rename_i t' wd m f hb
    split at h
    ·rename_i hq hg
     obtain rfl : sz = wd := Nat.eq_of_beq_eq_true hq
     injection h with h1 h2
     subst h1 h2
     have hl := hH.live i _ hρ
     rw [old _ hb (by simp)] at hl
     obtain ⟨hm, hcap, hs0, cs, hh, hsz, hcell⟩ := hl
     have hoff : off < sz := hp'
     obtain ⟨_, v, hv, hr⟩ := hcell k hk off hoff
     exact ⟨_, v, rfl, run_one hg (by simp [World.cell?, hh, hv]), hr⟩
    ·cases h
   ·rename_i e e' sz2 m fz ln el ho hb
    have hl := hH.live i _ hρ
    rw [old _ hb (by simp)] at hl
    obtain ⟨hm, hcap, hs0, cs, hh, hsz, hcell⟩ := hl
    obtain ⟨v, hv, hr, hn⟩ := hcell k hk
    split at h
    ·rename_i k0 hh0 hq hg
     simp only [Bool.and_eq_true] at hq
     obtain rfl : sz = 1 := Nat.eq_of_beq_eq_true hq.1
     obtain rfl : off = 0 := Nat.eq_of_beq_eq_true hq.2
     injection h with h1 h2
     subst h1 h2
     have hk0 : k = k0 := hp'
     subst hk0
     exact ⟨_, v, rfl, run_one hg (by simp [World.cell?, hh, hv]), hr _ rfl⟩
    ·rename_i hq hg
     simp only [Bool.and_eq_true] at hq
     obtain rfl : sz = 1 := Nat.eq_of_beq_eq_true hq.1
     obtain rfl : off = 0 := Nat.eq_of_beq_eq_true hq.2
     injection h with h1 h2
     subst h1 h2
     have hf : fz k = true := hp'
     exact ⟨_, v, rfl, run_one hg (by simp [World.cell?, hh, hv]), (hn (fun ⟨x, hx⟩ => by cases hx)).1 hf⟩
    ·cases h
   ·cases h
 | _ => simp [loadA] at h
end
end Abs
end Go.Proofs.Ytdfdjlijghjdaaa

namespace Go.Proofs.Ytdfdjlijghjdaaa
namespace Abs
open Go Go.RowKit
section
variable {P : Program} {S : Sums} {C : Cx} {w : World} {H hp : Heap}
theorem PO.val_inv {x a : AV} {new : Heap} (h : PO S hp (.val x) a new) : a = x /\ new = [] := by cases h; exact ⟨rfl, rfl⟩
theorem PO.need_inv {p : Cd} {r : AR} {a : AV} {new : Heap} (h : PO S hp (.need p r) a new) : p.ok /\ PO S hp r a new := by cases h; exact ⟨‹_›, ‹_›⟩
theorem PO.fail_inv {a : AV} {new : Heap} (h : PO S hp .fail a new) : False := by cases h
def Vd (P : Program) (S : Sums) (C : Cx) (w : World) (hp : Heap) (m : Sem Value) (r : AR) : Prop :=
 ∀ a new, PO S hp r a new -> new = [] /\ ∃ v, m.run P w = .ok v w /\ Rel C w a v
theorem Vd.fail (m : Sem Value) : Vd P S C w hp m .fail := fun _ _ h => h.fail_inv.elim
theorem Vd.val {m : Sem Value} {x : AV} {v : Value} (hr : m.run P w = .ok v w) (h : Rel C w x v) : Vd P S C w hp m (.val x) := fun a new hp => by
 obtain ⟨rfl, rfl⟩ := hp.val_inv; exact ⟨rfl, v, hr, h⟩
theorem Vd.need {m : Sem Value} {p : Cd} {r : AR} (h : p.ok -> Vd P S C w hp m r) : Vd P S C w hp m (.need p r) := fun a new hq => h hq.need_inv.1 a new hq.need_inv.2
theorem PO.br_inv {b : Bool} {t e : AR} {a : AV} {new : Heap} (h : PO S hp (.br b t e) a new) : (b = true /\ PO S hp t a new) \/ (b = false /\ PO S hp e a new) := by
 cases h with
 | brt _ _ _ _ h => exact .inl ⟨rfl, h⟩
 | brf _ _ _ _ h => exact .inr ⟨rfl, h⟩
theorem Vd.br {m : Sem Value} {b : Bool} {t e : AR} (h1 : b = true -> Vd P S C w hp m t) (h2 : b = false -> Vd P S C w hp m e) : Vd P S C w hp m (.br b t e) := fun a new hq => by
 rcases hq.br_inv with ⟨hb, h⟩ | ⟨hb, h⟩
 ·exact h1 hb a new h
 ·exact h2 hb a new h
theorem Vd.idx {m : Sem Value} {x : Int} {k : Nat -> AR} (h : ∀ j : Nat, x = (j : Int) -> Vd P S C w hp m (k j)) : ∀ n : Nat, 0 <= x -> x < (n : Int) -> Vd P S C w hp m (brIdx x k n)
 | 0, _, _ => .fail _
 | 1, h0, h1 => h 0 (by omega)
 | n + 2, h0, h1 => by
   unfold brIdx
   refine .br (fun hb => h (n + 1) ?_) (fun hb => Vd.idx h (n + 1) h0 ?_)
   ·unfold ieq at hb; simpa using hb
   ·unfold ieq at hb
    have : x ≠ ((n + 1 : Nat) : Int) := by simpa using hb
    omega
theorem kindOf_rel {a : AV} {v : Value} {k : IntKind} (h : Rel C w a v) (hk : kindOf a = some k) : v = .int k (intOf a) := by
 cases h <;> simp [kindOf] at hk <;> subst hk <;> rfl
theorem inR_wrap {k : IntKind} {n : Int} (h : InR k n) : k.wrap n = n := by
 unfold InR at h
 cases k <;> simp [IntKind.min, IntKind.max, IntKind.signed, IntKind.bits] at h <;> simp [IntKind.wrap, IntKind.signed, IntKind.bits] <;> omega
theorem inRB_wrap {k : IntKind} {n : Int} (h : inRB k n = true) : k.wrap n = n := inR_wrap (by simpa [inRB, InR] using h)
theorem vd_arith {m : Sem Value} {k : IntKind} {lit : Bool} {x y : Int} (hr : m.run P w = .ok (.int k (k.wrap (if lit then x else y))) w) : Vd P S C w hp m (arith k lit x y) := by
 unfold arith
 cases lit with
 | true =>
   simp only at hr ⊢
   split
   ·rename_i hb; exact .val (by simpa [inRB_wrap hb] using hr) (.li _ _)
   ·exact .val (by simpa using hr) (.li _ _)
 | false =>
   simp only at hr ⊢
   split
   ·exact .need fun (hb : InR k y) => .val (by simpa [inR_wrap hb] using hr) (.si _ _)
   ·exact .val (by simpa [iwrap] using hr) (.si _ _)
theorem vd_cmp {m : Sem Value} {lit x y : Bool} (hr : m.run P w = .ok (.bool x) w) (hy : y = x) : Vd P S C w hp m (cmpA lit x y) := by
 subst hy
 unfold cmpA; cases lit
 ·exact .val hr (.sb _)
 ·exact .val hr (.lb _)
theorem vd_arBin {op : BinOp} {k : IntKind} {lit bl : Bool} {a b : Int} {t : TypeId} (hop : isShiftOp op = false) :
  Vd P S C w hp (binOp op t (.int k a) (.int k b)) (arBin op k lit a b bl) := by
 cases op <;> simp [isShiftOp] at hop <;> unfold arBin <;> simp only
 case add => exact vd_arith (by cases lit <;> simp [go_sem, Op.intArith, iadd])
 case sub => exact vd_arith (by cases lit <;> simp [go_sem, Op.intArith, isub])
 case mul => exact vd_arith (by cases lit <;> simp [go_sem, Op.intArith, imul])
 case quo =>
  have key : b ≠ 0 -> (binOp .quo t (.int k a) (.int k b)).run P w = .ok (.int k (k.wrap (a.tdiv b))) w := fun hb => by simp [binOp, Op.intDiv, hb]
  cases lit <;> simp only
  ·cases bl <;> simp only
   ·exact .need fun (hb : b ≠ 0) => vd_arith (by simpa [iquo] using key hb)
   ·by_cases hb : b = 0
    ·simp [hb]; exact .fail _
    ·simp [hb]; exact vd_arith (by simpa [iquo] using key hb)
  ·by_cases hb : b = 0
   ·simp [hb]; exact .fail _
   ·simp [hb]; exact vd_arith (by simpa using key hb)
 case rem =>
  have key : b ≠ 0 -> (binOp .rem t (.int k a) (.int k b)).run P w = .ok (.int k (a.tmod b)) w := fun hb => by simp [binOp, Op.intDiv, hb]
  cases lit <;> simp only
  ·cases bl <;> simp only
   ·exact .need fun (hb : b ≠ 0) => .val (by simpa [irem] using key hb) (.si _ _)
   ·by_cases hb : b = 0
    ·simp [hb]; exact .fail _
    ·simp [hb]; exact .val (by simpa [irem] using key hb) (.si _ _)
  ·by_cases hb : b = 0
   ·simp [hb]; exact .fail _
   ·simp [hb]; exact .val (by simpa using key hb) (.li _ _)
 case eql => exact vd_cmp (by simp [go_sem]) (by simp [ieq])
 case neq => exact vd_cmp (by simp [go_sem]) (by simp [ieq, bnot, bne])
 case lss => exact vd_cmp (by simp [go_sem]) (by simp [ilt])
 case leq => exact vd_cmp (by simp [go_sem]) (by simp [ile])
 case gtr => exact vd_cmp (by simp [go_sem]) (by simp [ilt])
 case geq => exact vd_cmp (by simp [go_sem]) (by simp [ile])
 case and => exact .val (by simp [go_sem, ibit]) (.si _ _)
 case or => exact .val (by simp [go_sem, ibit]) (.si _ _)
 case xor => exact .val (by simp [go_sem, ibit]) (.si _ _)
 all_goals exact .fail _
theorem run_shl {k yk : IntKind} {x y : Int} {t : TypeId} (h0 : 0 <= y) (h1 : y < k.bits) : (binOp .shl t (.int k x) (.int yk y)).run P w = .ok (.int k (k.wrap (x * 2 ^ y.toNat))) w := by
 have hm : min y.toNat k.bits = y.toNat := by omega
 simp [binOp, Op.shift, show ¬ y < 0 by omega, hm]
theorem run_shr {k yk : IntKind} {x y : Int} {t : TypeId} (h0 : 0 <= y) (h1 : y < k.bits) : (binOp .shr t (.int k x) (.int yk y)).run P w = .ok (.int k (x.fdiv (2 ^ y.toNat))) w := by
 have hm : min y.toNat k.bits = y.toNat := by omega
 simp [binOp, Op.shift, show ¬ y < 0 by omega, hm]
theorem vd_shift {op : BinOp} {t : TypeId} {a b : AV} {x y : Value} (ha : Rel C w a x) (hb : Rel C w b y) (hop : isShiftOp op = true) :
  Vd P S C w hp (binOp op t x y) (shiftOf op a b) := by
 unfold shiftOf
 cases hk : kindOf a with
 | none => exact .fail _
 | some k =>
   cases hk' : kindOf b with
   | none => exact .fail _
   | some k' =>
     rw [kindOf_rel ha hk, kindOf_rel hb hk']
     simp only
     split
     ·by_cases hr : 0 <= intOf b /\ intOf b < k.bits
      ·cases op <;> simp [isShiftOp] at hop <;> simp [hr]
       ·exact .val (run_shl hr.1 hr.2) (.li _ _)
       ·exact .val (run_shr hr.1 hr.2) (.li _ _)
      ·simp [hr]; exact .fail _
     ·cases op <;> simp [isShiftOp] at hop <;> simp only [arShift]
      ·refine .need fun hr => ?_
       cases hs : k.signed
       ·simp only; exact .val (by simpa [iwrap, ishl] using run_shl hr.1 hr.2) (.si _ _)
       ·simp only; exact .need fun hb => .val (by rw [run_shl hr.1 hr.2]; rw [show intOf a * 2 ^ (intOf b).toNat = ishl (intOf a) (intOf b) by simp [ishl], inR_wrap hb]) (.si _ _)
      ·exact .need fun hr => .val (by simpa [ishr] using run_shr hr.1 hr.2) (.si _ _)
theorem vd_not {a : AV} {v : Value} (h : Rel C w a v) : Vd P S C w hp (Op.unary .not v) (notA a) := by
 cases h <;> simp only [notA] <;> first | exact .fail _ | skip
 ·exact .val (by simp [Op.unary]) (.lb _)
 ·exact .val (by simp [Op.unary, bnot]) (.sb _)
end
end Abs
end Go.Proofs.Ytdfdjlijghjdaaa

namespace Go.Proofs.Ytdfdjlijghjdaaa
namespace Abs
open Go Go.RowKit
def EqOK (P : Program) (t : TypeId) (ks : List (Option IntKind)) : Prop :=
 (t < 1048576 -> P.eqGuardType P.depth t = false /\ ∀ (C : Cx) (w : World) (l m : List AV) (vs ws : List Value) (r : Bool), okKs ks l = true -> okKs ks m = true -> RelL C w l vs -> RelL C w m ws -> eqCells l m = some r ->
  (Op.equalIn 10000 t (.agg ⟨vs⟩) (.agg ⟨ws⟩)).run P w = .ok r w) /\
 (1048576 <= t -> ∀ n z, bigT P (t - 1048576) = some (n, z) -> ZeroIs P (t - 1048576, n, z)) /\
 (t < 1048576 -> ∀ (em : Bool) (C : Cx) (w : World) (l : List AV) (vs : List Value), okKs ks l = true -> RelL C w l vs -> (Instr.checkKey em 10000 t (.agg ⟨vs⟩)).run P w = .ok () w)
theorem hasZ_ok {P : Program} {S : Sums} (hS : ∀ t ks, findS S.eqs t = some ks -> EqOK P t ks) {t n : Nat} {z : AV} (h : hasZ S t = true) (hb : bigT P t = some (n, z)) : ZeroIs P (t, n, z) := by
 unfold hasZ at h
 split at h
 ·rename_i ks hk
  have := (hS _ ks hk).2.1 (Nat.le_add_left _ _) n z
  rw [Nat.add_sub_cancel] at this
  exact this hb
 ·cases h
section
variable {P : Program} {S : Sums} {C : Cx} {w : World} {H hp : Heap}
theorem eqA_rel {a b r : AV} {x y : Value} (ha : Rel C w a x) (hb : Rel C w b y) (h : eqA a b = some r) : ∃ p q, x = .bool p /\ y = .bool q /\ Rel C w r (.bool (p == q)) /\ boolOf r = (p == q) := by
 cases ha <;> cases hb <;> simp [eqA] at h <;> subst h <;> refine ⟨_, _, rfl, rfl, ?_, ?_⟩
 all_goals first | exact .lb _ | (simp only [beqb]; exact .sb _) | rfl | (simp [boolOf, beqb]; done)
theorem eqC_rel {a b : AV} {x y : Value} {r : Bool} (ha : Rel C w a x) (hb : Rel C w b y) (h : eqC a b = some r) :
  (∃ k p q, x = .int k p /\ y = .int k q /\ r = (p == q)) \/ (∃ p q, x = .bool p /\ y = .bool q /\ r = (p == q)) := by
 unfold eqC at h
 cases hi : eqI a b with
 | some r' =>
   simp [hi] at h; subst h
   unfold eqI at hi
   cases hk : kindOf a with
   | none => simp [hk] at hi
   | some k =>
     cases hk' : kindOf b with
     | none => simp [hk, hk'] at hi
     | some k' =>
       simp only [hk, hk'] at hi
       by_cases e : k = k'
       ·simp [e] at hi; subst hi; subst e
        exact .inl ⟨k, _, _, kindOf_rel ha hk, kindOf_rel hb hk', by simp [ieq]⟩
       ·simp [e] at hi
 | none =>
   simp [hi] at h
   cases he : eqA a b with
   | none => simp [he] at h
   | some r' =>
     simp [he] at h; subst h
     obtain ⟨p, q, rfl, rfl, _, h⟩ := eqA_rel ha hb he
     exact .inr ⟨p, q, rfl, rfl, h⟩
theorem vd_eqB {op : BinOp} {m : Sem Value} {b : Bool} {r : AV} (h1 : op = .eql -> m.run P w = .ok (.bool b) w) (h2 : op = .neq -> m.run P w = .ok (.bool (!b)) w) (hr : Rel C w r (.bool b)) : Vd P S C w hp m (eqB op r) := by
 unfold eqB
 cases op <;> simp only <;> first | exact .fail _ | skip
 ·exact .val (h1 rfl) hr
 ·cases hr with
  | top => simp only [notA]; exact .fail _
  | gd => simp only [notA]; exact .fail _
  | lb => exact .val (h2 rfl) (.lb _)
  | sb => exact .val (h2 rfl) (by simp [bnot]; exact .sb _)
  | v => simp only [notA]; exact .fail _
theorem nilP_rel {a : AV} {v : Value} (h : Rel C w a v) (hn : nilP a = true) : v = .pointer none := by
 unfold nilP at hn
 split at hn
 ·cases h; rfl
 ·cases hn
theorem isPtr_rel {a : AV} {v : Value} (h : Rel C w a v) (hn : isPtr a = true) : ∃ ad, v = .pointer (some ad) := by
 cases h <;> simp [isPtr] at hn <;> exact ⟨_, rfl⟩
theorem run_ptr_nil {t : TypeId} (ht : isPtrT P t = true) (a b : Option Addr) (h : a = none \/ b = none) :
  (binOp .eql t (.pointer a) (.pointer b)).run P w = .ok (.bool (a.isNone && b.isNone)) w /\ (binOp .neq t (.pointer a) (.pointer b)).run P w = .ok (.bool (!(a.isNone && b.isNone))) w := by
 unfold isPtrT at ht
 cases hd : P.underlying t with
 | none => simp [hd] at ht
 | some d =>
   cases d <;> simp [hd] at ht
   have key : ∀ d : Nat, (Op.equalIn (d + 1) t (.pointer a) (.pointer b)).run P w = .ok (a.isNone && b.isNone) w := fun d => by
    rcases h with rfl | rfl
    ·simp [Op.equalIn, run_underlying hd]
    ·cases a <;> simp [Op.equalIn, run_underlying hd]
   constructor
   ·simp only [binOp]; simp [Op.equal, Op.maxDepth, key 9999]
   ·simp only [binOp]; simp [Op.equal, Op.maxDepth, key 9999]
theorem run_bool_eq {t : TypeId} (ht : isBoolT P t = true) (a b : Bool) :
  (binOp .eql t (.bool a) (.bool b)).run P w = .ok (.bool (a == b)) w /\ (binOp .neq t (.bool a) (.bool b)).run P w = .ok (.bool (!(a == b))) w := by
 unfold isBoolT at ht
 cases hd : P.underlying t with
 | none => simp [hd] at ht
 | some d =>
   cases d <;> simp [hd] at ht
   exact ⟨run_eql_bool w t a b hd, run_neq_bool w t a b hd⟩
theorem vd_bin {op : BinOp} {t : TypeId} {x y : Operand} {a b : AV} {u v : Value} (hS : ∀ t ks, findS S.eqs t = some ks -> EqOK P t ks) (hu : Rel C w a u) (hv : Rel C w b v) :
  Vd P S C w hp (do eqGuard op t x y u v; binOp op t u v) (binA P S op t a b) := by
 unfold binA
 cases hsh : isShiftOp op with
 | true =>
   have hg : eqGuard op t x y u v = pure () := by cases op <;> simp [isShiftOp] at hsh <;> rfl
   simp only [hg]
   exact fun r new hq => by simpa using vd_shift (P := P) (t := t) hu hv hsh r new hq
 | false =>
   simp only
   split
   ·rename_i k k' hk hk'
    rw [kindOf_rel hu hk, kindOf_rel hv hk']
    by_cases e : k = k'
    ·subst e
     simp only [decide_true]
     rw [eqGuard_at_int]
     exact fun r new hq => by simpa using vd_arBin (P := P) (t := t) hsh r new hq
    ·simp [e]; exact .fail _
   ·split
    ·rename_i l m hkn
     split
     rotate_left
     ·exact .fail _
     rename_i ks hlt hks
     split
     ·rename_i r hc he
      simp only [Bool.and_eq_true] at hc
      obtain ⟨hl, hm⟩ := hc
      obtain ⟨hg, heq⟩ := (hS t ks hks).1 (show t < 1048576 from Nat.le_of_ble_eq_true hlt)
      cases hu with | agg _ us hu =>
      cases hv with | agg _ vs hv =>
      have hrun := heq C w l m us vs r hl hm hu hv he
      have hgr := run_eqGuard_agg (P := P) w op t x y ⟨us⟩ ⟨vs⟩ hg
      refine vd_eqB (b := r) (fun ho => ?_) (fun ho => ?_) (.sb r)
      ·subst ho; simp only [Sem.run_bind, hgr, Result.andThen_ok, run_eql_struct, hrun]
      ·subst ho; simp only [Sem.run_bind, hgr, Result.andThen_ok, run_neq_struct, hrun]
     ·exact .fail _
    ·split
     ·rename_i hpt
      split
      ·rename_i h1 h2
       rw [nilP_rel hu h1, nilP_rel hv h2, eqGuard_at_pointer]
       have := run_ptr_nil (P := P) (w := w) hpt none none (.inl rfl)
       exact vd_eqB (b := true) (fun ho => by subst ho; simpa using this.1) (fun ho => by subst ho; simpa using this.2) (.lb _)
      ·rename_i h1 h2
       split
       ·rename_i h3
        obtain ⟨ad, rfl⟩ := isPtr_rel hv h3
        rw [nilP_rel hu h1, eqGuard_at_pointer]
        have := run_ptr_nil (P := P) (w := w) hpt none (some ad) (.inl rfl)
        exact vd_eqB (b := false) (fun ho => by subst ho; simpa using this.1) (fun ho => by subst ho; simpa using this.2) (.lb _)
       ·exact .fail _
      ·rename_i h1 h2
       split
       ·rename_i h3
        obtain ⟨ad, rfl⟩ := isPtr_rel hu h3
        rw [nilP_rel hv h2, eqGuard_at_pointer]
        have := run_ptr_nil (P := P) (w := w) hpt (some ad) none (.inr rfl)
        exact vd_eqB (b := false) (fun ho => by subst ho; simpa using this.1) (fun ho => by subst ho; simpa using this.2) (.lb _)
       ·exact .fail _
      ·exact .fail _
     ·split
      ·rename_i r hb he
       obtain ⟨p, q, rfl, rfl, hr, _⟩ := eqA_rel hu hv he
       rw [eqGuard_at_bool]
       have := run_bool_eq (P := P) (w := w) hb p q
       exact vd_eqB (b := (p == q)) (fun ho => by subst ho; simpa using this.1) (fun ho => by subst ho; simpa using this.2) hr
      ·exact .fail _
end
end Abs
end Go.Proofs.Ytdfdjlijghjdaaa

namespace Go.Proofs.Ytdfdjlijghjdaaa
namespace Abs
open Go Go.RowKit
section
variable {P : Program} {S : Sums} {C : Cx} {w : World} {H hp : Heap}
def Pre (hp H : Heap) : Prop := ∀ i, i < hp.length -> getB H i = getB hp i
theorem getB_dead {hp : Heap} {i : Nat} (h : hp.length <= i) : getB hp i = .dead := by
 rw [getB_eq, List.getD_eq_getElem?_getD, List.getElem?_eq_none h, Option.getD_none]
theorem Pre.old (hpre : Pre hp H) {i : Nat} {b : Blk} (hb : getB hp i = b) (hne : b ≠ .dead) : i < hp.length /\ getB H i = b := by
 rcases Nat.lt_or_ge i hp.length with hlt | hge
 ·exact ⟨hlt, (hpre i hlt).trans hb⟩
 ·rw [getB_dead hge] at hb; exact absurd hb.symm hne
theorem vd_convert {src dst : TypeId} {a : AV} {v : Value} (h : Rel C w a v) : Vd P S C w hp (convert src dst v) (convA P src dst a) := by
 unfold convA
 split
 ·rename_i k1 k hs hd
  have key : ∀ q n, (convert src dst (.int q n)).run P w = .ok (.int k (k.wrap n)) w := fun q n => by
   simp [convert, run_underlying hs, run_underlying hd, Conv.intToInt]
  cases h <;> simp only <;> first | exact .fail _ | skip
  ·exact .val (key _ _) (.li _ _)
  ·split
   ·exact .need fun hb => .val (by rw [key, inR_wrap hb]) (.si _ _)
   ·exact .val (by rw [key]; simp [iwrap]) (.si _ _)
 ·exact .fail _
theorem vd_neg {a : AV} {v : Value} (h : Rel C w a v) :
  Vd P S C w hp (Op.unary .neg v) (match kindOf a with | some k => arith k (isLit a) (0 - intOf a) (isub 0 (intOf a)) | none => .fail) := by
 split
 ·rename_i k hk
  rw [kindOf_rel h hk]
  exact vd_arith (by cases isLit a <;> simp [Op.unary, Op.intArith, isub])
 ·exact .fail _
theorem fieldT_some {t : TypeId} {f : Nat} {fd : Field} (h : fieldT P t f = some fd) : ∃ fs, P.underlying t = some (.struct fs) /\ fs[f]? = some fd := by
 unfold fieldT at h
 split at h
 ·rename_i fs hu; exact ⟨fs, hu, by simpa using h⟩
 ·cases h
theorem sizeT_info {t : TypeId} {n : Nat} (h : sizeT P t = n + 1) : ∃ i, P.info? t = some i := by
 unfold sizeT at h
 cases hi : P.info? t with
 | none => simp [hi] at h
 | some i => exact ⟨i, rfl⟩
theorem vd_fieldAddr {t : TypeId} {x : AV} {v : Value} {f : Nat} (h : Rel C w x v) : Vd P S C w hp (Instr.fieldAt t v f) (fieldAddrA P t x f) := by
 unfold fieldAddrA
 split
 ·exact .fail _
 ·rename_i fd hf
  obtain ⟨fs, hu, hg⟩ := fieldT_some hf
  split
  ·exact .fail _
  ·rename_i n hz
   obtain ⟨i, hi⟩ := sizeT_info hz
   have key : ∀ ad : Addr, (Instr.fieldAt t (.pointer (some ad)) f).run P w = .ok (.pointer (some (ad.add fd.offset))) w := fun ad => by
    simp [Instr.fieldAt, run_underlying hu, hg, Instr.sureAddr, fieldPlace, run_sizeT hi, hz]
   cases h <;> simp only <;> first | exact .fail _ | skip
   case own i off b c n h =>
    refine .val (key _) ?_
    have : (⟨b, off, none⟩ : Addr).add fd.offset = ⟨b, off + fd.offset, none⟩ := by unfold Addr.add; split <;> simp [*]
    rw [this]; exact .own _ _ _ _ _ h
   case elt i sz k off b c n h hk =>
    refine .val (key _) ?_
    have : (⟨b, k * sz + off, none⟩ : Addr).add fd.offset = ⟨b, k * sz + (off + fd.offset), none⟩ := by unfold Addr.add; split <;> simp [*, Nat.add_assoc]
    rw [this]; exact .elt _ _ _ _ _ _ _ h hk
   case xp l ad vs hr hI hc hn =>
    refine .val (key _) ?_
    rw [dropL_eq]
    refine .xp _ _ (vs.drop fd.offset) (hr.drop _) (fun hne => ?_) (fun j hj => ?_) (own_drop _ hn)
    ·rw [add_block]; exact hI (fun h0 => hne (by rw [h0]; simp))
    ·simp at hj
     rw [add_add, hc _ (by omega), List.getElem?_drop]
theorem vd_field {t : TypeId} {v : Value} {f : Nat} : ∀ {x : AV}, Rel C w x v ->
  Vd P S C w hp (Instr.field t v f) (match fieldT P t f, x with | some fd, .agg l => partL P fd.type (dropL l fd.offset) | _, _ => .fail) := by
 intro x h
 revert h
 split <;> intro h
 ·rename_i fd l hf
  obtain ⟨fs, hu, hg⟩ := fieldT_some hf
  cases h with
  | agg _ vs hr =>
    intro a new hq
    cases hp' : partL P fd.type (dropL l fd.offset) with
    | val a' =>
      rw [hp'] at hq; obtain ⟨rfl, rfl⟩ := hq.val_inv
      rw [dropL_eq] at hp'
      obtain ⟨u, hu', hr'⟩ := run_part (P := P) (hr.drop fd.offset) hp'
      exact ⟨rfl, u, by simp [Instr.field, run_underlying hu, hg, asAgg, hu'], hr'⟩
    | fail => rw [hp'] at hq; exact hq.fail_inv.elim
    | _ =>
      exfalso; revert hp'; unfold partL
      repeat' split
      all_goals (intro hc; cases hc)
 ·exact .fail _
theorem vd_index {t : TypeId} {v u : Value} {x i : AV} (hx : Rel C w x v) (hi : Rel C w i u) : Vd P S C w hp (Instr.index t v u) (indexA P t x i) := by
 unfold indexA
 split
 ·rename_i n e l q j hu
  split
  ·rename_i s hd hs
   have hd := of_decide_eq_true hd
   cases hi
   cases hx with
   | agg _ vs hr =>
     intro a new hq
     obtain ⟨inf, hinf⟩ := sizeT_info hs
     cases hp' : partL P e (dropL l (j.toNat * (s + 1))) with
     | val a' =>
       rw [hp'] at hq; obtain ⟨rfl, rfl⟩ := hq.val_inv
       rw [dropL_eq] at hp'
       obtain ⟨z, hz, hr'⟩ := run_part (P := P) (hr.drop (j.toNat * (s + 1))) hp'
       have hsz := run_sizeT (P := P) hinf w
       rw [hs] at hsz
       exact ⟨rfl, z, by simp [Instr.index, asIntOf, run_underlying hu, hd, hsz, hz], hr'⟩
     | fail => rw [hp'] at hq; exact hq.fail_inv.elim
     | _ =>
       exfalso; revert hp'; unfold partL
       repeat' split
       all_goals (intro hc; cases hc)
  ·exact .fail _
 ·exact .fail _
theorem vd_idx {m : Sem Value} {k : Nat -> AR} {i : AV} {n : LN} {v : Value} (h : Rel C w i v) (hk : ∀ q j, v = .int q (j : Nat) -> j < n.val -> Vd P S C w hp m (k j)) : Vd P S C w hp m (idx i n k) := by
 unfold idx
 cases h <;> simp only <;> first | exact .fail _ | skip
 case li q x =>
  split
  ·rename_i h0
   have h0' : 0 <= x := by simpa using h0
   have e : ((x.toNat : Nat) : Int) = x := Int.toNat_of_nonneg h0'
   split
   ·split
    ·rename_i hlt; exact hk q _ (by rw [e]) (by simpa [LN.val] using hlt)
    ·exact .fail _
   ·exact .need fun hlt => hk q _ (by rw [e]) hlt
  ·exact .fail _
 case si q x =>
  refine .need fun hb => hk q _ ?_ ?_
  ·simp [nat]; omega
  ·simp [nat]; omega
theorem own_okC {a : AV} (h : okC a = true) : ownIn a = false := by cases a <;> simp [okC] at h <;> rfl
theorem own_ok : ∀ {l : List AV}, okL l = true -> ownIn.ownInL l = false
 | [], _ => rfl
 | a :: l, h => by
   simp [okL] at h
   simp only [ownIn.ownInL, own_ok h.2, Bool.or_false]
   cases a <;> simp [okC] at h <;> rfl
theorem add_lit (b o n : Nat) : (⟨b, o, none⟩ : Addr).add n = ⟨b, o + n, none⟩ := by unfold Addr.add; split <;> simp [*]
theorem vd_indexAddr {t : TypeId} {x i : AV} {u v : Value} (hH : HR C H w) (hpre : Pre hp H) (hx : Rel C w x u) (hi : Rel C w i v) :
  Vd P S C w hp (Instr.indexAt t u v) (indexAddrA P hp t x i) := by
 unfold indexAddrA
 split
 ·rename_i n e hu
  split
  ·exact .fail _
  ·rename_i s hs
   obtain ⟨ie, hie⟩ := sizeT_info hs
   have hsz := run_sizeT hie w
   rw [hs] at hsz
   have key : ∀ q (j : Int), 0 <= j /\ j < n -> ∀ ad : Addr, (Instr.indexAt t (.pointer (some ad)) (.int q j)).run P w = .ok (.pointer (some (ad.add (j.toNat * (s + 1))))) w := fun q j hb ad => by
    simp [Instr.indexAt, run_underlying hu, Instr.sureAddr, asIntOf, hb, hsz]
   have drp : ∀ {l : List AV} {ad : Addr} {vs : List Value} (k : Nat), RelL C w l vs -> (l ≠ [] -> C.I ad.block) -> (∀ j, j < l.length -> w.cell? (ad.add j) = vs[j]?) -> ownIn.ownInL l = false ->
     Rel C w (.xp (dropL l (k * (s + 1)))) (.pointer (some (ad.add (k * (s + 1))))) := fun {l ad vs} k hr hI hc hn => by
    rw [dropL_eq]
    refine .xp _ _ (vs.drop _) (hr.drop _) (fun hne => ?_) (fun j' hj => ?_) (own_drop _ hn)
    ·rw [add_block]; exact hI (fun h0 => hne (by rw [h0]; simp))
    ·simp at hj
     rw [add_add, hc _ (by omega), List.getElem?_drop]
   split
   ·rename_i r har
    unfold arrA at har
    split at har
    ·rename_i b wd k off
     split at har
     ·rename_i t' w' m' f' hb
      split at har
      ·rename_i hq
       injection har with har; subst har
       simp only [Bool.and_eq_true] at hq
       obtain ⟨⟨⟨q1, q2⟩, q3⟩, q4⟩ := hq
       obtain rfl := Nat.eq_of_beq_eq_true q1
       obtain rfl := Nat.eq_of_beq_eq_true q2
       obtain rfl := Nat.eq_of_beq_eq_true q3
       obtain rfl := Nat.eq_of_beq_eq_true q4
       cases hx with | elt _ _ _ _ bl c m hρ hk =>
       refine vd_idx hi fun q j hv hj => ?_
       subst hv
       have hj' : j < n := hj
       refine .val (key q j ⟨by omega, by omega⟩ _) ?_
       rw [add_lit]; simpa using Rel.elt b n k j bl c m hρ hk
      ·injection har with har; subst har; exact .fail _
     ·injection har with har; subst har; exact .fail _
    ·rename_i m sz el
     split at har
     ·rename_i hq
      injection har with har; subst har
      obtain rfl : sz = s + 1 := Nat.eq_of_beq_eq_true hq
      refine .need fun hmn => ?_
      have hmn : m = n := hmn
      subst hmn
      cases hx with | pa _ _ _ A vs hI hc hr hl hn =>
      refine vd_idx hi fun q j hv hj => ?_
      subst hv
      have hj' : j < m := hj
      cases A with | none => have := hI.1.2 rfl; omega | some ad =>
      refine .val (key q j ⟨by omega, by omega⟩ _) ?_
      refine .xp _ _ (vs j) (hr j hj') (fun _ => by rw [add_block]; exact hI.2 ad rfl) (fun j' hj2 => ?_) (own_ok (hn j hj'))
      have := (hr j hj').len
      rw [Int.toNat_natCast, add_add]; exact hc ad rfl j hj' j' (by rw [<- hl j hj']; omega)
     ·injection har with har; subst har; exact .fail _
    ·cases har
   rename_i hnone
   clear hnone
   cases hi <;> simp only <;> first | exact .fail _ | skip
   ·rename_i q j
    split
    ·rename_i hb
     have hb' : 0 <= j /\ j < n := by simpa using hb
     cases hx with | own _ _ bl c m hρ =>
     refine .val (key q j hb' _) ?_
     rw [add_lit]; exact .own _ _ _ _ _ hρ
    ·rename_i hb
     have hb' : 0 <= j /\ j < n := by simpa using hb
     cases hx with | xp l ad vs hr hI hc hn =>
     exact .val (key q j hb' _) (drp _ hr hI hc hn)
    ·exact .fail _
   ·rename_i q j
    split
    ·refine .need fun hb => Vd.idx (fun k hk => ?_) n hb.1 hb.2
     cases hx with | own _ _ bl c m hρ =>
     refine .val (key q j hb _) ?_
     rw [add_lit, hk]; exact .own _ _ _ _ _ hρ
    ·refine .need fun hb => Vd.idx (fun k hk => ?_) n hb.1 hb.2
     cases hx with | xp l ad vs hr hI hc hn =>
     refine .val (key q j hb _) ?_
     rw [hk]
     exact drp _ hr hI hc hn
    ·exact .fail _
 ·rename_i e hu
  split
  ·exact .fail _
  ·rename_i s hs
   obtain ⟨ie, hie⟩ := sizeT_info hs
   have hsz := run_sizeT hie w
   rw [hs] at hsz
   have key : ∀ (ad : Addr) (len cap : Nat) q (j : Nat), j < len -> (Instr.indexAt t (.slice (some ad) len cap) (.int q j)).run P w = .ok (.pointer (some (ad.add (j * (s + 1))))) w := fun ad len cap q j hb => by
    have h1 : (0 : Int) <= (j : Int) /\ (j : Int) < (len : Int) := by omega
    simp [Instr.indexAt, run_underlying hu, asIntOf, hsz, hb]
   split
   ·rename_i b
    split
    ·rename_i e' sz n el hb
     obtain ⟨hlt, hB⟩ := hpre.old hb (by simp)
     split
     ·rename_i hq
      obtain rfl : sz = s + 1 := Nat.eq_of_beq_eq_true hq
      cases hx with
      | row _ bl c m hρ =>
        have hl := hH.live _ _ hρ
        rw [hB] at hl
        obtain ⟨hm, hcap, _⟩ := hl
        refine vd_idx hi fun q j hv hj => ?_
        subst hv
        rw [hm] at hj
        refine .val (key _ _ _ _ _ hj) ?_
        rw [add_lit]; simpa using Rel.elt b (s + 1) j 0 bl c m hρ hj
      | rown _ hρ =>
        have hl := hH.live _ _ hρ
        rw [hB] at hl
        refine vd_idx hi fun q j hv hj => ?_
        have := hl.1; omega
     ·exact .fail _
    ·rename_i t' wd n f hb
     obtain ⟨hlt, hB⟩ := hpre.old hb (by simp)
     split
     ·rename_i hq
      obtain rfl : wd = s + 1 := Nat.eq_of_beq_eq_true hq
      cases hx with
      | row _ bl c m hρ =>
        have hl := hH.live _ _ hρ
        rw [hB] at hl
        obtain ⟨hm, hcap, _⟩ := hl
        refine vd_idx hi fun q j hv hj => ?_
        subst hv
        rw [hm] at hj
        refine .val (key _ _ _ _ _ hj) ?_
        rw [add_lit]; simpa using Rel.elt b (s + 1) j 0 bl c m hρ hj
      | rown _ hρ =>
        have hl := hH.live _ _ hρ
        rw [hB] at hl
        exact hl.elim
     ·exact .fail _
    ·rename_i e1 e2 sz2 n fz ln el ho hb
     obtain ⟨hlt, hB⟩ := hpre.old hb (by simp)
     split
     ·rename_i hq
      obtain rfl : s = 0 := Nat.eq_of_beq_eq_true hq
      cases hx with
      | row _ bl c m hρ =>
        have hl := hH.live _ _ hρ
        rw [hB] at hl
        obtain ⟨hm, hcap, _⟩ := hl
        refine vd_idx hi fun q j hv hj => ?_
        subst hv
        rw [hm] at hj
        refine .val (key _ _ _ _ _ hj) ?_
        rw [add_lit]; simpa using Rel.elt b 1 j 0 bl c m hρ hj
      | rown _ hρ =>
        have hl := hH.live _ _ hρ
        rw [hB] at hl
        exact hl.elim
     ·exact .fail _
    ·exact .fail _
   ·rename_i n sz el
    split
    ·rename_i hq
     obtain rfl : sz = s + 1 := Nat.eq_of_beq_eq_true hq
     cases hx with
     | slc _ _ _ A cap vs hcap hA hr hl hn =>
       refine vd_idx hi fun q j hv hj => ?_
       subst hv
       obtain ⟨ad, rfl, hI, hc⟩ := hA (by omega)
       refine .val (key _ _ _ _ _ hj) ?_
       refine .xp _ _ (vs j) (hr j hj) (fun _ => by rw [add_block]; exact hI) (fun j' hj' => ?_) (own_ok (hn j hj))
       have := (hr j hj).len
       rw [add_add]; exact hc j hj j' (by rw [<- hl j hj]; omega)
    ·exact .fail _
   ·rename_i b n sz
    split
    ·rename_i q j hq
     split
     ·rename_i hb
      obtain rfl : sz = s + 1 := Nat.eq_of_beq_eq_true hq
      have hb' : 0 <= j /\ j < (n : Int) := by simpa using hb
      cases hi
      cases hx with
      | lsl _ _ _ bl c m hρ =>
        obtain ⟨jn, rfl⟩ := Int.eq_ofNat_of_zero_le hb'.1
        refine .val (key ⟨bl, 0, none⟩ n n q jn (by omega)) ?_
        rw [add_lit]; simpa using Rel.own b (jn * (s + 1)) bl c m hρ
     ·exact .fail _
    ·exact .fail _
   ·exact .fail _
 ·exact .fail _
theorem vd_extract {v : Value} {i : Nat} : ∀ {x : AV}, Rel C w x v -> Vd P S C w hp (Instr.extract v i) (match x with | .tup l => (match l[i]? with | some a => .val a | none => .fail) | _ => .fail) := by
 intro x h
 cases h <;> simp only <;> first | exact .fail _ | skip
 rename_i l vs hr
 split
 ·rename_i a ha
  obtain ⟨u, hu, hrel⟩ := hr.get ha
  exact .val (by simp [Instr.extract, hu]) hrel
 ·exact .fail _
theorem vd_lenI {m : Sem Value} {n : LN} (hr : m.run P w = .ok (.int .i64 n.val) w) : Vd P S C w hp m (lenI n) := by
 cases n with
 | lit n => exact .val hr (.li _ _)
 | sym n => exact .val (by simpa [icast, LN.val] using hr) (.si _ _)
theorem vd_len {t ty e : TypeId} {x : AV} {v : Value} (ht : P.underlying t = some (.slice e)) (hH : HR C H w) (hpre : Pre hp H) (h : Rel C w x v) :
  Vd P S C w hp (Builtin.len_ #[t] ty #[v]) (lenA hp x) := by
 have key : ∀ A (n c : Nat), (Builtin.len_ #[t] ty #[.slice A n c]).run P w = .ok (.int .i64 n) w := fun A n c => by
  simp [Builtin.len_, run_underlying ht, goInt]
 unfold lenA
 split
 ·cases h; exact .val (key _ _ _) (.li _ _)
 ·split
  ·rename_i n el hb
   obtain ⟨hlt, hB⟩ := hpre.old hb (by simp)
   cases h with
   | row _ bl c m hρ =>
     have hl := hH.live _ _ hρ
     rw [hB] at hl
     exact vd_lenI (by rw [hl.1]; exact key _ _ _)
   | rown _ hρ =>
     have hl := hH.live _ _ hρ
     rw [hB] at hl
     exact vd_lenI (by rw [hl.1]; exact key _ _ _)
  ·rename_i n el hb
   obtain ⟨hlt, hB⟩ := hpre.old hb (by simp)
   cases h with
   | row _ bl c m hρ =>
     have hl := hH.live _ _ hρ
     rw [hB] at hl
     exact vd_lenI (by rw [hl.1]; exact key _ _ _)
   | rown _ hρ =>
     have hl := hH.live _ _ hρ
     rw [hB] at hl
     exact hl.elim
  ·rename_i n fz ln el ho hb
   obtain ⟨hlt, hB⟩ := hpre.old hb (by simp)
   cases h with
   | row _ bl c m hρ =>
     have hl := hH.live _ _ hρ
     rw [hB] at hl
     exact vd_lenI (by rw [hl.1]; exact key _ _ _)
   | rown _ hρ =>
     have hl := hH.live _ _ hρ
     rw [hB] at hl
     exact hl.elim
  ·exact .fail _
 ·cases h with | slc _ _ _ A cap vs hcap hA hr hl hn => exact vd_lenI (key _ _ _)
 ·cases h with | lsl _ _ _ bl c m hρ => exact .val (key _ _ _) (.li _ _)
 ·exact .fail _
end
end Abs
end Go.Proofs.Ytdfdjlijghjdaaa

namespace Go.Proofs.Ytdfdjlijghjdaaa
namespace Abs
open Go Go.RowKit
section
variable {P : Program} {S : Sums} {C : Cx} {w : World} {H hp : Heap}
theorem okC_one {a : AV} {v : Value} (h : Rel C w a v) (ho : okC a = true) : v.oneCell' = true := by
 cases h <;> simp [okC] at ho <;> first | rfl | exact ho
theorem oneC_one {a : AV} {v : Value} (h : Rel C w a v) (ho : oneC a = true) : v.oneCell' = true := by
 cases h <;> simp [oneC, okC] at ho <;> first | rfl | exact ho
theorem okL_one : ∀ {l : List AV} {vs : List Value}, RelL C w l vs -> okL l = true -> ∀ u ∈ vs, u.oneCell' = true
 | _, _, .nil, _, u, hu => by cases hu
 | _, _, .cons _ _ _ _ h h', ho, u, hu => by
   simp [okL] at ho
   rcases List.mem_cons.1 hu with rfl | hu
   ·exact okC_one h ho.1
   ·exact okL_one h' ho.2 u hu
theorem oneL_one : ∀ {l : List AV} {vs : List Value}, RelL C w l vs -> oneL l = true -> ∀ u ∈ vs, u.oneCell' = true
 | _, _, .nil, _, u, hu => by cases hu
 | _, _, .cons _ _ _ _ h h', ho, u, hu => by
   simp [oneL] at ho
   rcases List.mem_cons.1 hu with rfl | hu
   ·exact oneC_one h ho.1
   ·exact oneL_one h' ho.2 u hu
theorem vd_minmax (mx : Bool) : ∀ (l : List AV) (a : AV) (v : Value) (vs : List Value), Rel C w a v -> RelL C w l vs ->
  Vd P S C w hp (vs.foldlM (if mx then Builtin.max2 else Builtin.min2) v) (minmax mx a l)
 | [], a, v, _, ha, .nil => by
   cases mx <;> exact .val (by simp) ha
 | b :: l, a, v, _, ha, .cons _ _ u us hb hl => by
   unfold minmax
   cases hk : kindOf a with
   | none => exact .fail _
   | some k =>
   cases hk' : kindOf b with
   | none => exact .fail _
   | some k' =>
     have e1 := kindOf_rel ha hk
     have e2 := kindOf_rel hb hk'
     subst e1 e2
     simp only
     cases mx with
     | true =>
       simp only [if_true, List.foldlM_cons]
       have key : ∀ w, (Builtin.max2 (.int k (intOf a)) (.int k' (intOf b))).run P w = .ok (.int k (if intOf b > intOf a then intOf b else intOf a)) w := fun w => by simp [Builtin.max2]
       split
       ·intro x new hq
        obtain ⟨hn, z, hz, hr⟩ := vd_minmax true l _ _ us (.li k _) hl x new hq
        exact ⟨hn, z, by simpa [Sem.run_bind, key] using hz, hr⟩
       ·intro x new hq
        obtain ⟨hn, z, hz, hr⟩ := vd_minmax true l _ _ us (.si k _) hl x new hq
        exact ⟨hn, z, by simpa [Sem.run_bind, key, imax] using hz, hr⟩
     | false =>
       simp only [Bool.false_eq_true, if_false, List.foldlM_cons]
       have key : ∀ w, (Builtin.min2 (.int k (intOf a)) (.int k' (intOf b))).run P w = .ok (.int k (if intOf b < intOf a then intOf b else intOf a)) w := fun w => by simp [Builtin.min2]
       split
       ·intro x new hq
        obtain ⟨hn, z, hz, hr⟩ := vd_minmax false l _ _ us (.li k _) hl x new hq
        exact ⟨hn, z, by simpa [Sem.run_bind, key] using hz, hr⟩
       ·intro x new hq
        obtain ⟨hn, z, hz, hr⟩ := vd_minmax false l _ _ us (.si k _) hl x new hq
        exact ⟨hn, z, by simpa [Sem.run_bind, key, imin] using hz, hr⟩
theorem rel_toA (v : Value) : Rel C w (toA v) v := by
 cases v <;> simp only [toA] <;> first | exact .v _ | exact .li _ _ | exact .lb _
theorem relL_toA : ∀ l : List Value, RelL C w (l.map toA) l
 | [] => .nil
 | v :: l => .cons _ _ _ _ (rel_toA v) (relL_toA l)
theorem zeroL_some {t : TypeId} {l : List AV} (h : zeroL P t = some l) : ∃ i z, P.info? t = some i /\ i.zero = some z /\ z.cells.size = i.size /\ l = z.cells.toList.map toA := by
 unfold zeroL at h
 split at h
 ·rename_i i hi
  split at h
  ·rename_i z hz
   split at h
   ·rename_i hd; exact ⟨i, z, hi, hz, by simpa using hd, by simpa using h.symm⟩
   ·cases h
  ·cases h
 ·cases h
theorem cells_one {v : Value} (h : v.oneCell' = true) : v.cells = #[v] := by cases v <;> simp [Value.oneCell'] at h <;> rfl
theorem cellsO_rel {a : AV} {v : Value} {l : List AV} (h : Rel C w a v) (hc : cellsO a = some l) : RelL C w l v.cells.toList := by
 have one : oneC a = true -> l = [a] -> RelL C w l v.cells.toList := fun ho e => by
  subst e; rw [cells_one (oneC_one h ho)]; exact .cons _ _ _ _ h .nil
 unfold cellsO at hc
 split at hc
 ·cases h with | agg _ vs hr => simp at hc; subst hc; simpa [Value.cells] using hr
 ·split at hc
  ·rename_i ho; exact one ho (by simpa using hc.symm)
  ·cases hc
theorem pasteL_eq (l m : List AV) (off : Nat) : pasteL l off m = l.take off ++ (m ++ l.drop (off + m.length)) := by simp [pasteL, appL_eq, takeL_eq, dropL_eq]
theorem RelL.paste {l m : List AV} {vs ws : List Value} (off : Nat) (h : RelL C w l vs) (h' : RelL C w m ws) : RelL C w (pasteL l off m) (vs.take off ++ (ws ++ vs.drop (off + ws.length))) := by
 rw [pasteL_eq, h'.len]
 exact (h.take _).append (h'.append (h.drop _))
theorem fold_paste (off : Nat) : ∀ (ws : List Value) (vs : Array Value) (n : Nat), off + n + ws.length <= vs.size ->
  (ws.zipIdx n).foldl (fun cs (c, j) => cs.setIfInBounds (off + j) c) vs = ⟨vs.toList.take (off + n) ++ (ws ++ vs.toList.drop (off + n + ws.length))⟩
 | [], vs, n, _ => by simp
 | u :: ws, vs, n, h => by
   simp only [List.zipIdx_cons, List.foldl_cons]
   simp at h
   rw [fold_paste off ws _ (n + 1) (by simp; omega)]
   congr 1
   have hlt : off + n < vs.toList.length := by simp; omega
   have e1 : (vs.toList.set (off + n) u).take (off + (n + 1)) = vs.toList.take (off + n) ++ [u] := by
    rw [show off + (n + 1) = off + n + 1 by omega, List.take_add_one, List.take_set_of_le (Nat.le_refl _), List.getElem?_set_self hlt]; rfl
   have e2 : (vs.toList.set (off + n) u).drop (off + (n + 1) + ws.length) = vs.toList.drop (off + n + (ws.length + 1)) := by
    rw [List.drop_set, if_pos (by omega)]; congr 1; omega
   simp only [Array.toList_setIfInBounds, e1, e2, List.length_cons, List.append_assoc, List.cons_append, List.nil_append]
theorem fill_paste {place : Nat -> Option (Nat × Nat)} {cells : Array Value} {i off size : Nat} {v : Value} {rest : List (Nat × Value)} (hp : place i = some (off, size)) (hs : v.cells.size = size) (hl : off + size <= cells.size) :
  Instr.fill place cells ((i, v) :: rest) = Instr.fill place ⟨cells.toList.take off ++ (v.cells.toList ++ cells.toList.drop (off + size))⟩ rest := by
 have h := fold_paste off v.cells.toList cells 0 (by simp; omega)
 have e : v.cells.zipIdx.foldl (fun cs (c, j) => cs.setIfInBounds (off + j) c) cells = ⟨cells.toList.take off ++ (v.cells.toList ++ cells.toList.drop (off + size))⟩ := by
  rw [<- Array.foldl_toList, Array.toList_zipIdx, h]
  simp [hs]
 rw [Instr.fill]
 simp only [hp, hs, ne_eq, not_true_eq_false, decide_false, Bool.false_or, decide_eq_true_eq]
 rw [if_neg (by omega), e]
inductive PRel (C : Cx) (w : World) : List (Nat × AV) -> List (Nat × Value) -> Prop
 | nil : PRel C w [] []
 | cons (i : Nat) (a : AV) (v : Value) (l : List (Nat × AV)) (m : List (Nat × Value)) (h : Rel C w a v) (h' : PRel C w l m) : PRel C w ((i, a) :: l) ((i, v) :: m)
theorem fillL_rel {size : Nat} {place : Nat -> Option (Nat × Nat)} (hpl : ∀ i, place i = some (i * size, size)) : ∀ (parts : List (Nat × AV)) (ps : List (Nat × Value)) (cs l : List AV) (vs : List Value),
  PRel C w parts ps -> RelL C w cs vs -> fillL size cs parts = some l -> ∃ us, Instr.fill place ⟨vs⟩ ps = some ⟨us⟩ /\ RelL C w l us
 | [], _, cs, l, vs, .nil, hr, h => by
   simp [fillL] at h; subst h; exact ⟨vs, rfl, hr⟩
 | (i, a) :: parts, (_, v) :: ps, cs, l, vs, .cons _ _ _ _ _ ha hps, hr, h => by
   simp only [fillL, spineK_eq] at h
   split at h
   ·cases h
   ·rename_i m hm
    split at h
    ·rename_i hd
     simp at hd
     have hcr := cellsO_rel ha hm
     have hlen := hcr.len
     have hlen2 := hr.len
     obtain ⟨us, hf, hu⟩ := fillL_rel hpl parts ps _ l _ hps (RelL.paste (i * size) hr hcr) h
     refine ⟨us, ?_, hu⟩
     have hsz : v.cells.size = size := by simp at hlen; omega
     rw [fill_paste (hpl i) hsz (by simp; omega)]
     simpa [hsz] using hf
    ·cases h
theorem fillS_rel {fs : List Field} {place : Nat -> Option (Nat × Nat)} (hpl : ∀ (i : Nat) (f : Field), fs[i]? = some f -> place i = some (f.offset, sizeT P f.type)) : ∀ (parts : List (Nat × AV)) (ps : List (Nat × Value)) (cs l : List AV) (vs : List Value),
  PRel C w parts ps -> RelL C w cs vs -> fillS P fs cs parts = some l -> ∃ us, Instr.fill place ⟨vs⟩ ps = some ⟨us⟩ /\ RelL C w l us
 | [], _, cs, l, vs, .nil, hr, h => by
   simp [fillS] at h; subst h; exact ⟨vs, rfl, hr⟩
 | (i, a) :: parts, (_, v) :: ps, cs, l, vs, .cons _ _ _ _ _ ha hps, hr, h => by
   simp only [fillS, spineK_eq] at h
   split at h
   ·cases h
   ·rename_i f hf
    split at h
    ·cases h
    ·rename_i m hm
     split at h
     ·rename_i hd _
      simp at hd
      have hcr := cellsO_rel ha hm
      have hlen := hcr.len
      have hlen2 := hr.len
      obtain ⟨us, hfl, hu⟩ := fillS_rel hpl parts ps _ l _ hps (RelL.paste f.offset hr hcr) h
      refine ⟨us, ?_, hu⟩
      have hsz : v.cells.size = sizeT P f.type := by simp at hlen; omega
      rw [fill_paste (hpl i f hf) hsz (by simp; omega)]
      rw [<- hsz]
      simpa using hfl
     ·cases h
end
end Abs
end Go.Proofs.Ytdfdjlijghjdaaa

namespace Go.Proofs.Ytdfdjlijghjdaaa
namespace Abs
open Go Go.RowKit
section
variable {P : Program} {S : Sums} {C : Cx} {w : World} {H hp : Heap}
def Free (C : Cx) (H hp new : Heap) : Prop := ∀ t, t < new.length -> getB H (hp.length + t) = getB new t /\ C.ρ (hp.length + t) = none
def Md (P : Program) (S : Sums) (C : Cx) (w : World) (H hp : Heap) (m : Sem Value) (r : AR) : Prop :=
 ∀ a new, PO S hp r a new -> Free C H hp new -> ∃ v w' C', m.run P w = .ok v w' /\ HR C' H w' /\ Rel C' w' a v /\ Grow hp.length new.length C w C' w'
theorem rowAt_eq (sz : Nat) : ∀ (k : Nat) (l : List AV), rowAt sz l k = takeL (dropL l (k * sz)) sz
 | 0, l => by simp [rowAt, dropL]
 | k + 1, l => by
   rw [rowAt, rowAt_eq sz k, dropL_eq, dropL_eq, dropL_eq, List.drop_drop, Nat.add_mul, Nat.one_mul, Nat.add_comm sz]
theorem Vd.md {m : Sem Value} {r : AR} (h : Vd P S C w hp m r) (hH : HR C H w) : Md P S C w H hp m r := fun a new hq _ => by
 obtain ⟨rfl, v, hr, ha⟩ := h a new hq
 exact ⟨v, w, C, hr, hH, ha, .refl _ _ _⟩
theorem Md.fail (m : Sem Value) : Md P S C w H hp m .fail := fun _ _ h => h.fail_inv.elim
theorem Md.need {m : Sem Value} {p : Cd} {r : AR} (h : p.ok -> Md P S C w H hp m r) : Md P S C w H hp m (.need p r) := fun a new hq => h hq.need_inv.1 a new hq.need_inv.2
theorem md_blk {m : Sem Value} {b : Blk} {mk : Nat -> AV} {v : Value} {cs : Array Value} {t : TypeId} {cap n : Nat} (hH : HR C H w) (hr : m.run P w = .ok v (w.alloc (.cells cs t)))
  (hb : ∀ C', Cext C w C' (w.alloc (.cells cs t)) -> BRel C' (w.alloc (.cells cs t)) (.at w.heap.size cap n) b)
  (hv : ∀ C' j, C'.ρ j = some (.at w.heap.size cap n) -> Rel C' (w.alloc (.cells cs t)) (mk j) v) : Md P S C w H hp m (.blk b mk) := fun a new hq hf => by
 cases hq
 obtain ⟨hg, hn⟩ := hf 0 (by simp)
 simp [getB] at hg hn
 have hx : Cext C w (C.put hp.length (.at w.heap.size cap n)) (w.alloc (.cells cs t)) := (Grow.new C w hp.length cap n _).cext (fun i h1 h2 => (show i = hp.length by omega) ▸ hn) hH.ilt
 exact ⟨v, _, _, hr, hH.new hn (by rw [hg]; exact hb _ hx), hv _ _ Cx.put_eq, Grow.new C w hp.length cap n _⟩
theorem md_nil {m : Sem Value} {e : TypeId} {sz : Nat} {q : LN} {el : Nat -> List AV} (hH : HR C H w) (hr : m.run P w = .ok (.slice none 0 0) w) (hz : q.val = 0) (hsz : 0 < sz) :
  Md P S C w H hp m (.blk (.row e sz q el) .row) := fun a new hq hf => by
 cases hq
 obtain ⟨hg, hn⟩ := hf 0 (by simp)
 simp [getB] at hg hn
 exact ⟨_, _, _, hr, hH.newNil hn (by rw [hg]; exact ⟨hz, hsz⟩), .rown _ Cx.put_eq, Grow.newNil C w hp.length⟩
theorem heap_new_cells (w : World) (cs : Array Value) (t : TypeId) : (w.alloc (.cells cs t)).heap[w.heap.size]? = some (.cells cs t (0, 0)) := heap_alloc_self w _
theorem md_boxX {t : TypeId} {x : AV} {v : Value} (hH : HR C H w) (h : Rel C w x v) {l : List AV} (hl : cellsO x = some l) (hn : ownIn.ownInL l = false) : Md P S C w H hp (Instr.box t v) (.val (.xp l)) := fun a new hq _ => by
 cases hq
 have hx : Cext C w ⟨C.ρ, fun b => C.I b \/ b = w.heap.size, C.O⟩ (w.alloc (.cells v.cells t)) := ⟨fun _ _ h => h, fun _ h => .inl h, fun b hb => heap_alloc w _ b (hH.ilt b hb)⟩
 refine ⟨.pointer (some ⟨w.heap.size, 0, none⟩), w.alloc (.cells v.cells t), ⟨C.ρ, fun b => C.I b \/ b = w.heap.size, C.O⟩, by simp [Instr.box, newVar, newRow], ⟨fun i p hp => ?_, fun i j b c n b' c' n' h1 h2 hne => hH.inj i j b c n b' c' n' h1 h2 hne, fun i b c n hp => ?_, fun b hb => ?_, fun b x hb => ?_⟩, ?_, ⟨rfl, rfl, rfl, by simp, fun k hk => heap_alloc w _ k hk, fun _ h => .inl h, fun b hb => hb.imp id fun e => by omega, fun _ _ => rfl, fun i b c m h1 h2 => (by simp at h2; omega), fun _ => rfl⟩⟩
 ·refine (hH.live i p hp).mono hx (fun q c m hq => heap_alloc w _ q ?_) fun b x hb => ⟨hb, heap_alloc w _ b (hH.sub b x hb).1⟩
  subst hq; exact (hH.fresh i q c m hp).1
 ·have := (hH.fresh i b c n hp)
  exact ⟨by simp; omega, fun hb => hb.elim this.2 fun e => by omega⟩
 ·rcases hb with hb | rfl
  ·have := hH.ilt b hb; simp; omega
  ·simp
 ·obtain ⟨s1, s2, s3, s4⟩ := hH.sub b x hb
  exact ⟨by simp; omega, fun hb => hb.elim s2 fun e => by omega, s3, s4.keep (heap_alloc w _ b s1)⟩
 ·refine .xp l _ v.cells.toList ((cellsO_rel h hl).mono hx) (fun _ => .inr rfl) (fun j hj => ?_) hn
  rw [cell_add (heap_new_cells w v.cells t)]; simp
theorem md_box {t : TypeId} {x : AV} {v : Value} (hH : HR C H w) (h : Rel C w x v) :
  Md P S C w H hp (Instr.box t v) (match cellsO x with
  | some l => (match hasN S.imm t with
    | true => (match ownIn.ownInL l with
      | false => .val (.xp l)
      | true => .blk (.cells t l) (fun i => .own i 0))
    | false => .blk (.cells t l) (fun i => .own i 0))
  | none => .fail) := by
 split
 ·rename_i l hl
  have key : Md P S C w H hp (Instr.box t v) (.blk (.cells t l) (fun i => .own i 0)) := by
   refine md_blk (cs := v.cells) (t := t) (cap := 0) (n := 0) hH (by simp [Instr.box, newVar, newRow]) (fun C' hx => ?_) (fun C' j hj => .own _ _ _ _ _ hj)
   exact ⟨v.cells.toList, (cellsO_rel h hl).mono hx, by simpa using heap_new_cells w v.cells t⟩
  split
  ·split
   ·rename_i hn
    exact md_boxX hH h hl hn
   ·exact key
  ·exact key
 ·exact .fail _
theorem md_alloc {t : TypeId} {old : Value} (hH : HR C H w) : Md P S C w H hp (Instr.alloc t true old) (match zeroL P t with | some l => .blk (.cells t l) (fun i => .own i 0) | none => .fail) := by
 split
 ·rename_i l hl
  obtain ⟨i, z, hi, hz, hsz, rfl⟩ := zeroL_some hl
  refine md_blk (cs := z.cells) (t := t) (cap := 0) (n := 0) (v := .pointer (some ⟨w.heap.size, 0, none⟩)) hH ?_ (fun C' hx => ?_) (fun C' j hj => .own _ _ _ _ _ hj)
  ·simp [Instr.alloc, zeroValue, typeInfo, hi, hz, newVar, newRow]
  ·exact ⟨z.cells.toList, relL_toA _, by simpa using heap_new_cells w z.cells t⟩
 ·exact .fail _
theorem bigT_some {t : TypeId} {n : Nat} {z : AV} (h : bigT P t = some (n, z)) : ∃ e, P.underlying t = some (.array n e) /\ 15 < n := by
 unfold bigT at h
 split at h
 ·rename_i m e hu
  split at h
  ·rename_i hlt hz
   injection h with h; injection h with h1 h2; subst h1 h2
   exact ⟨e, hu, Nat.le_of_ble_eq_true hlt⟩
  ·cases h
 ·cases h
theorem zero_get {C : Cx} {w : World} {z0 : Value} {n : Nat} {z : AV} (h : z0.cells.toList.map toA = List.replicate n z) : z0.cells.size = n /\ ∀ j, j < n -> ∃ v, z0.cells[j]? = some v /\ Rel C w z v := by
 have hr := relL_toA (C := C) (w := w) z0.cells.toList
 have hl := congrArg List.length h
 simp at hl
 refine ⟨hl, fun j hj => ?_⟩
 rw [h] at hr
 obtain ⟨v, hv, hrel⟩ := hr.get (i := j) (a := z) (by simp [hj])
 exact ⟨v, by simpa using hv, hrel⟩
theorem md_allocM {t : TypeId} {old : Value} {n : Nat} {z : AV} (hH : HR C H w) (hb : bigT P t = some (n, z)) (hz : ZeroIs P (t, n, z)) :
  Md P S C w H hp (Instr.alloc t true old) (.blk (.mat t n (.lit 1) (fun _ _ => z)) (fun i => .elt i n 0 0)) := by
 obtain ⟨e, hu, hn⟩ := bigT_some hb
 obtain ⟨i, z0, hi, hz0, hsz, hl⟩ := zeroL_some hz.zero
 refine md_blk (cs := z0.cells) (t := t) (cap := 1) (n := 1) (v := .pointer (some ⟨w.heap.size, 0, none⟩)) hH ?_ (fun C' hx => ?_) (fun C' j hj => by simpa using Rel.elt j n 0 0 w.heap.size 1 1 hj (by decide))
 ·simp [Instr.alloc, zeroValue, typeInfo, hi, hz0, newVar, newRow]
 ·obtain ⟨g1, g2⟩ := zero_get (C := C') (w := w.alloc (.cells z0.cells t)) hl.symm
  have g1 : z0.cells.size = n := g1
  refine ⟨rfl, Nat.le_refl _, ⟨by omega, by decide⟩, z0.cells, heap_new_cells w z0.cells t, by omega, fun k hk j hj => ⟨hz.ok, ?_⟩⟩
  obtain rfl : k = 0 := by omega
  obtain ⟨v, h1, h2⟩ := g2 j hj
  exact ⟨v, by simpa using h1, h2⟩
theorem md_allocX {t : TypeId} {old : Value} (hS : ∀ t ks, findS S.eqs t = some ks -> EqOK P t ks) (hH : HR C H w) : Md P S C w H hp (Instr.alloc t true old) (match bigT P t with
  | some (n, z) => (match hasZ S t with | true => .blk (.mat t n (.lit 1) (fun _ _ => z)) (fun i => .elt i n 0 0) | false => .fail)
  | none => (match zeroL P t with | some l => .blk (.cells t l) (fun i => .own i 0) | none => .fail)) := by
 split
 ·rename_i n z hb
  split
  ·rename_i hz; exact md_allocM hH hb (hasZ_ok hS hz hb)
  ·exact .fail _
 ·exact md_alloc hH
theorem prel_parts {ρ : Operand -> AV} {σ : Operand -> Value} : ∀ (l : List (Nat × Operand)), (∀ x ∈ l, Rel C w (ρ x.2) (σ x.2)) -> PRel C w (partsA ρ l) (l.map fun (i, x) => (i, σ x))
 | [], _ => .nil
 | (i, o) :: l, h => .cons _ _ _ _ _ (h (i, o) (by simp)) (prel_parts l fun x hx => h x (by simp [hx]))
theorem run_places (w : World) : ∀ (fs : List Field), fs.all (fun f => (P.info? f.type).isSome) = true ->
  (fs.mapM fun f => Prod.mk f.offset <$> sizeOf f.type).run P w = .ok (fs.map fun f => (f.offset, sizeT P f.type)) w
 | [], _ => by simp
 | f :: fs, h => by
   simp only [List.all_cons, Bool.and_eq_true] at h
   obtain ⟨i, hi⟩ := Option.isSome_iff_exists.1 h.1
   simp [List.mapM_cons, run_sizeT hi, run_places w fs h.2]
theorem vd_build {t : TypeId} {parts : Array (Nat × Value)} {ps : List (Nat × AV)} (h : PRel C w ps parts.toList) : Vd P S C w hp (Instr.build t parts) (buildA P t ps) := by
 unfold buildA
 split
 ·rename_i z fs hz hu
  obtain ⟨i, z0, hi, hz0, hsz, rfl⟩ := zeroL_some hz
  split
  ·rename_i l hall hl
   obtain ⟨us, hf, hr⟩ := fillS_rel (place := fun k => (fs.toList.map fun f => (f.offset, sizeT P f.type))[k]?) (fun k f hk => by simp [hk]) ps _ _ l _ h (relL_toA (C := C) (w := w) z0.cells.toList) hl
   refine .val ?_ (.agg _ _ hr)
   have hpl := run_places (P := P) w fs.toList hall
   generalize (fs.toList.map fun f => (f.offset, sizeT P f.type)) = places at hf hpl
   have hf' : Instr.fill (fun x => places[x]?) z0.cells parts.toList = some ⟨us⟩ := hf
   simp [Instr.build, zeroValue, typeInfo, hi, hz0, run_underlying hu, Array.mapM_eq_mapM_toList, hpl, hf']
  ·exact .fail _
 ·rename_i z n e hz hu
  obtain ⟨i, z0, hi, hz0, hsz, rfl⟩ := zeroL_some hz
  split
  ·exact .fail _
  ·rename_i s hs
   obtain ⟨ie, hie⟩ := sizeT_info hs
   have hsz := run_sizeT hie w
   rw [hs] at hsz
   split
   ·rename_i l hl
    obtain ⟨us, hf, hr⟩ := fillL_rel (size := s + 1) (place := fun i => some (i * (s + 1), s + 1)) (fun _ => rfl) ps _ _ l _ h (relL_toA (C := C) (w := w) z0.cells.toList) hl
    refine .val ?_ (.agg _ _ hr)
    have hf' : Instr.fill (fun i => some (i * (s + 1), s + 1)) z0.cells parts.toList = some ⟨us⟩ := hf
    simp [Instr.build, zeroValue, typeInfo, hi, hz0, run_underlying hu, hsz, hf']
   ·exact .fail _
 ·exact .fail _
theorem repL_rel (zs : List Value) : ∀ n, RelL C w (repL (zs.map toA) n) (List.replicate n zs).flatten
 | 0 => .nil
 | n + 1 => by
   simp only [repL, appL_eq, List.replicate_succ, List.flatten_cons]
   exact (relL_toA zs).append (repL_rel zs n)
theorem rangeRep (zs : Array Value) (n : Nat) (hz : 0 < zs.size) : ((Array.range (n * zs.size)).map (fun i => zs[i % zs.size]!)).toList = (List.replicate n zs.toList).flatten := by
 induction n with
 | zero => simp
 | succ n ih =>
   apply List.ext_getElem?
   intro k
   have hfl : (List.replicate n zs.toList).flatten.length = n * zs.size := by simp
   rw [List.replicate_succ', List.flatten_append]
   by_cases hk : k < n * zs.size
   ·rw [List.getElem?_append_left (by rw [hfl]; exact hk), <- ih]
    have h2 : k < (n + 1) * zs.size := by rw [Nat.add_mul]; omega
    simp [hk, h2]
   ·rw [List.getElem?_append_right (by rw [hfl]; omega), hfl]
    simp only [List.flatten_cons, List.flatten_nil, List.append_nil, Array.getElem?_toList]
    by_cases h2 : k < (n + 1) * zs.size
    ·have h3 : k - n * zs.size < zs.size := by rw [Nat.add_mul] at h2; omega
     have h4 : k % zs.size = k - n * zs.size := by
      have : k = (k - n * zs.size) + n * zs.size := by omega
      rw [this, Nat.add_mul_mod_self_right, Nat.mod_eq_of_lt h3]; omega
     simp [h2, h3, h4]
    ·have h3 : ¬ k - n * zs.size < zs.size := by rw [Nat.add_mul] at h2; omega
     simp [h2]; omega
theorem chunk_rel {l : List AV} {vs : List Value} (h : RelL C w l vs) (k s : Nat) : RelL C w (takeL (dropL l (k * s)) s) ((vs.drop (k * s)).take s) := by
 rw [takeL_eq, dropL_eq]; exact (h.drop _).take _
theorem okL_drop (n : Nat) : ∀ {l : List AV}, okL l = true -> okL (l.drop n) = true := by
 induction n with
 | zero => intro l h; simpa using h
 | succ n ih => intro l h; cases l with
   | nil => simpa using h
   | cons a l => simp [okL] at h; simpa using ih h.2
theorem okL_take (n : Nat) : ∀ {l : List AV}, okL l = true -> okL (l.take n) = true := by
 induction n with
 | zero => intro l _; simp [okL]
 | succ n ih => intro l h; cases l with
   | nil => simpa using h
   | cons a l => simp [okL] at h; simp [okL, h.1, ih h.2]
theorem fillL_len {size : Nat} : ∀ (parts : List (Nat × AV)) (cs l : List AV), fillL size cs parts = some l -> l.length = cs.length
 | [], cs, l, h => by simp [fillL] at h; rw [h]
 | (i, a) :: parts, cs, l, h => by
   simp only [fillL, spineK_eq] at h
   split at h
   ·cases h
   ·split at h
    ·rename_i m hm hd
     simp at hd
     rw [fillL_len parts _ _ h, pasteL_eq]
     simp; omega
    ·cases h
theorem repL_len (zs : List AV) : ∀ n, (repL zs n).length = n * zs.length
 | 0 => by simp [repL]
 | n + 1 => by simp [repL, appL_eq, repL_len zs n, Nat.add_mul, Nat.add_comm]
theorem md_buildSlice {t : TypeId} {n : Nat} {parts : Array (Nat × Value)} {ps : List (Nat × AV)} (hH : HR C H w) (h : PRel C w ps parts.toList) (d : Nat) (hno : rowIn.rowInL (ps.map (·.2)) = none) :
  Md P S C w H hp (Instr.buildSlice t n parts) (buildSliceA P hp t n (d + 1) ps) := by
 unfold buildSliceA
 simp only [hno]
 split
 ·rename_i e hu
  split
  ·rename_i zz s hz hd hs
   obtain ⟨i, z0, hi, hz0, hsz, rfl⟩ := zeroL_some hz
   have hszT : sizeT P e = i.size := by simp [sizeT, hi]
   have hzs : z0.cells.size = s + 1 := by omega
   have hle : n * (s + 1) <= 1000 := by simpa [hs] using hd
   have hr0 : RelL C w (repL (z0.cells.toList.map toA) n) (List.replicate n z0.cells.toList).flatten := repL_rel _ n
   cases hfl : fillL (s + 1) (repL (z0.cells.toList.map toA) n) ps with
   | none => exact .fail _
   | some l =>
     obtain ⟨us, hf, hr⟩ := fillL_rel (size := s + 1) (place := fun i => some (i * (s + 1), s + 1)) (fun _ => rfl) ps _ _ l _ h hr0 hfl
     have hlen : us.length = n * (s + 1) := by rw [<- hr.len, fillL_len _ _ _ hfl, repL_len]; simp [hzs]
     have hf' : Instr.fill (fun i => some (i * (s + 1), s + 1)) ⟨(List.replicate n z0.cells.toList).flatten⟩ parts.toList = some ⟨us⟩ := hf
     have hrun : (Instr.buildSlice t n parts).run P w = .ok (.slice (some ⟨w.heap.size, 0, none⟩) n n) (w.alloc (.cells ⟨us⟩ e)) := by
      have h24 : ¬ n * (s + 1) > 2 ^ 24 := by omega
      by_cases hn : n = 0
      ·subst hn
       simp at hf'
       have e0 : Array.map (fun _ : Nat => (default : Value)) (Array.range 0) = #[] := by rw [Array.range_zero']; simp
       simp [Instr.buildSlice, run_underlying hu, sizeOf, typeInfo, hi, <- hszT, hs, newRow, e0, hf']
      ·have hpos : n * (s + 1) ≠ 0 := Nat.mul_ne_zero hn (Nat.succ_ne_zero _)
       have hrr := rangeRep z0.cells n (by omega)
       have hrr' : (Array.range (n * (s + 1))).map (fun i => z0.cells[i % (s + 1)]!) = ⟨(List.replicate n z0.cells.toList).flatten⟩ := by
        rw [<- hzs]; apply Array.ext'; rw [hrr]
       simp only [Instr.buildSlice, Sem.run_bind, run_underlying hu, Result.andThen_ok, sizeOf, typeInfo, run_program, hi, Sem.run_pure, <- hszT, hs, Nat.succ_eq_add_one, h24, hpos, if_false, zeroValue, hz0, hzs, hrr', hf', newRow]
       simp
     simp only
     cases hok : okL l with
     | true =>
       rw [show rowAt (s + 1) l = (fun k => takeL (dropL l (k * (s + 1))) (s + 1)) from funext fun k => rowAt_eq _ k l]
       refine md_blk (cs := ⟨us⟩) (t := e) (cap := n) (n := n) hH hrun (fun C' hx => ?_) (fun C' j hj => .row _ _ _ _ hj)
       refine ⟨rfl, Nat.le_refl _, ⟨Nat.succ_pos _, by have : n * 1 <= n * (s + 1) := Nat.mul_le_mul_left _ (by omega); simp only [maxLen]; omega⟩, ⟨us⟩, fun k => (us.drop (k * (s + 1))).take (s + 1), heap_new_cells _ _ _, by simp [hlen], fun k hk => ⟨(chunk_rel hr k (s + 1)).mono hx, ?_, ?_, ?_⟩⟩
       ·show okL (takeL (dropL l (k * (s + 1))) (s + 1)) = true
        rw [takeL_eq, dropL_eq]; exact okL_take _ (okL_drop _ hok)
       ·have : (k + 1) * (s + 1) <= n * (s + 1) := Nat.mul_le_mul_right _ hk
        rw [Nat.add_mul] at this
        simp [hlen]; omega
       ·intro j hj
        simp [hj, List.getElem?_drop]
     | false =>
       refine md_blk (cs := ⟨us⟩) (t := e) (cap := 0) (n := 0) hH hrun (fun C' hx => ⟨us, hr.mono hx, heap_new_cells _ _ _⟩) (fun C' j hj => .lsl _ _ _ _ _ _ hj)
  ·exact .fail _
 ·exact .fail _
end
end Abs
end Go.Proofs.Ytdfdjlijghjdaaa

namespace Go.Proofs.Ytdfdjlijghjdaaa
namespace Abs
open Go Go.RowKit
section
variable {P : Program} {S : Sums} {C : Cx} {w : World} {H hp : Heap}
def flat (vs : Nat -> List Value) (m : Nat) : List Value := (List.range m).flatMap vs
theorem flat_succ (vs : Nat -> List Value) (m : Nat) : flat vs (m + 1) = flat vs m ++ vs m := by simp [flat, List.range_succ]
theorem flat_len {vs : Nat -> List Value} {m sz : Nat} (h : ∀ k, k < m -> (vs k).length = sz) : (flat vs m).length = m * sz := by
 induction m with
 | zero => simp [flat]
 | succ m ih => rw [flat_succ, List.length_append, ih (fun k hk => h k (by omega)), h m (by omega), Nat.add_mul, Nat.one_mul]
theorem flat_get {vs : Nat -> List Value} {m sz : Nat} (h : ∀ k, k < m -> (vs k).length = sz) {k j : Nat} (hk : k < m) (hj : j < sz) : (flat vs m)[k * sz + j]? = (vs k)[j]? := by
 induction m with
 | zero => omega
 | succ m ih =>
   rw [flat_succ]
   have hl := flat_len (vs := vs) (m := m) (fun k hk => h k (by omega))
   by_cases hkm : k < m
   ·have : (k + 1) * sz <= m * sz := Nat.mul_le_mul_right _ hkm
    rw [Nat.add_mul] at this
    rw [List.getElem?_append_left (by omega)]
    exact ih (fun k hk => h k (by omega)) hkm
   ·obtain rfl : k = m := by omega
    rw [List.getElem?_append_right (by omega), hl, Nat.add_sub_cancel_left]
theorem flat_mem {vs : Nat -> List Value} {m : Nat} {p : Value -> Prop} (h : ∀ k, k < m -> ∀ u ∈ vs k, p u) : ∀ u ∈ flat vs m, p u := by
 intro u hu
 simp [flat] at hu
 obtain ⟨k, hk, hu⟩ := hu
 exact h k hk u hu
theorem div_split {m sz j : Nat} (hsz : 0 < sz) (h : j < m * sz) : ∃ k r, k < m /\ r < sz /\ j = k * sz + r :=
 ⟨j / sz, j % sz, (Nat.div_lt_iff_lt_mul hsz).2 h, Nat.mod_lt _ hsz, by rw [Nat.mul_comm]; exact (Nat.div_add_mod j sz).symm⟩
theorem read_rel {a : AV} {v : Value} {m : LN} {sz : Nat} {el : Nat -> List AV} (hH : HR C H w) (hpre : Pre hp H) (h : Rel C w a v) (hr : readS hp a = some (m, sz, el)) :
  ∃ (A : Option Addr) (c : Nat) (vs : Nat -> List Value), v = .slice A m.val c /\ m.val <= c /\ (0 < m.val -> ∃ ad, A = some ad /\ ad.block < w.heap.size /\ ∀ k, k < m.val -> ∀ j, j < sz -> w.cell? (ad.add (k * sz + j)) = (vs k)[j]?) /\
    ∀ k, k < m.val -> RelL C w (el k) (vs k) /\ okL (el k) = true /\ (vs k).length = sz := by
 unfold readS at hr
 split at hr
 ·rename_i j
  split at hr
  ·rename_i n sz' el' hb
   simp at hr
   obtain ⟨rfl, rfl, rfl⟩ := hr
   obtain ⟨hlt, hB⟩ := hpre.old hb (by simp)
   cases h with
   | row _ bl c q hρ =>
     have hl := hH.live _ _ hρ
     rw [hB] at hl
     obtain ⟨hm, hcap, hs0, cs, vs, hh, hsz, hcell⟩ := hl
     refine ⟨_, c, vs, by rw [hm], by omega, fun _ => ⟨_, rfl, (hH.fresh _ _ _ _ hρ).1, fun k hk j hj => ?_⟩, fun k hk => ?_⟩
     ·rw [add_lit, hm] at *
      have := (hcell k hk).2.2.2 j hj
      rw [<- this]; simp [World.cell?, hh]
     ·rw [hm] at hk; exact ⟨(hcell k hk).1, (hcell k hk).2.1, (hcell k hk).2.2.1⟩
   | rown _ hρ =>
     have hl := hH.live _ _ hρ
     rw [hB] at hl
     obtain ⟨h0, _⟩ : sz'.val = 0 /\ _ := hl
     exact ⟨none, 0, fun _ => [], by rw [h0], by omega, fun h0 => by omega, fun k hk => by omega⟩
  ·cases hr
 ·simp at hr
  obtain ⟨rfl, rfl, rfl⟩ := hr
  cases h with
  | slc _ _ _ A cap vs hcap hA hrl hl hn =>
    refine ⟨A, cap, vs, rfl, hcap, fun h0 => ?_, fun k hk => ⟨hrl k hk, hn k hk, hl k hk⟩⟩
    obtain ⟨ad, rfl, hI, hc⟩ := hA h0
    exact ⟨ad, rfl, hH.ilt _ hI, hc⟩
 ·cases hr
theorem grownBy_grow {w' : World} {j cap n : Nat} {g : Nat} (hg : w.grownBy w' none) (hge : w.heap.size <= g) : Grow j 1 C w (C.put j (.at g cap n)) w' :=
 ⟨hg.os, hg.tape, hg.output, hg.size, fun k hk => hg.block k hk (by simp), fun _ h => h, fun _ h => .inl h, fun i hi => Cx.put_ne (by omega),
  fun i b c m h1 h2 h => (by
   obtain rfl : i = j := by omega
   rw [Cx.put_eq] at h; injection h with h; injection h with h; omega), fun _ => rfl⟩
theorem HR.newAt (h : HR C H w) {w' : World} {j g cap n : Nat} (hj : C.ρ j = none) (hg : w.grownBy w' none) (hge : w.heap.size <= g) (hlt : g < w'.heap.size)
  (hb : BRel (C.put j (.at g cap n)) w' (.at g cap n) (getB H j)) : HR (C.put j (.at g cap n)) H w' := by
 have hx : Cext C w (C.put j (.at g cap n)) w' := (grownBy_grow (C := C) (j := j) (cap := cap) (n := n) hg hge).cext (fun i h1 h2 => (show i = j by omega) ▸ hj) h.ilt
 refine ⟨fun i p hp => ?_, fun i i' b c m b' c' m' hp hp' hne => ?_, fun i b c m hp => ?_, fun b hb => Nat.lt_of_lt_of_le (h.ilt b hb) hg.size, fun b x hb => ?_⟩
 ·by_cases hi : i = j
  ·subst hi; rw [Cx.put_eq] at hp; injection hp with hp; subst hp; exact hb
  ·rw [Cx.put_ne hi] at hp
   refine (h.live i p hp).mono hx (fun q c m hq => hg.block q ?_ (by simp)) fun b x hb => ⟨hb, hg.block b (h.sub b x hb).1 (by simp)⟩
   subst hq; exact (h.fresh i q c m hp).1
 ·by_cases hi : i = j
  ·by_cases hi' : i' = j
   ·omega
   ·subst hi; rw [Cx.put_eq] at hp; rw [Cx.put_ne hi'] at hp'
    injection hp with hp; injection hp with hp _ _
    have := (h.fresh _ _ _ _ hp').1; omega
  ·rw [Cx.put_ne hi] at hp
   by_cases hi' : i' = j
   ·subst hi'; rw [Cx.put_eq] at hp'
    injection hp' with hp'; injection hp' with hp' _ _
    have := (h.fresh _ _ _ _ hp).1; omega
   ·rw [Cx.put_ne hi'] at hp'; exact h.inj _ _ _ _ _ _ _ _ hp hp' hne
 ·by_cases hi : i = j
  ·subst hi; rw [Cx.put_eq] at hp; injection hp with hp; injection hp with hp _ _
   subst hp
   exact ⟨hlt, fun hI => by have := h.ilt _ hI; omega⟩
  ·rw [Cx.put_ne hi] at hp
   exact ⟨Nat.lt_of_lt_of_le (h.fresh _ _ _ _ hp).1 hg.size, (h.fresh _ _ _ _ hp).2⟩
 ·obtain ⟨s1, s2, s3, s4⟩ := h.sub b x hb
  refine ⟨Nat.lt_of_lt_of_le s1 hg.size, s2, fun i b' c m hp => ?_, s4.keep (hg.block b s1 (by simp))⟩
  by_cases hi : i = j
  ·subst hi; rw [Cx.put_eq] at hp; injection hp with hp; injection hp with hp _ _
   omega
  ·rw [Cx.put_ne hi] at hp; exact s3 i b' c m hp
theorem own_brel {w' : World} {C' : Cx} {base : Nat} {e : TypeId} {sz g n cap : Nat} {m : LN} {el : Nat -> List AV} {vs : Nat -> List Value} (hsz : 0 < sz) (hm : m.val = n)
  (ho : w'.ownsRow base e sz (.slice (some ⟨g, 0, none⟩) n cap) n (flat vs n)) (hv : ∀ k, k < n -> RelL C' w' (el k) (vs k) /\ okL (el k) = true /\ (vs k).length = sz) : BRel C' w' (.at g cap n) (.row e sz m el) := by
 obtain ⟨hl, h | ⟨g', cap', cur, hs, hbase, hh, hn, hmx, hcs, htk⟩⟩ := ho
 ·cases h.1
 ·injection hs with h1 h2 h3
  injection h1 with h1; injection h1 with h1
  subst h1 h3
  refine ⟨hm, hn, ⟨hsz, hmx⟩, cur, vs, hh, hcs, fun k hk => ⟨(hv k hk).1, (hv k hk).2.1, (hv k hk).2.2, fun j hj => ?_⟩⟩
  rw [<- flat_get (fun k hk => (hv k hk).2.2) hk hj, <- htk]
  have : (k + 1) * sz <= n * sz := Nat.mul_le_mul_right _ hk
  rw [Nat.add_mul] at this
  rw [List.getElem?_take, if_pos (by omega)]; simp
theorem bytes_le {a b : Nat} (h : a * (b + 1) <= maxRow) : a <= maxLen /\ a * b <= 140737488355328 := by
 have h1 : a * (b + 1) = a * b + a := by rw [Nat.mul_add, Nat.mul_one]
 simp only [maxRow] at h
 simp only [maxLen]
 omega
theorem md_appendNil {t ty e : TypeId} {x : AV} {v : Value} {m : LN} {sz : Nat} {el : Nat -> List AV} (hH : HR C H w) (hpre : Pre hp H) (ht : P.underlying t = some (.slice e)) (h : Rel C w x v)
  (hr : readS hp x = some (m, sz, el)) (hsz : sz = sizeT P e) (hpos : 0 < sz) {z : List AV} (hz : zeroL P e = some z) (hb : m.val * (bytesT P e + 1) <= maxRow) :
  Md P S C w H hp (Builtin.append_ #[t, t] ty #[.slice none 0 0, v]) (.blk (.row e sz m el) .row) := by
 obtain ⟨A, c, vs, rfl, hcap, hA, hel⟩ := read_rel hH hpre h hr
 obtain ⟨i, z0, hi, hz0, hzs, rfl⟩ := zeroL_some hz
 have hszi : i.size = sz := by rw [hsz]; simp [sizeT, hi]
 have hby : i.bytes = bytesT P e := by simp [bytesT, hi]
 rcases Nat.eq_zero_or_pos m.val with h0 | h0
 ·refine md_nil hH ?_ h0 hpos
  cases A with
  | none => rw [h0]; simp [Builtin.append_, run_underlying ht, sizeOf, typeInfo, hi, Builtin.lenOf, Builtin.firstCells]
  | some ad => rw [h0]; simp [Builtin.append_, run_underlying ht, sizeOf, typeInfo, hi, Builtin.lenOf, Builtin.firstCells, loadCells, loadCellsFrom]
 ·obtain ⟨ad, rfl, hlt, hc⟩ := hA h0
  have hl := flat_len (fun k hk => (hel k hk).2.2)
  obtain ⟨hb1, hb2⟩ := bytes_le hb
  intro a new hq hf
  cases hq
  obtain ⟨hg, hn⟩ := hf 0 (by simp)
  simp [getB] at hg hn
  obtain ⟨v', w', hrun, hown, hgrow, hnil, hat⟩ := run_append_own_at (P := P) w w.heap.size t ty e i z0 sz (bytesT P e) ht hi hz0 hszi hby (by omega) hpos
   (.slice none 0 0) 0 [] ⟨by simp, .inl ⟨rfl, rfl⟩⟩ ad m.val c (flat vs m.val) hl
   (fun j u hj => by
    have hjl : j < m.val * sz := by rw [<- hl]; exact (List.getElem?_eq_some_iff.1 hj).1
    obtain ⟨k, r, hk, hr', rfl⟩ := div_split hpos hjl
    rw [hc k hk r hr', <- flat_get (fun k hk => (hel k hk).2.2) hk hr', hj])
   (flat_mem fun k hk u hu => okL_one (hel k hk).1 (hel k hk).2.1 u hu) (by omega) (by simpa using hb2) (Nat.le_refl _)
  simp at hown
  have hown' := hown
  obtain ⟨_, hn0 | ⟨g, cap, cur, hv, hge, hh, _⟩⟩ := hown
  ·omega
  ·subst hv
   have hlt' : g < w'.heap.size := by
    rcases Nat.lt_or_ge g w'.heap.size with h | h
    ·exact h
    ·rw [Array.getElem?_eq_none h] at hh; cases hh
   have hx : Cext C w (C.put hp.length (.at g cap m.val)) w' := (grownBy_grow (C := C) (j := hp.length) (cap := cap) (n := m.val) hgrow hge).cext (fun i h1 h2 => (show i = hp.length by omega) ▸ hn) hH.ilt
   exact ⟨_, w', _, hrun, hH.newAt hn hgrow hge hlt' (by rw [hg]; exact own_brel hpos rfl hown' fun k hk => ⟨(hel k hk).1.mono hx, (hel k hk).2⟩),
    .row _ _ _ _ Cx.put_eq, grownBy_grow hgrow hge⟩
end
end Abs
end Go.Proofs.Ytdfdjlijghjdaaa

namespace Go.Proofs.Ytdfdjlijghjdaaa
namespace Abs
open Go Go.RowKit
section
variable {P : Program} {S : Sums} {C : Cx} {w : World} {H hp : Heap}
theorem made_get (z : Array Value) (c : Nat) {k j : Nat} (_hz : 0 < z.size) (hk : k < c) (hj : j < z.size) : (madeCells z (c * z.size))[k * z.size + j]? = z[j]? := by
 have h1 : (k + 1) * z.size <= c * z.size := Nat.mul_le_mul_right _ hk
 rw [Nat.add_mul] at h1
 have h2 : k * z.size + j < c * z.size := by omega
 have h3 : (k * z.size + j) % z.size = j := by rw [Nat.add_comm, Nat.add_mul_mod_self_right, Nat.mod_eq_of_lt hj]
 simp [madeCells, h2, h3, hj]
theorem md_make {t e : TypeId} {z : List AV} {q : LN} {kl kc : IntKind} {l c : Int} (hH : HR C H w) (ht : P.underlying t = some (.slice e)) (hz : zeroL P e = some z) (hok : okL z = true) (hs : 0 < sizeT P e)
  (h0 : 0 <= l) (hlc : l <= c) (hb : c * (bytesT P e + 1) <= maxRow) (hq : (q.val : Int) = l) :
  Md P S C w H hp (Instr.makeSlice t (.int kl l) (.int kc c)) (.blk (.row e (sizeT P e) q (fun _ => z)) .row) := by
 obtain ⟨i, z0, hi, hz0, hzs, rfl⟩ := zeroL_some hz
 have hszi : i.size = sizeT P e := by simp [sizeT, hi]
 have hby : i.bytes = bytesT P e := by simp [bytesT, hi]
 obtain ⟨cn, rfl⟩ := Int.eq_ofNat_of_zero_le (Int.le_trans h0 hlc)
 obtain ⟨ln, rfl⟩ := Int.eq_ofNat_of_zero_le h0
 have hb' : cn * (bytesT P e + 1) <= maxRow := by
  have : ((cn * (bytesT P e + 1) : Nat) : Int) <= (maxRow : Nat) := by simpa using hb
  omega
 obtain ⟨h1, h2⟩ := bytes_le hb'
 have h3 : (i.bytes : Int) * (cn : Int) <= 281474976710656 := by
  have : ((i.bytes * cn : Nat) : Int) <= 281474976710656 := by rw [hby, Nat.mul_comm]; omega
  simpa using this
 have hrun := run_make (P := P) w t e i z0 ht hi hz0 kl kc ln cn h0 hlc h3 (by simp only [maxLen] at h1; omega)
 simp only [Int.toNat_natCast] at hrun
 refine md_blk (cap := cn) (n := ln) hH hrun (fun C' hx => ?_) (fun C' j hj => .row _ _ _ _ hj)
 refine ⟨by omega, by omega, ⟨hs, h1⟩, _, fun _ => z0.cells.toList, heap_new_cells _ _ _, by rw [size_madeCells, hszi], fun k hk => ⟨relL_toA _, hok, by simp; omega, fun j hj => ?_⟩⟩
 rw [<- hszi, <- hzs, made_get _ _ (by omega) (by omega) (by omega)]; simp
theorem md_makeM {t e : TypeId} {wd : Nat} {z : AV} {q : LN} {kl kc : IntKind} {l c : Int} (hH : HR C H w) (ht : P.underlying t = some (.slice e)) (hz : ZeroIs P (e, wd, z)) (hs : 0 < wd)
  (h0 : 0 <= l) (hlc : l <= c) (hb : c * (bytesT P e + 1) <= maxRow) (hq : (q.val : Int) = l) :
  Md P S C w H hp (Instr.makeSlice t (.int kl l) (.int kc c)) (.blk (.mat e wd q (fun _ _ => z)) .row) := by
 obtain ⟨i, z0, hi, hz0, hzs, hl⟩ := zeroL_some hz.zero
 have hby : i.bytes = bytesT P e := by simp [bytesT, hi]
 obtain ⟨cn, rfl⟩ := Int.eq_ofNat_of_zero_le (Int.le_trans h0 hlc)
 obtain ⟨ln, rfl⟩ := Int.eq_ofNat_of_zero_le h0
 have hb' : cn * (bytesT P e + 1) <= maxRow := by
  have : ((cn * (bytesT P e + 1) : Nat) : Int) <= (maxRow : Nat) := by simpa using hb
  omega
 obtain ⟨h1, h2⟩ := bytes_le hb'
 have h3 : (i.bytes : Int) * (cn : Int) <= 281474976710656 := by
  have : ((i.bytes * cn : Nat) : Int) <= 281474976710656 := by rw [hby, Nat.mul_comm]; omega
  simpa using this
 have hrun := run_make (P := P) w t e i z0 ht hi hz0 kl kc ln cn h0 hlc h3 (by simp only [maxLen] at h1; omega)
 simp only [Int.toNat_natCast] at hrun
 refine md_blk (cap := cn) (n := ln) hH hrun (fun C' hx => ?_) (fun C' j hj => .row _ _ _ _ hj)
 obtain ⟨g1, g2⟩ := zero_get (C := C') (w := w.alloc (.cells (madeCells z0.cells (cn * i.size)) e)) hl.symm
 have g1 : z0.cells.size = wd := g1
 refine ⟨by omega, by omega, ⟨hs, h1⟩, _, heap_new_cells _ _ _, by rw [size_madeCells, <- hzs, g1], fun k hk j hj => ⟨hz.ok, ?_⟩⟩
 obtain ⟨v, e1, e2⟩ := g2 j hj
 refine ⟨v, ?_, e2⟩
 rw [<- hzs, <- g1, made_get _ _ (by omega) (by omega) (by omega)]
 exact e1
theorem vd_sliceRun {t e : TypeId} {n : LN} {sz : Nat} {el : Nat -> List AV} {A : Option Addr} {nn cap : Nat} {lo hi : Option Value} {l h : Nat} {m : LN} (ht : P.underlying t = some (.slice e)) (hsz : sz = sizeT P e) {ie : TypeInfo} (hie : P.info? e = some ie)
  (hx : Rel C w (.slc n sz el) (.slice A nn cap)) (hlo : (lo = none /\ l = 0) \/ ∃ k, lo = some (.int k l)) (hhi : (hi = none /\ h = n.val) \/ ∃ k, hi = some (.int k h)) (h1 : l <= h) (h2 : h <= n.val) (hm : m.val = h - l) :
  Vd P S C w hp (Instr.sliceAt t (.slice A nn cap) lo hi none) (.val (.slc m sz (fun k => el (l + k)))) := by
 generalize hv : Value.slice A nn cap = v at hx
 cases hx with
 | slc _ _ _ A' cap' vs hcap hA hr hl hn =>
   injection hv with e1 e2 e3
   subst e1 e2 e3
   have hsz' := run_sizeT hie w
   have hrun : (Instr.sliceAt t (.slice A n.val cap) lo hi none).run P w = .ok (.slice (if cap = l then A else A.map (·.add (l * sz))) (h - l) (cap - l)) w := by
    have b1 : ∀ k, (Instr.sliceBound (.int k (h : Nat)) cap .sliceAcap).run P w = .ok h w := fun k => by
     simp [Instr.sliceBound, asIntOf, show h <= cap by omega]
    have b2 : ∀ k, (Instr.sliceBound (.int k (l : Nat)) h .sliceB).run P w = .ok l w := fun k => by
     simp [Instr.sliceBound, asIntOf, h1]
    rcases hlo with ⟨rfl, rfl⟩ | ⟨k, rfl⟩ <;> rcases hhi with ⟨rfl, rfl⟩ | ⟨k', rfl⟩ <;>
     simp [Instr.sliceAt, Instr.slice, run_underlying ht, Instr.sliceBounds, hsz', hsz, b1, b2]
   refine .val hrun ?_
   rw [<- hm]
   refine .slc _ _ _ _ _ (fun k => vs (l + k)) (by omega) (fun h0 => ?_) (fun k hk => hr _ (by omega)) (fun k hk => hl _ (by omega)) (fun k hk => hn _ (by omega))
   obtain ⟨ad, rfl, hI, hc⟩ := hA (by omega)
   rw [if_neg (by omega)]
   refine ⟨_, rfl, by rw [add_block]; exact hI, fun k hk j hj => ?_⟩
   rw [add_add, <- Nat.add_assoc, <- Nat.add_mul]
   exact hc (l + k) (by omega) j hj
theorem vd_bounds {t e : TypeId} {n : LN} {sz : Nat} {el : Nat -> List AV} {v : Value} {lo hi : Option AV} {vlo vhi : Option Value} (ht : P.underlying t = some (.slice e)) (hsz : sz = sizeT P e) {ie : TypeInfo} (hie : P.info? e = some ie)
  (hx : Rel C w (.slc n sz el) v) (hlo : (lo = none /\ vlo = none) \/ ∃ a u, lo = some a /\ vlo = some u /\ Rel C w a u) (hhi : (hi = none /\ vhi = none) \/ ∃ a u, hi = some a /\ vhi = some u /\ Rel C w a u) :
  Vd P S C w hp (Instr.sliceAt t v vlo vhi none) (boundsA n lo hi fun l m => .val (.slc m sz (fun k => el (l + k)))) := by
 have hform : ∃ A cap, v = .slice A n.val cap := by cases hx; exact ⟨_, _, rfl⟩
 obtain ⟨A, cap, rfl⟩ := hform
 unfold boundsA
 split
 ·obtain rfl : vlo = none := by rcases hlo with ⟨_, h⟩ | ⟨_, _, h, _⟩ <;> simp_all
  obtain rfl : vhi = none := by rcases hhi with ⟨_, h⟩ | ⟨_, _, h, _⟩ <;> simp_all
  have := vd_sliceRun (P := P) (S := S) (hp := hp) (l := 0) (h := n.val) (m := n) ht hsz hie hx (.inl ⟨rfl, rfl⟩) (.inl ⟨rfl, rfl⟩) (by omega) (by omega) (by omega)
  simpa using this
 ·rename_i k a
  obtain ⟨_, u, h1, rfl, hr⟩ : ∃ a' u, some (AV.li k a) = some a' /\ vlo = some u /\ Rel C w a' u := by rcases hlo with ⟨h, _⟩ | h; cases h; exact h
  injection h1 with h1; subst h1; cases hr
  obtain rfl : vhi = none := by rcases hhi with ⟨_, h⟩ | ⟨_, _, h, _⟩ <;> simp_all
  by_cases h0 : 0 <= a
  ·obtain ⟨an, rfl⟩ := Int.eq_ofNat_of_zero_le h0
   simp only [h0, decide_true, Int.toNat_natCast]
   cases n with
   | lit m =>
     simp only
     by_cases hm : an <= m
     ·simp only [hm, decide_true]
      exact vd_sliceRun ht hsz hie hx (.inr ⟨k, rfl⟩) (.inl ⟨rfl, rfl⟩) hm (Nat.le_refl _) rfl
     ·simp only [hm, decide_false]; exact .fail _
   | sym m =>
     simp only
     exact .need fun hm => vd_sliceRun ht hsz hie hx (.inr ⟨k, rfl⟩) (.inl ⟨rfl, rfl⟩) hm (Nat.le_refl _) (by simp [LN.val, nsub])
  ·simp only [h0, decide_false]; cases n <;> exact .fail _
 ·rename_i k a
  obtain ⟨_, u, h1, rfl, hr⟩ : ∃ a' u, some (AV.si k a) = some a' /\ vlo = some u /\ Rel C w a' u := by rcases hlo with ⟨h, _⟩ | h; cases h; exact h
  injection h1 with h1; subst h1; cases hr
  obtain rfl : vhi = none := by rcases hhi with ⟨_, h⟩ | ⟨_, _, h, _⟩ <;> simp_all
  refine .need fun hm => ?_
  obtain ⟨an, rfl⟩ := Int.eq_ofNat_of_zero_le hm.1
  simp only [nat, Int.toNat_natCast]
  exact vd_sliceRun ht hsz hie hx (.inr ⟨k, rfl⟩) (.inl ⟨rfl, rfl⟩) (by omega) (Nat.le_refl _) (by simp [LN.val, nsub])
 ·rename_i k b
  obtain ⟨_, u, h1, rfl, hr⟩ : ∃ a' u, some (AV.li k b) = some a' /\ vhi = some u /\ Rel C w a' u := by rcases hhi with ⟨h, _⟩ | h; cases h; exact h
  injection h1 with h1; subst h1; cases hr
  obtain rfl : vlo = none := by rcases hlo with ⟨_, h⟩ | ⟨_, _, h, _⟩ <;> simp_all
  by_cases h0 : 0 <= b
  ·obtain ⟨bn, rfl⟩ := Int.eq_ofNat_of_zero_le h0
   simp only [h0, decide_true, Int.toNat_natCast]
   exact .need fun hm => vd_sliceRun (h := bn) ht hsz hie hx (.inl ⟨rfl, rfl⟩) (.inr ⟨k, rfl⟩) (by omega) hm (by simp [LN.val])
  ·simp only [h0, decide_false]; exact .fail _
 ·rename_i k b
  obtain ⟨_, u, h1, rfl, hr⟩ : ∃ a' u, some (AV.si k b) = some a' /\ vhi = some u /\ Rel C w a' u := by rcases hhi with ⟨h, _⟩ | h; cases h; exact h
  injection h1 with h1; subst h1; cases hr
  obtain rfl : vlo = none := by rcases hlo with ⟨_, h⟩ | ⟨_, _, h, _⟩ <;> simp_all
  refine .need fun hm => ?_
  obtain ⟨bn, rfl⟩ := Int.eq_ofNat_of_zero_le hm.1
  simp only [nat, Int.toNat_natCast]
  exact vd_sliceRun (h := bn) ht hsz hie hx (.inl ⟨rfl, rfl⟩) (.inr ⟨k, rfl⟩) (by omega) (by omega) (by simp [LN.val])
 ·rename_i a b
  obtain ⟨_, u, h1, rfl, hr⟩ : ∃ a' u, some a = some a' /\ vlo = some u /\ Rel C w a' u := by rcases hlo with ⟨h, _⟩ | h; cases h; exact h
  injection h1 with h1; subst h1
  obtain ⟨_, u', h1, rfl, hr'⟩ : ∃ a' u, some b = some a' /\ vhi = some u /\ Rel C w a' u := by rcases hhi with ⟨h, _⟩ | h; cases h; exact h
  injection h1 with h1; subst h1
  cases hk : kindOf a with
  | none => exact .fail _
  | some k =>
    cases hk' : kindOf b with
    | none => exact .fail _
    | some k' =>
      rw [kindOf_rel hr hk, kindOf_rel hr' hk']
      simp only
      refine .need fun (hm : 0 <= intOf a /\ intOf a <= intOf b /\ intOf b <= (n.val : Int)) => ?_
      generalize intOf a = x at *
      generalize intOf b = y at *
      obtain ⟨an, rfl⟩ := Int.eq_ofNat_of_zero_le hm.1
      obtain ⟨bn, rfl⟩ := Int.eq_ofNat_of_zero_le (Int.le_trans hm.1 hm.2.1)
      simp only [nat, Int.toNat_natCast]
      exact vd_sliceRun (l := an) (h := bn) ht hsz hie hx (.inr ⟨k, rfl⟩) (.inr ⟨k', rfl⟩) (by omega) (by omega) (by simp [LN.val, nsub])
 ·exact .fail _
end
end Abs
end Go.Proofs.Ytdfdjlijghjdaaa
