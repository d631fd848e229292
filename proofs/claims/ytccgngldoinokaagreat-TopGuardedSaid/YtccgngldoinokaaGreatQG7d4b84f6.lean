/- A part of the proof: no statement of its own. -/
import Derived.WalkKit
import Derived.Maps.AppendAt
set_option linter.unusedSimpArgs false
set_option linter.unusedVariables false
namespace Go.Proofs.YtccgngldoinokaaGreat
namespace Abs
universe u
open Go
noncomputable section
inductive LN where
 | lit (n:Nat)
 | sym (n:Nat)
 deriving Inhabited
def LN.val:LN->Nat
 | .lit n=>n
 | .sym n=>n
inductive AV where
 | top
 | li (k:IntKind) (n:Int)
 | si (k:IntKind) (n:Int)
 | lb (b:Bool)
 | sb (b:Bool)
 | v (x:Value)
 | agg (l:List AV)
 | tup (l:List AV)
 | own (i off:Nat)
 | elt (i sz k off:Nat)
 | row (i:Nat)
 | lsl (i n sz:Nat)
 | slc (n:LN) (sz:Nat) (el:Nat->List AV)
 | xp (l:List AV)
 | fn (f:Fn) (first cap:List AV)
 | gd (k:Nat) (a:AV)
 | pa (n sz:Nat) (el:Nat->List AV)
 | mp (i:Nat)
 deriving Inhabited
inductive Blk where
 | dead
 | cells (t:TypeId) (l:List AV)
 | row (e:TypeId) (sz:Nat) (n:LN) (el:Nat->List AV)
 | mat (t:TypeId) (w:Nat) (n:LN) (f:Nat->Nat->AV)
 | rows (e e':TypeId) (sz:Nat) (n:LN) (fz:Nat->Bool) (ln:Nat->Nat) (el:Nat->Nat->List AV) (ho:Option (Nat × Option Nat))
 | tab (n:LN) (sz:Nat) (el:Nat->List AV)
 deriving Inhabited
abbrev A0:=List Blk
structure Cd where
 {α:Type}
 q:α->Prop
 x:α
@[reducible]def Cd.ok:Cd->Prop
 | ⟨q,x⟩=>q x
def Cd.under (c:Bool):Cd->Cd
 | @Cd.mk α q x=>⟨fun z:Bool × α=>z.1=true->q z.2,(c,x)⟩
inductive AR where
 | fail
 | val (a:AV)
 | need (p:Cd) (r:AR)
 | br (b:Bool) (t e:AR)
 | blk (b:Blk) (mk:Nat->AV)
 | upd (i:Nat) (b:Blk)
 | grow (i:Nat) (b:Blk)
 | frz (j:Nat) (a:AV) (r:AR)
 | call (f:FuncId) (args:List AV)
inductive AE where
 | normal
 | exit (id:Nat)
 | ret
structure Sum where
 pre:List Cd
 res:AV
 new:A0
structure Sum2 where
 pre:List Cd
 res:AV
 hp:A0
 mv:Option Nat:=none
abbrev Kz:=List AV->Option Sum
abbrev Ey:=List AV->A0->Option Sum2
structure Items where
 pre:List Cd
 n:Nat
 it:Nat->List AV
abbrev IN:=List AV->Option Items
structure Sums where
 one:List (Nat × Kz)
 two:List (Nat × Ey)
 lo:Nat:=0
 eqs:List (Nat × List (Option IntKind)):=[]
 its:List (Nat × IN):=[]
 imm:List Nat:=[]
structure AS where
 fr:List AV
 hp:A0
structure Ann where
 G:Type
 st:G->AS
 α:Type
 dat:G->α
 q:α->Prop
 mu:G->Nat
@[reducible]def Ann.pre (A:Ann) (g:A.G):Prop:=A.q (A.dat g)
inductive VC:Type 1 where
 | fail
 | need (p:Cd) (k:VC)
 | branch (b:Bool) (t e:VC)
 | out (r:AV) (hp:A0)
 | done
 | loop {A:Ann} (dat:A.G->A.α) (entry:VC) (body:A.G->VC)
 | ex {A:Ann} (dat:A.G->A.α) (mu:Option Nat) (k:A.G->VC)
@[irreducible]def k_ (a b:Int):Int:=a+b
@[irreducible]def UC (a b:Int):Int:=a-b
@[irreducible]def po (a b:Int):Int:=a*b
@[irreducible]def eY (a b:Int):Int:=a.tdiv b
@[irreducible]def Yi (a b:Int):Int:=a.tmod b
@[irreducible]def eU (a b:Int):Int:=a*2 ^ b.toNat
@[irreducible]def pi (a b:Int):Int:=a.fdiv (2 ^ b.toNat)
@[irreducible]def Yl (a b:Int):Bool:=a == b
@[irreducible]def ilt (a b:Int):Bool:=decide (a<b)
@[irreducible]def Mi (a b:Int):Bool:=decide (a<=b)
@[irreducible]def k8 (a b:Int):Int:=if b<a then b else a
@[irreducible]def k9 (a b:Int):Int:=if b > a then b else a
@[irreducible]def NJ (k:IntKind) (a:Int):Int:=k.wrap a
@[irreducible]def KL (op:BinOp) (k:IntKind) (a b:Int):Int:=bits op k a b
@[irreducible]def MA (a:Bool):Bool:=!a
@[irreducible]def Jp (a b:Bool):Bool:=a&&b
@[irreducible]def Z9 (a b:Bool):Bool:=a == b
@[irreducible]def bor (a b:Bool):Bool:=a||b
@[irreducible]def Iz (a:Int):Nat:=a.toNat
@[irreducible]def Em (a:Nat):Int:=(a:Int)
@[irreducible]def Ii (a b:Nat):Nat:=a+b
@[irreducible]def Hb (a b:Nat):Nat:=a-b
@[irreducible]def mI (a b:Nat):Bool:=decide (a<b)
@[irreducible]def Z7 (c a b:Bool):Bool:=bif c then a else b
def A4 (l:List AV):Nat->AV :=
 List.rec (motive:=fun _=>Nat->AV) (fun _=>.tup []) (fun a _ ih n=>Nat.rec (motive:=fun _=>AV) a (fun m _=>ih m) n) l
theorem Ws (n:Nat):A4 [] n=.tup []:=rfl
theorem Ej (a:AV) (l:List AV):A4 (a::l) 0=a:=rfl
theorem CO (a:AV) (l:List AV) (n:Nat):A4 (a::l) (n+1)=A4 l n:=rfl
def Ay:List AV->Nat->AV->List AV
 | [],_,_=>[]
 | _::l,0,a=>a::l
 | x::l,n+1,a=>x::Ay l n a
def A3:A0->Nat->Blk
 | [],_=>.dead
 | a::_,0=>a
 | _::l,n+1=>A3 l n
def AM:A0->Nat->Blk->A0
 | [],_,_=>[]
 | _::l,0,a=>a::l
 | x::l,n+1,a=>x::AM l n a
def AO:List AV->Nat->List AV
 | l,0=>l
 | [],_+1=>[]
 | _::l,n+1=>AO l n
def AW:List AV->Nat->List AV
 | _,0=>[]
 | [],_+1=>[]
 | a::l,n+1=>a::AW l n
def AZ (sz:Nat) (l:List AV):Nat->List AV
 | 0=>AW l sz
 | k+1=>AZ sz (AO l sz) k
def Es:List AV->List AV->List AV
 | [],m=>m
 | a::l,m=>a::Es l m
def EH (l:List AV) (off:Nat) (m:List AV):List AV:=Es (AW l off) (Es m (AO l (off+m.length)))
def Ec (a:AV) (k:AV->VC):VC :=
 @AV.casesOn (fun _=>VC) a (k .top) (fun a b=>k (.li a b)) (fun a b=>k (.si a b)) (fun b=>k (.lb b)) (fun b=>k (.sb b)) (fun x=>k (.v x)) (fun l=>k (.agg l)) (fun l=>k (.tup l))
  (fun i o=>k (.own i o)) (fun a b c d=>k (.elt a b c d)) (fun i=>k (.row i)) (fun a b c=>k (.lsl a b c)) (fun a b c=>k (.slc a b c)) (fun l=>k (.xp l)) (fun a b c=>k (.fn a b c)) (fun c a=>k (.gd c a)) (fun a b c=>k (.pa a b c)) (fun i=>k (.mp i))
def Av (l:List AV):(List AV->VC)->VC :=
 List.rec (motive:=fun _=>(List AV->VC)->VC) (fun k=>k []) (fun a _ ih k=>Ec a fun a'=>ih fun l'=>k (a'::l')) l
theorem X4 (a:AV) (l:List AV) (k:List AV->VC):Av (a::l) k=Ec a fun a'=>Av l fun l'=>k (a'::l'):=rfl
def ev (fr:List AV):Operand->AV
 | .tmp t=>A4 fr t
 | .const (.int k n)=>.li k n
 | .const (.bool b)=>.lb b
 | .const (.func f a b)=>.fn f (a.toList.map .v) (b.toList.map .v)
 | .const (.agg a)=>.agg (a.toList.map .v)
 | .const (.tuple a)=>.tup (a.toList.map .v)
 | .const x=>.v x
 | .global g=>.v (.pointer (some ⟨g,0,none⟩))
 | .func f=>.fn (.func f) [] []
def QL (ρ:Operand->AV):List Operand->List AV
 | []=>[]
 | o::l=>ρ o::QL ρ l
def O2 (k:IntKind) (n:Int):Prop:=k.min<=n/\n<=k.max
def vn (k:IntKind) (n:Int):Bool:=decide (k.min<=n)&&decide (n<=k.max)
def isAgg (P:Program) (t:TypeId):Option Bool:=match P.underlying t with|some (.struct _)=>some true|some (.array _ _)=>some true|some _=>some false|none=>none
def A9 (P:Program) (t:TypeId):Nat:=match P.info? t with|some i=>i.size|none=>0
def DJ (P:Program) (t:TypeId):Nat:=match P.info? t with|some i=>i.bytes|none=>0
def Pq (P:Program) (t:TypeId) (f:Nat):Option Field:=match P.underlying t with|some (.struct fs)=>fs.toList[f]? | _=>none
def nA:Value->AV
 | .int k n=>.li k n
 | .bool b=>.lb b
 | x=>.v x
def FD (P:Program) (t:TypeId):Option (List AV):=match P.info? t with
 | some i=>(match i.zero with
   | some z=>(match decide (z.cells.toList.length=i.size) with|true=>some (z.cells.toList.map nA)|false=>none)
   | none=>none)
 | none=>none
def Ev (P:Program) (t:TypeId) (l:List AV):AR :=
 match isAgg P t with
 | some true=>(match decide (A9 P t<=l.length) with|true=>.val (.agg (AW l (A9 P t)))|false=>.fail)
 | some false=>(match l with|a::_=>.val a|[]=>.fail)
 | none=>.fail
def AU:AV->List AV
 | .agg l=>l
 | a=>[a]
def AD:AV->Option IntKind
 | .li k _=>some k
 | .si k _=>some k
 | _=>none
def KR:AV->Bool
 | .li _ _=>true
 | .lb _=>true
 | _=>false
def AA:AV->Int
 | .li _ n=>n
 | .si _ n=>n
 | _=>0
def KW (k:IntKind) (lit:Bool) (x y:Int):AR :=
 match lit with
 | true=>(match vn k x with|true=>.val (.li k x)|false=>.val (.li k (k.wrap x)))
 | false=>(match k.signed with|true=>.need ⟨fun z:IntKind × Int=>O2 z.1 z.2,(k,y)⟩ (.val (.si k y))|false=>.val (.si k (NJ k y)))
def XK (lit:Bool) (x y:Bool):AR:=match lit with|true=>.val (.lb x)|false=>.val (.sb y)
def lm (op:BinOp) (k:IntKind) (lit:Bool) (a b:Int) (bl:Bool):AR :=
 match op with
 | .add=>KW k lit (a+b) (k_ a b)
 | .sub=>KW k lit (a-b) (UC a b)
 | .mul=>KW k lit (a*b) (po a b)
 | .quo=>(match lit with
   | true=>(match decide (b=0) with|true=>.fail|false=>KW k true (a.tdiv b) 0)
   | false=>(match bl with
     | true=>(match decide (b=0) with|true=>.fail|false=>KW k false 0 (eY a b))
     | false=>.need ⟨fun z:Int=>z≠0,b⟩ (KW k false 0 (eY a b))))
 | .rem=>(match lit with
   | true=>(match decide (b=0) with|true=>.fail|false=>.val (.li k (a.tmod b)))
   | false=>(match bl with
     | true=>(match decide (b=0) with|true=>.fail|false=>.val (.si k (Yi a b)))
     | false=>.need ⟨fun z:Int=>z≠0,b⟩ (.val (.si k (Yi a b)))))
 | .eql=>XK lit (a == b) (Yl a b)
 | .neq=>XK lit (a != b) (MA (Yl a b))
 | .lss=>XK lit (decide (a<b)) (ilt a b)
 | .leq=>XK lit (decide (a<=b)) (Mi a b)
 | .gtr=>XK lit (decide (b<a)) (ilt b a)
 | .geq=>XK lit (decide (b<=a)) (Mi b a)
 | .and=>.val (.si k (KL .and k a b))
 | .or=>.val (.si k (KL .or k a b))
 | .xor=>.val (.si k (KL .xor k a b))
 | _=>.fail
def ci (op:BinOp) (k:IntKind) (a b:Int):AR :=
 match op with
 | .shl=>.need ⟨fun z:IntKind × Int=>0<=z.2/\z.2<z.1.bits,(k,b)⟩ (match k.signed with|true=>.need ⟨fun z:IntKind × Int=>O2 z.1 z.2,(k,eU a b)⟩ (.val (.si k (eU a b)))|false=>.val (.si k (NJ k (eU a b))))
 | .shr=>.need ⟨fun z:IntKind × Int=>0<=z.2/\z.2<z.1.bits,(k,b)⟩ (.val (.si k (pi a b)))
 | _=>.fail
def eqA:AV->AV->Option AV
 | .lb a,.lb b=>some (.lb (a == b))
 | .lb a,.sb b=>some (.sb (Z9 a b))
 | .sb a,.lb b=>some (.sb (Z9 a b))
 | .sb a,.sb b=>some (.sb (Z9 a b))
 | _,_=>none
def eqI (a b:AV):Option Bool :=
 match AD a,AD b with
 | some k,some k'=>(match decide (k=k') with|true=>some (Yl (AA a) (AA b))|false=>none)
 | _,_=>none
def Fu:AV->Bool
 | .lb b=>b
 | .sb b=>b
 | _=>false
def wF (a b:AV):Option Bool:=match eqI a b with|some r=>some r|none=>(match eqA a b with|some r=>some (Fu r)|none=>none)
def F0:List AV->List AV->Option Bool
 | [],[]=>some true
 | a::l,b::m=>(match l,m with
   | [],[]=>wF a b
   | _,_=>(match wF a b,F0 l m with|some r,some s=>some (Jp r s)|_,_=>none))
 | _,_=>none
def YP:AV->AR
 | .lb b=>.val (.lb (!b))
 | .sb b=>.val (.sb (MA b))
 | _=>.fail
def mapR (f:Nat->Option AV):AV->AV
 | .row i=>(match f i with|some a=>a|none=>.row i)
 | .elt i a b c=>(match f i with|some _=>.top|none=>.elt i a b c)
 | .own i o=>(match f i with|some _=>.top|none=>.own i o)
 | .lsl i n s=>(match f i with|some _=>.top|none=>.lsl i n s)
 | .mp i=>(match f i with|some _=>.top|none=>.mp i)
 | .agg l=>.agg (mapRL f l)
 | .tup l=>.tup (mapRL f l)
 | .fn g a b=>.fn g (mapRL f a) (mapRL f b)
 | .gd k a=>.gd k (mapR f a)
 | a=>a
where mapRL (f:Nat->Option AV):List AV->List AV
 | []=>[]
 | a::l=>mapR f a::mapRL f l
def rowIn:AV->Option Nat
 | .row i=>some i
 | .agg l=>rowInL l
 | .tup l=>rowInL l
 | .fn _ a b=>(match rowInL a with|some i=>some i|none=>rowInL b)
 | .gd _ a=>rowIn a
 | _=>none
where rowInL:List AV->Option Nat
 | []=>none
 | a::l=>(match rowIn a with|some i=>some i|none=>rowInL l)
def LX:AV->Bool
 | .li _ _=>true
 | .si _ _=>true
 | .lb _=>true
 | .sb _=>true
 | .slc _ _ _=>true
 | .xp _=>true
 | .pa _ _ _=>true
 | .v x=>x.oneCell'
 | _=>false
def DV:List AV->Bool
 | []=>true
 | a::l=>LX a&&DV l
def jB:AV->Bool
 | .own _ _=>true
 | .elt _ _ _ _=>true
 | .row _=>true
 | .lsl _ _ _=>true
 | .fn _ _ _=>true
 | .mp _=>true
 | a=>LX a
def LU:List AV->Bool
 | []=>true
 | a::l=>jB a&&LU l
def Fe (P:Program) (hp:A0) (t:TypeId):AV->AR
 | .own i off=>(match A3 hp i with
   | .cells _ l=>Ev P t (AO l off)
   | _=>.fail)
 | .elt i sz k off=>(match A3 hp i with
   | .row _ sz' _ el=>(match Nat.beq sz sz' with|true=>Ev P t (AO (el k) off)|false=>.fail)
   | .mat _ w _ f=>(match Nat.beq sz w,isAgg P t with
     | true,some false=>.need ⟨fun z:Nat × Nat=>z.1<z.2,(off,w)⟩ (.val (f k off))
     | _,_=>.fail)
   | .rows _ _ sz2 _ fz ln el ho=>(match ho,Nat.beq sz 1&&Nat.beq off 0,isAgg P t with
     | some (k0,some h),true,some false=>.need ⟨fun z:Nat × Nat=>z.1=z.2,(k,k0)⟩ (.val (.row h))
     | none,true,some false=>.need ⟨fun z:Bool=>z=true,fz k⟩ (.val (.slc (.sym (ln k)) sz2 (el k)))
     | _,_,_=>.fail)
   | _=>.fail)
 | .xp l=>Ev P t l
 | .pa n _ el=>(match Ev P t (el 0) with|.val a=>.need ⟨fun z:Nat=>0<z,n⟩ (.val a)|_=>.fail)
 | _=>.fail
@[irreducible]def tQ (k:Nat) (c:List AV) (el:Nat->List AV) (j:Nat):List AV:=if j=k then c else el j
@[irreducible]def iQ (k j:Nat) (a b:Int):Int:=if j=k then a else b
@[irreducible]def iR (k j:Nat) (a b:Bool):Bool:=if j=k then a else b
def eX:AV->Bool
 | .lb _=>true
 | .sb _=>true
 | _=>false
def uy (k j:Nat) (x y:AV):Option AV :=
 match AD x,AD y with
 | some q,some q'=>(match decide (q=q') with|true=>some (.si q (iQ k j (AA x) (AA y)))|false=>none)
 | none,none=>(match eX x,eX y with|true,true=>some (.sb (iR k j (Fu x) (Fu y)))|_,_=>none)
 | _,_=>none
def WK (k j:Nat):List AV->List AV->Option (List AV)
 | [],[]=>some []
 | x::l,y::m=>(match uy k j x y,WK k j l m with|some z,some n=>some (z::n)|_,_=>none)
 | _,_=>none
@[irreducible]def gS (k j:Nat) (c:AV) (f:Nat->Nat->AV) (k' j':Nat):AV:=if k'=k/\j'=j then c else f k' j'
@[irreducible]def iO (k j k' j':Nat) (a b:Int):Int:=if k'=k/\j'=j then a else b
@[irreducible]def iP (k j k' j':Nat) (a b:Bool):Bool:=if k'=k/\j'=j then a else b
def ux (k j k' j':Nat) (x y:AV):Option AV :=
 match AD x,AD y with
 | some q,some q'=>(match decide (q=q') with|true=>some (.si q (iO k j k' j' (AA x) (AA y)))|false=>none)
 | none,none=>(match eX x,eX y with|true,true=>some (.sb (iP k j k' j' (Fu x) (Fu y)))|_,_=>none)
 | _,_=>none
def Xp (k j:Nat) (c:AV) (f:Nat->Nat->AV) (k' j':Nat):AV:=match ux k j k' j' c (f k' j') with|some z=>z|none=>gS k j c f k' j'
@[irreducible]def Xl (k:Nat) (c:Bool) (f:Nat->Bool) (k':Nat):Bool:=if k'=k then c else f k'
@[irreducible]def Xo (k:Nat) (c:Nat) (f:Nat->Nat) (k':Nat):Nat:=if k'=k then c else f k'
@[irreducible]def Xn (k:Nat) (c:Nat->List AV) (f:Nat->Nat->List AV) (k':Nat):Nat->List AV:=if k'=k then c else f k'
def Xm (k off:Nat) (cs c:List AV) (el:Nat->List AV) (j:Nat):List AV:=match WK k j c (el j) with
 | some l=>l
 | none=>(match WK k j cs (AW (AO (el j) off) cs.length) with
   | some m=>EH (el j) off m
   | none=>tQ k c el j)
def Fh (P:Program) (hp:A0) (t:TypeId) (p x:AV):AR :=
 match decide ((AU x).length=A9 P t/\0<A9 P t) with
 | false=>.fail
 | true=>(match p with
   | .own i off=>(match A3 hp i with
     | .cells t' l=>(match decide (off+(AU x).length<=l.length)&&LU (AU x) with
       | true=>.upd i (.cells t' (EH l off (AU x)))
       | false=>.fail)
     | _=>.fail)
   | .elt i sz' k off=>(match A3 hp i with
     | .row e sz n el=>(match decide (sz'=sz/\off+(AU x).length<=sz)&&DV (AU x) with
       | true=>.upd i (.row e sz n (Xm k off (AU x) (match decide (off=0/\(AU x).length=sz) with|true=>AU x|false=>EH (el k) off (AU x)) el))
       | false=>.fail)
     | .mat t' w n f=>(match AU x with
       | [c]=>(match decide (sz'=w)&&LX c with
         | true=>.need ⟨fun z:Nat × Nat=>z.1<z.2,(off,w)⟩ (.upd i (.mat t' w n (Xp k off c f)))
         | false=>.fail)
       | _=>.fail)
     | .rows e e' sz n fz ln el ho=>(match AU x,ho with
       | [.row h],some (k0,_)=>(match decide (sz'=1/\off=0) with
         | true=>.need ⟨fun z:Nat × Nat=>z.1=z.2,(k,k0)⟩ (.upd i (.rows e e' sz n fz ln el (some (k0,some h))))
         | false=>.fail)
       | _,_=>.fail)
     | _=>.fail)
   | _=>.fail)
def Fs (P:Program) (t:TypeId) (x:AV) (f:Nat):AR :=
 match Pq P t f with
 | none=>.fail
 | some fd=>(match A9 P fd.type with
   | 0=>.fail
   | _+1=>(match x with
     | .own i off=>.val (.own i (off+fd.offset))
     | .elt i sz k off=>.val (.elt i sz k (off+fd.offset))
     | .xp l=>.val (.xp (AO l fd.offset))
     | _=>.fail))
def idx (a:AV) (n:LN) (k:Nat->AR):AR :=
 match a with
 | .li _ x=>(match decide (0<=x) with
   | true=>(match n with
     | .lit m=>(match decide (x.toNat<m) with|true=>k x.toNat|false=>.fail)
     | .sym m=>.need ⟨fun z:Nat × Nat=>z.1<z.2,(x.toNat,m)⟩ (k x.toNat))
   | false=>.fail)
 | .si _ x=>.need ⟨fun z:Int × Nat=>0<=z.1/\z.1<(z.2:Int),(x,n.val)⟩ (k (Iz x))
 | _=>.fail
def XQ (x:Int) (k:Nat->AR):Nat->AR
 | 0=>.fail
 | 1=>k 0
 | n+2=>.br (Yl x ((n+1:Nat):Int)) (k (n+1)) (XQ x k (n+1))
def xH (hp:A0) (n s:Nat) (x i:AV):Option AR :=
 match x with
 | .elt b w k off=>(match A3 hp b with
   | .mat _ w' _ _=>(match Nat.beq w w'&&Nat.beq n w&&Nat.beq s 0&&Nat.beq off 0 with
     | true=>some (idx i (.lit n) fun j=>.val (.elt b w k j))
     | false=>some .fail)
   | _=>some .fail)
 | .pa m sz el=>(match Nat.beq sz (s+1) with|true=>some (.need ⟨fun z:Nat × Nat=>z.1=z.2,(m,n)⟩ (idx i (.lit n) fun j=>.val (.xp (el j))))|false=>some .fail)
 | _=>none
def H6 (P:Program) (hp:A0) (t:TypeId) (x i:AV):AR :=
 match P.underlying t with
 | some (.array n e)=>(match A9 P e with
   | 0=>.fail
   | s+1=>(match xH hp n s x i with
    | some r=>r
    | none=>(match i with
     | .li _ j=>(match decide (0<=j/\j<n),x with
       | true,.own b off=>.val (.own b (off+j.toNat*(s+1)))
       | true,.xp l=>.val (.xp (AO l (j.toNat*(s+1))))
       | _,_=>.fail)
     | .si _ j=>(match Nat.ble n 16,x with
       | true,.own b off=>.need ⟨fun z:Int × Nat=>0<=z.1/\z.1<(z.2:Int),(j,n)⟩ (XQ j (fun k=>.val (.own b (off+k*(s+1)))) n)
       | true,.xp l=>.need ⟨fun z:Int × Nat=>0<=z.1/\z.1<(z.2:Int),(j,n)⟩ (XQ j (fun k=>.val (.xp (AO l (k*(s+1))))) n)
       | _,_=>.fail)
     | _=>.fail)))
 | some (.slice e)=>(match A9 P e with
   | 0=>.fail
   | s+1=>(match x with
     | .row b=>(match A3 hp b with
       | .row _ sz n _=>(match Nat.beq sz (s+1) with|true=>idx i n fun j=>.val (.elt b sz j 0)|false=>.fail)
       | .mat _ w n _=>(match Nat.beq w (s+1) with|true=>idx i n fun j=>.val (.elt b w j 0)|false=>.fail)
       | .rows _ _ _ n _ _ _ _=>(match Nat.beq s 0 with|true=>idx i n fun j=>.val (.elt b 1 j 0)|false=>.fail)
       | _=>.fail)
     | .slc n sz el=>(match Nat.beq sz (s+1) with|true=>idx i n fun j=>.val (.xp (el j))|false=>.fail)
     | .lsl b n sz=>(match i,Nat.beq sz (s+1) with
       | .li _ j,true=>(match decide (0<=j/\j<(n:Int)) with|true=>.val (.own b (j.toNat*sz))|false=>.fail)
       | _,_=>.fail)
     | _=>.fail))
 | _=>.fail
def Yj (P:Program) (t:TypeId) (x i:AV):AR :=
 match P.underlying t,x,i with
 | some (.array n e),.agg l,.li _ j=>(match decide (0<=j/\j<(n:Int)),A9 P e with
   | true,s+1=>Ev P e (AO l (j.toNat*(s+1)))
   | _,_=>.fail)
 | _,_,_=>.fail
def jl:LN->AR
 | .lit n=>.val (.li .i64 (n:Int))
 | .sym n=>.val (.si .i64 (Em n))
def vb (hp:A0):AV->AR
 | .v (.slice none 0 _)=>.val (.li .i64 0)
 | .row i=>(match A3 hp i with|.row _ _ n _=>jl n|.mat _ _ n _=>jl n|.rows _ _ _ n _ _ _ _=>jl n|_=>.fail)
 | .slc n _ _=>jl n
 | .lsl _ n _=>.val (.li .i64 n)
 | _=>.fail
def F6 (mx:Bool):AV->List AV->AR
 | a,[]=>.val a
 | a,b::rest=>(match AD a,AD b with
   | some k,some _=>(match KR a&&KR b with
     | true=>F6 mx (.li k (match mx with|true=>(if AA b > AA a then AA b else AA a)|false=>(if AA b<AA a then AA b else AA a))) rest
     | false=>F6 mx (.si k (match mx with|true=>k9 (AA a) (AA b)|false=>k8 (AA a) (AA b))) rest)
   | _,_=>.fail)
def Kw:AV->Option (List AV)
 | .agg l=>some l
 | a=>(match jB a with|true=>some [a]|false=>none)
def Y0 (l:List AV):(List AV->Option (List AV))->Option (List AV) :=
 List.rec (motive:=fun _=>(List AV->Option (List AV))->Option (List AV)) (fun k=>k []) (fun a _ ih k=>ih fun l'=>k (a::l')) l
theorem MN (l:List AV):∀ k,Y0 l k=k l:=by
 induction l with
 | nil=>intro k;rfl
 | cons a l ih=>intro k;exact ih _
def KV (size:Nat):List AV->List (Nat × AV)->Option (List AV)
 | cs,[]=>some cs
 | cs,(i,a)::rest=>(match Kw a with
   | none=>none
   | some m=>(match decide (m.length=size/\i*size+size<=cs.length) with
     | true=>Y0 (EH cs (i*size) m) fun cs'=>KV size cs' rest
     | false=>none))
def X_ (P:Program) (fs:List Field):List AV->List (Nat × AV)->Option (List AV)
 | cs,[]=>some cs
 | cs,(i,a)::rest=>(match fs[i]? with
   | none=>none
   | some f=>(match Kw a with
     | none=>none
     | some m=>(match decide (m.length=A9 P f.type/\f.offset+m.length<=cs.length),A9 P f.type with
       | true,_+1=>Y0 (EH cs f.offset m) fun cs'=>X_ P fs cs' rest
       | _,_=>none)))
def TZ (l:List AV):Nat->List AV
 | 0=>[]
 | n+1=>Es l (TZ l n)
def Z6 (P:Program) (t:TypeId) (parts:List (Nat × AV)):AR :=
 match FD P t,P.underlying t with
 | some z,some (.struct fs)=>(match fs.toList.all (fun f=>(P.info? f.type).isSome),X_ P fs.toList z parts with|true,some l=>.val (.agg l)|_,_=>.fail)
 | some z,some (.array _ e)=>(match A9 P e with
   | 0=>.fail
   | s+1=>(match KV (s+1) z parts with|some l=>.val (.agg l)|none=>.fail))
 | _,_=>.fail
def OY (hp:A0) (j:Nat):Option AV:=match A3 hp j with|.row _ sz n el=>some (.slc n sz el)|_=>none
def CW (P:Program) (hp:A0) (t:TypeId) (n:Nat):Nat->List (Nat × AV)->AR
 | 0,_=>.fail
 | d+1,parts=>(match rowIn.rowInL (parts.map (·.2)) with
   | some j=>(match OY hp j with
     | some s=>.frz j s (CW P (AM hp j .dead) t n d (parts.map fun x=>(x.1,mapR (fun i=>match Nat.beq i j with|true=>some s|false=>none) x.2)))
     | none=>.fail)
   | none=>(match P.underlying t with
     | some (.slice e)=>(match FD P e,decide (n*A9 P e<=1000),A9 P e with
       | some z,true,s+1=>(match KV (s+1) (TZ z n) parts with
         | some l=>(match DV l with
           | true=>.blk (.row e (s+1) (.lit n) (AZ (s+1) l)) .row
           | false=>.blk (.cells e l) (fun i=>.lsl i n (s+1)))
         | none=>.fail)
       | _,_,_=>.fail)
     | _=>.fail))
@[irreducible]def Ft (n:Nat) (f g:Nat->List AV) (k:Nat):List AV:=if k<n then f k else g (k-n)
def T4:LN->LN->LN
 | .lit a,.lit b=>.lit (a+b)
 | .lit a,.sym b=>.sym (Ii a b)
 | .sym a,.lit b=>.sym (Ii a b)
 | .sym a,.sym b=>.sym (Ii a b)
def fL (n:LN) (f g:Nat->List AV):Nat->List AV :=
 match n with
 | .lit 0=>g
 | n=>Ft n.val f g
def NF (hp:A0) (a:AV):Option (LN × Nat × (Nat->List AV)) :=
 match a with
 | .row j=>(match A3 hp j with|.row _ sz n el=>some (n,sz,el)|_=>none)
 | .slc n sz el=>some (n,sz,el)
 | _=>none
def Fp:AV->Bool
 | .v (.slice none 0 0)=>true
 | _=>false
def AG3 (hp:A0):AV->Bool
 | .row j=>(match A3 hp j with|.row _ _ _ _=>true|_=>false)
 | .slc _ _ _=>true
 | a=>Fp a
def CV:Nat:=1099511627776
def F1 (P:Program) (S:Sums) (hp:A0) (t:TypeId) (s x:AV):AR :=
 match P.underlying t with
 | some (.slice e)=>(match Fp x with
   | true=>(match AG3 hp s,A9 P e with|true,_+1=>.val s|_,_=>.fail)
   | false=>(match NF hp x with
     | none=>.fail
     | some (m,sz,elx)=>(match Nat.beq sz (A9 P e),Nat.beq sz 0 with
       | true,false=>(match Fp s with
         | true=>(match FD P e with
           | some _=>.need ⟨fun z:Nat × Nat=>z.1*(z.2+1)<=CV,(m.val,DJ P e)⟩ (.blk (.row e sz m elx) .row)
           | none=>.fail)
         | false=>(match s with
           | .row i=>(match A3 hp i,Nat.ble S.lo i with
             | .row e' sz' n el,true=>(match decide (e'=e/\sz'=sz)&&(FD P e).isSome with
               | true=>.need ⟨fun z:Nat × Nat × Nat=>(z.1+z.2.1)*(z.2.2+1)<=CV,(n.val,m.val,DJ P e)⟩ (.grow i (.row e sz (T4 n m) (fL n el elx)))
               | false=>.fail)
             | _,_=>.fail)
           | _=>.fail))
       | _,_=>.fail)))
 | _=>.fail
def UV (P:Program) (t:TypeId):Option (Nat × AV):=match P.underlying t with
 | some (.array n e)=>(match Nat.blt 15 n,FD P e with
   | true,some [z]=>some (n,z)
   | _,_=>none)
 | _=>none
structure ZeroIs (P:Program) (z:TypeId × Nat × AV):Prop where
 zero:FD P z.1=some (List.replicate z.2.1 z.2.2)
 ok:LX z.2.2=true
def AL {α:Type u}:List (Nat × α)->Nat->Option α
 | [],_=>none
 | (k,a)::l,n=>match Nat.beq k n with|true=>some a|false=>AL l n
def kG (S:Sums) (t:TypeId):Bool:=match AL S.eqs (t+1048576) with|some _=>true|none=>false
def PM (P:Program) (S:Sums) (t:TypeId) (n c:AV):AR :=
 match P.underlying t with
 | some (.slice e)=>(match UV P e with
  | some (w,z)=>(match kG S e,AD n,AD c with
    | true,some _,some _=>(.need ⟨fun z:Int × Int × Nat=>0<=z.1/\z.1<=z.2.1/\z.2.1*(z.2.2+1)<=CV,(AA n,AA c,DJ P e)⟩ (.blk (.mat e w (.sym (Iz (AA n))) (fun _ _=>z)) .row))
    | _,_,_=>.fail)
  | none=>(match FD P e with
   | none=>.fail
   | some z=>(match DV z with
    | false=>.fail
    | true=>(match n with
     | .li _ x=>(match decide (0<=x),Nat.beq (A9 P e) 0 with
       | true,false=>.need ⟨fun z:Int × Int × Nat=>z.1<=z.2.1/\z.2.1*(z.2.2+1)<=CV,(x,AA c,DJ P e)⟩ (match AD c with|some _=>.blk (.row e (A9 P e) (.lit x.toNat) (fun _=>z)) .row|none=>.fail)
       | _,_=>.fail)
     | .si _ x=>(match Nat.beq (A9 P e) 0 with
       | false=>.need ⟨fun z:Int × Int × Nat=>0<=z.1/\z.1<=z.2.1/\z.2.1*(z.2.2+1)<=CV,(x,AA c,DJ P e)⟩ (match AD c with|some _=>.blk (.row e (A9 P e) (.sym (Iz x)) (fun _=>z)) .row|none=>.fail)
       | true=>.fail)
     | _=>.fail))))
 | _=>.fail
def HV (n:LN) (lo hi:Option AV) (k:Nat->LN->AR):AR :=
 match lo,hi with
 | none,none=>k 0 n
 | some (.li _ a),none=>(match decide (0<=a),n with
   | true,.lit m=>(match decide (a.toNat<=m) with|true=>k a.toNat (.lit (m-a.toNat))|false=>.fail)
   | true,.sym m=>.need ⟨fun z:Nat × Nat=>z.1<=z.2,(a.toNat,m)⟩ (k a.toNat (.sym (Hb m a.toNat)))
   | false,_=>.fail)
 | some (.si _ a),none=>.need ⟨fun z:Int × Nat=>0<=z.1/\z.1<=(z.2:Int),(a,n.val)⟩ (k (Iz a) (.sym (Hb n.val (Iz a))))
 | none,some (.li _ b)=>(match decide (0<=b) with
   | true=>.need ⟨fun z:Nat × Nat=>z.1<=z.2,(b.toNat,n.val)⟩ (k 0 (.lit b.toNat))
   | false=>.fail)
 | none,some (.si _ b)=>.need ⟨fun z:Int × Nat=>0<=z.1/\z.1<=(z.2:Int),(b,n.val)⟩ (k 0 (.sym (Iz b)))
 | some a,some b=>(match AD a,AD b with
   | some _,some _=>.need ⟨fun z:Int × Int × Nat=>0<=z.1/\z.1<=z.2.1/\z.2.1<=(z.2.2:Int),(AA a,AA b,n.val)⟩ (k (Iz (AA a)) (.sym (Hb (Iz (AA b)) (Iz (AA a)))))
   | _,_=>.fail)
 | _,_=>.fail
def Y3 (P:Program) (hp:A0) (t:TypeId) (x:AV) (lo hi mx:Option AV):AR :=
 match mx,P.underlying t with
 | none,some (.slice e)=>(match x with
   | .slc n sz el=>(match Nat.beq sz (A9 P e),Nat.beq sz 0 with|true,false=>HV n lo hi fun l m=>.val (.slc m sz (fun k=>el (l+k)))|_,_=>.fail)
   | .row j=>(match A3 hp j with
     | .row _ sz n el=>(match Nat.beq sz (A9 P e),Nat.beq sz 0 with|true,false=>.frz j (.slc n sz el) (HV n lo hi fun l m=>.val (.slc m sz (fun k=>el (l+k))))|_,_=>.fail)
     | _=>.fail)
   | _=>.fail)
 | none,some (.array n e)=>(match lo,hi,x,A9 P e with
   | none,none,.xp l,s+1=>(match Nat.ble (n*(s+1)) l.length&&DV (AW l (n*(s+1))) with|true=>.val (.slc (.lit n) (s+1) (AZ (s+1) l))|false=>.fail)
   | _,_,_,_=>.fail)
 | _,_=>.fail
def Kb (ρ:Operand->AV):List (Nat × Operand)->List (Nat × AV)
 | []=>[]
 | (i,o)::l=>(i,ρ o)::Kb ρ l
def lK (P:Program) (src dst:TypeId) (a:AV):AR :=
 match P.underlying src,P.underlying dst with
 | some (.int _),some (.int k)=>(match a with
   | .li _ n=>.val (.li k (k.wrap n))
   | .si _ n=>(match k.signed with|true=>.need ⟨fun z:IntKind × Int=>O2 z.1 z.2,(k,n)⟩ (.val (.si k n))|false=>.val (.si k (NJ k n)))
   | _=>.fail)
 | _,_=>.fail
def NK:AV->Bool
 | .own _ _=>true
 | .elt _ _ _ _=>true
 | .xp _=>true
 | _=>false
def pH:AV->Bool
 | .v (.pointer none)=>true
 | _=>false
def TO (op:BinOp) (a b:AV):AR :=
 match AD a,AD b with
 | some k,some _=>(match KR a&&KR b with
   | true=>(match decide (0<=AA b/\AA b<k.bits),op with
     | true,.shl=>.val (.li k (k.wrap (AA a*2 ^ (AA b).toNat)))
     | true,.shr=>.val (.li k ((AA a).fdiv (2 ^ (AA b).toNat)))
     | _,_=>.fail)
   | false=>ci op k (AA a) (AA b))
 | _,_=>.fail
def sx (op:BinOp) (r:AV):AR:=match op with|.eql=>.val r|.neq=>YP r|_=>.fail
def FI:BinOp->Bool
 | .shl=>true
 | .shr=>true
 | _=>false
def Ll:AV->Bool
 | .lb _=>true
 | .sb _=>true
 | _=>false
def Dv:List (Option IntKind)->List AV->Bool
 | [],[]=>true
 | some k::ks,a::l=>(match AD a with|some k'=>decide (k=k')&&Dv ks l|none=>false)
 | none::ks,a::l=>Ll a&&Dv ks l
 | _,_=>false
def UE (P:Program) (t:TypeId):Bool:=match P.underlying t with|some .bool=>true|_=>false
def UD (P:Program) (t:TypeId):Bool:=match P.underlying t with|some (.pointer _)=>true|_=>false
@[irreducible]def Xd (n:Nat):Bool:=Nat.beq n 0
theorem zerB_iff {n:Nat}:Xd n=true↔n=0:=by unfold Xd;exact ⟨Nat.eq_of_beq_eq_true,fun h=>by rw [h];rfl⟩
def lZ (P:Program) (S:Sums) (op:BinOp) (t:TypeId) (a b:AV):AR :=
 match FI op with
 | true=>TO op a b
 | false=>(match AD a,AD b with
   | some k,some k'=>(match decide (k=k') with|true=>lm op k (KR a&&KR b) (AA a) (AA b) (KR b)|false=>.fail)
   | _,_=>(match a,b with
     | .agg l,.agg m=>(match Nat.blt t 1048576,AL S.eqs t with
       | true,some ks=>(match Dv ks l&&Dv ks m,F0 l m with
         | true,some r=>sx op (.sb r)
         | _,_=>.fail)
       | _,_=>.fail)
     | a,b=>(match UD P t with
       | true=>(match pH a,pH b with
         | true,true=>sx op (.lb true)
         | true,false=>(match NK b with|true=>sx op (.lb false)|false=>.fail)
         | false,true=>(match NK a with|true=>sx op (.lb false)|false=>(match a with|.pa n _ _=>sx op (.sb (Xd n))|_=>.fail))
         | false,false=>.fail)
       | false=>(match UE P t,eqA a b with
         | true,some r=>sx op r
         | _,_=>.fail))))
def Ew (q:Nat->Bool):Nat->Nat
 | 0=>0
 | n+1=>(match Nat.blt (Ew q n) n with|true=>Ew q n|false=>(match q n with|true=>n|false=>n+1))
@[irreducible]def vW (n:Nat) (q:Nat->Bool):Bool:=Nat.blt (Ew q n) n
@[irreducible]def yY (n:Nat) (q:Nat->Bool) (v:Nat->Int):Int:=match Nat.blt (Ew q n) n with|true=>v (Ew q n)|false=>0
@[irreducible]def I3 (el:Nat->List AV) (sz:Nat) (c:List AV) (k:Nat):Bool:=match F0 c (AW (el k) sz) with|some b=>b|none=>false
@[irreducible]def Us (el:Nat->List AV) (sz:Nat) (k:Nat):Int:=AA (A4 (el k) sz)
def cr (z:Nat × Nat × List (Option IntKind) × IntKind × (Nat->List AV)):Prop:=∀ k,k<z.1->Dv z.2.2.1 (AW (z.2.2.2.2 k) z.2.1)=true/\AD (A4 (z.2.2.2.2 k) z.2.1)=some z.2.2.2.1
def re (P:Program) (t:TypeId):Option IntKind:=match P.info? t with
 | some i=>(match i.zero with
   | some (.int k n)=>(match decide (n=0) with|true=>some k|false=>none)
   | _=>none)
 | none=>none
def gq (P:Program) (S:Sums) (t:TypeId):Option (List (Option IntKind) × IntKind):=match P.underlying t with
 | some (.map kt et)=>(match Nat.blt kt 1048576,isAgg P kt,AL S.eqs kt,re P et with
   | true,some true,some ks,some kv=>some (ks,kv)
   | _,_,_,_=>none)
 | _=>none
def U9 (P:Program) (S:Sums) (hp:A0) (t:TypeId) (x c:AV) (ok:Bool):AR :=
 match gq P S t,x,c with
 | some (ks,kv),.mp i,.agg c=>(match A3 hp i with
   | .tab n sz el=>(match Dv ks c&&Nat.beq sz ks.length with
     | true=>.need ⟨cr,(n.val,sz,ks,kv,el)⟩ (.val (match ok with
       | true=>.tup [.si kv (yY n.val (I3 el sz c) (Us el sz)),.sb (vW n.val (I3 el sz c))]
       | false=>.si kv (yY n.val (I3 el sz c) (Us el sz))))
     | false=>.fail)
   | _=>.fail)
 | _,_,_=>.fail
def EZ (P:Program) (S:Sums) (hp:A0) (t:TypeId) (x c v:AV):AR :=
 match gq P S t,x,c with
 | some (ks,kv),.mp i,.agg c=>(match A3 hp i,AD v with
   | .tab n sz el,some kv'=>(match Dv ks c&&Nat.beq sz ks.length&&decide (kv'=kv) with
     | true=>.need ⟨cr,(n.val,sz,ks,kv,el)⟩ (.need ⟨fun z:Bool=>z=false,vW n.val (I3 el sz c)⟩ (.upd i (.tab (T4 n (.lit 1)) sz (fL n el (fun _=>Es c [v])))))
     | false=>.fail)
   | _,_=>.fail)
 | _,_,_=>.fail
def PN (P:Program) (S:Sums) (t:TypeId):AR:=match gq P S t with
 | some (ks,_)=>.blk (.tab (.lit 0) ks.length (fun _=>[])) .mp
 | none=>.fail
def GC:Nat->A0->AV->AV
 | _,_,.li k n=>.si k n
 | _,_,.lb b=>.sb b
 | d+1,hp,.agg l=>.agg (l.map (GC d hp))
 | d+1,hp,.fn f a b=>.fn f (a.map (GC d hp)) (b.map (GC d hp))
 | d+1,hp,.own i off=>(match A3 hp i with|.cells _ l=>.xp ((AO l off).map (GC d hp))|_=>.top)
 | _+1,hp,.row i=>(match A3 hp i with|.row _ sz n el=>.slc n sz el|_=>.top)
 | _,_,.v x=>.v x
 | _,_,.si k n=>.si k n
 | _,_,.sb b=>.sb b
 | _,_,.slc n sz el=>.slc n sz el
 | _,_,.xp l=>.xp l
 | _,_,_=>.top
def ownIn:AV->Bool
 | .own _ _=>true
 | .row _=>true
 | .lsl _ _ _=>true
 | .elt _ _ _ _=>true
 | .mp _=>true
 | .agg l=>ownInL l
 | .tup l=>ownInL l
 | .fn _ a b=>ownInL a||ownInL b
 | .gd _ a=>ownIn a
 | _=>false
where ownInL:List AV->Bool
 | []=>false
 | a::l=>ownIn a||ownInL l
def plainA:AV->Bool
 | .li _ _=>true
 | .si _ _=>true
 | .lb _=>true
 | .sb _=>true
 | .row _=>true
 | .own _ _=>true
 | .v _=>true
 | .agg l=>plainL l
 | .tup l=>plainL l
 | _=>false
where plainL:List AV->Bool
 | []=>true
 | a::l=>plainA a&&plainL l
def Dg:A0->Bool
 | []=>true
 | .dead::l=>Dg l
 | .cells _ c::l=>plainA.plainL c&&Dg l
 | .row _ _ _ _::l=>Dg l
 | _::_=>false
def shB:AV->Bool
 | .top=>true
 | .li _ _=>true
 | .si _ _=>true
 | .lb _=>true
 | .sb _=>true
 | .row _=>true
 | .own _ _=>true
 | .mp _=>true
 | .v _=>true
 | .slc _ _ _=>true
 | .xp _=>true
 | .pa _ _ _=>true
 | .agg l=>shBL l
 | .tup l=>shBL l
 | .fn _ a b=>!(ownIn.ownInL a) && !(ownIn.ownInL b)
 | _=>false
where shBL:List AV->Bool
 | []=>true
 | a::l=>shB a&&shBL l
def HX:A0->Bool
 | []=>true
 | .dead::l=>HX l
 | .cells _ c::l=>shB.shBL c&&HX l
 | .row _ _ _ _::l=>HX l
 | .tab _ _ _::l=>HX l
 | _::_=>false
def cy (z:Nat × (Nat->List AV)):Prop:=∀ k,k<z.1->plainA.plainL (z.2 k)=true
def G2:A0->List Cd
 | []=>[]
 | .row _ _ n el::l=>⟨cy,(n.val,el)⟩::G2 l
 | _::l=>G2 l
def Kx (args:List AV) (res:AV) (new:A0):Bool:=match ownIn.ownInL args with|false=>shB res&&HX new|true=>plainA res&&Dg new
def Gk (args:List AV) (new:A0):List Cd:=match ownIn.ownInL args with|false=>[]|true=>G2 new
def mM (f:Nat->Option AV):Option (Nat × Option Nat)->Option (Nat × Option Nat)
 | some (k,some h)=>(match f h with|some _=>some (k,none)|none=>some (k,some h))
 | x=>x
def WO (f:Nat->Option AV):Blk->Blk
 | .cells t l=>.cells t (mapR.mapRL f l)
 | .rows e e' sz n fz ln el ho=>.rows e e' sz n fz ln el (mM f ho)
 | b=>b
def E5 (f:Nat->Option AV):A0->A0
 | []=>[]
 | b::l=>WO f b::E5 f l
def EJ (j:Nat) (a:AV):Nat->Option AV:=fun i=>match Nat.beq i j with|true=>some a|false=>none
def WN (hp:A0):List AV->List AV
 | []=>[]
 | a::l=>GC 5 hp a::WN hp l
def cO (S:Sums) (hp:A0) (g:FuncId) (args:List AV):Option (Nat × AV) :=
 match rowIn.rowInL args with
 | none=>none
 | some j=>(match OY hp j with
   | none=>none
   | some s=>(match AL S.two g with
     | some _=>none
     | none=>(match AL S.one g with
       | none=>none
       | some s1=>(match s1 (WN hp args) with
         | none=>none
         | some r=>(match Kx args r.res r.new with|true=>none|false=>some (j,s))))))
def callA (S:Sums) (g:FuncId):Nat->A0->List AV->AR
 | 0,_,_=>.fail
 | d+1,hp,args=>(match cO S hp g args with
   | none=>.call g args
   | some (j,s)=>.frz j s (callA S g d (AM (E5 (EJ j s) hp) j .dead) (mapR.mapRL (EJ j s) args)))
def vv:List Nat->Nat->Bool
 | [],_=>false
 | m::l,n=>(match Nat.beq m n with|true=>true|false=>vv l n)
def Hk (P:Program) (S:Sums) (ρ:Operand->AV) (hp:A0) (op:Op):AR :=
 match op with
 | .move x=>.val (ρ x)
 | .assign x=>.val (ρ x)
 | .alloc t=>(match UV P t with
   | some (n,z)=>(match kG S t with|true=>.blk (.mat t n (.lit 1) (fun _ _=>z)) (fun i=>.elt i n 0 0)|false=>.fail)
   | none=>(match FD P t with|some l=>.blk (.cells t l) (fun i=>.own i 0)|none=>.fail))
 | .box t x=>(match Kw (ρ x) with
   | some l=>(match vv S.imm t with
     | true=>(match ownIn.ownInL l with
       | false=>.val (.xp l)
       | true=>.blk (.cells t l) (fun i=>.own i 0))
     | false=>.blk (.cells t l) (fun i=>.own i 0))
   | none=>.fail)
 | .build t parts=>Z6 P t (Kb ρ parts.toList)
 | .buildSlice t n parts=>CW P hp t n 20 (Kb ρ parts.toList)
 | .load t a=>Fe P hp t (ρ a)
 | .store t a x=>Fh P hp t (ρ a) (ρ x)
 | .nilCheck x=>(match NK (ρ x) with|true=>.val (ρ x)|false=>(match ρ x with|.fn (.func f) a b=>.val (.fn (.func f) a b)|.pa n sz el=>.need ⟨fun z:Nat=>0<z,n⟩ (.val (.pa n sz el))|_=>.fail))
 | .fieldAddr t x f=>Fs P t (ρ x) f
 | .field t x f=>(match Pq P t f,ρ x with
   | some fd,.agg l=>Ev P fd.type (AO l fd.offset)
   | _,_=>.fail)
 | .indexAddr t x i=>H6 P hp t (ρ x) (ρ i)
 | .index t x i=>Yj P t (ρ x) (ρ i)
 | .binOp op t x y _=>lZ P S op t (ρ x) (ρ y)
 | .unOp .not _ x=>YP (ρ x)
 | .unOp .neg _ x=>(match AD (ρ x) with
   | some k=>KW k (KR (ρ x)) (0-AA (ρ x)) (UC 0 (AA (ρ x)))
   | none=>.fail)
 | .convert src dst x=>lK P src dst (ρ x)
 | .makeFunc f first cap=>.val (.fn f (QL ρ first.toList) (QL ρ cap.toList))
 | .makeSlice t n c=>PM P S t (ρ n) (ρ c)
 | .slice t x lo hi mx=>Y3 P hp t (ρ x) (lo.map ρ) (hi.map ρ) (mx.map ρ)
 | .extract x i=>(match ρ x with|.tup l=>(match l[i]? with|some a=>.val a|none=>.fail)|_=>.fail)
 | .makeMap t none=>PN P S t
 | .lookup t x k ok=>U9 P S hp t (ρ x) (ρ k) ok
 | .mapUpdate t m k x=>EZ P S hp t (ρ m) (ρ k) (ρ x)
 | .call c=>(match c.callee with
   | .value f=>(match ρ f with
     | .fn (.func f) first cap=>callA S f 20 hp (Es first (Es (QL ρ c.args.toList) cap))
     | _=>.fail)
   | .builtin .len=>(match c.args.toList,c.argTypes.toList with
     | [x],[t]=>(match P.underlying t with|some (.slice _)=>vb hp (ρ x)|some (.array n _)=>.val (.li .i64 n)|_=>.fail)
     | _,_=>.fail)
   | .builtin .min=>(match QL ρ c.args.toList with|a::l=>F6 false a l|[]=>.fail)
   | .builtin .max=>(match QL ρ c.args.toList with|a::l=>F6 true a l|[]=>.fail)
   | .builtin .append=>(match c.args.toList,c.argTypes.toList with
     | [s,x],[t,t']=>(match Nat.beq t t' with|true=>F1 P S hp t (ρ s) (ρ x)|false=>.fail)
     | _,_=>.fail)
   | _=>.fail)
 | _=>.fail
def shiftA (b:Nat):AV->AV
 | .own i off=>.own (b+i) off
 | .row i=>.row (b+i)
 | .mp i=>.mp (b+i)
 | .agg l=>.agg (shiftL b l)
 | .tup l=>.tup (shiftL b l)
 | a=>a
where shiftL (b:Nat):List AV->List AV
 | []=>[]
 | a::l=>shiftA b a::shiftL b l
def EE (b:Nat):A0->A0
 | []=>[]
 | .cells t c::l=>.cells t (shiftA.shiftL b c)::EE b l
 | x::l=>x::EE b l
def HC:A0->A0->A0
 | [],m=>m
 | a::l,m=>a::HC l m
def Yt (b:Blk) (k:Blk->VC):VC:=match b with
 | .cells t l=>Av l fun l'=>k (.cells t l')
 | .row a b c d=>k (.row a b c d)
 | .mat a b c d=>k (.mat a b c d)
 | .rows a b c d e f g h=>k (.rows a b c d e f g h)
 | .tab a b c=>k (.tab a b c)
 | .dead=>k .dead
def forceH:A0->(A0->VC)->VC
 | [],k=>k []
 | a::l,k=>Yt a fun a'=>forceH l fun l'=>k (a'::l')
def Ct (a:AV) (k:AV->VC):VC:=match a with
 | .agg l=>Av l fun l'=>k (.agg l')
 | .tup l=>Av l fun l'=>k (.tup l')
 | .gd n a=>Ec a fun a'=>k (.gd n a')
 | .xp l=>Av l fun l'=>k (.xp l')
 | a=>Ec a k
def forceLD:List AV->(List AV->VC)->VC
 | [],k=>k []
 | a::l,k=>Ct a fun a'=>forceLD l fun l'=>k (a'::l')
def needs:List Cd->VC->VC
 | [],k=>k
 | p::l,k=>.need p (needs l k)
def needsC (c:Bool):List Cd->VC->VC
 | [],k=>k
 | p::l,k=>.need (p.under c) (needsC c l k)
def Fw:A0->Bool
 | []=>true
 | .rows _ _ _ _ _ _ _ _::_=>false
 | _::l=>Fw l
def AR.vc (S:Sums) (nb:Bool) (r:AR) (fr:List AV) (hp:A0) (K:List AV->A0->AV->VC):VC :=
 match r with
 | .fail=>.fail
 | .val a=>Ct a (K fr hp)
 | .need p r=>.need p (r.vc S nb fr hp K)
 | .br b t e=>.branch b (t.vc S nb fr hp K) (e.vc S nb fr hp K)
 | .blk b mk=>forceH (HC hp [b]) fun hp'=>K fr hp' (mk hp.length)
 | .upd i b=>(match nb with
   | true=>forceH (AM hp i b) fun hp'=>K fr hp' (.tup [])
   | false=>.fail)
 | .grow i b=>(match nb&&Nat.ble S.lo i with
   | true=>forceLD (mapR.mapRL (EJ i .top) fr) fun fr'=>forceH (AM (E5 (EJ i .top) hp) i b) fun hp'=>K fr' hp' (.row i)
   | false=>.fail)
 | .frz j a r=>(match nb&&Nat.ble S.lo j with
   | true=>forceLD (mapR.mapRL (EJ j a) fr) fun fr'=>forceH (AM (E5 (EJ j a) hp) j .dead) fun hp'=>r.vc S nb fr' hp' K
   | false=>.fail)
 | .call f args=>(match AL S.two f with
   | some s2=>(match nb&&Fw hp,s2 args hp with
     | true,some ⟨pre,res,hp2,mv⟩=>(match Nat.ble hp.length hp2.length with
       | true=>(match mv with
         | none=>needs pre (forceH hp2 fun hp'=>Ct res (K fr hp'))
         | some j=>(match Nat.ble S.lo j with
           | true=>needs pre (forceLD (mapR.mapRL (EJ j .top) fr) fun fr'=>forceH hp2 fun hp'=>Ct res (K fr' hp'))
           | false=>.fail))
       | false=>.fail)
     | _,_=>.fail)
   | none=>(match AL S.one f with
     | some s1=>forceLD (WN hp args) fun args'=>(match s1 args' with
       | some ⟨pre,res,new⟩=>(match Kx args res new with
         | true=>needs pre (needs (Gk args new) (forceH (HC hp (EE hp.length new)) fun hp'=>Ct (shiftA hp.length res) (K fr hp')))
         | false=>.fail)
       | none=>.fail)
     | none=>.fail))
structure Cnd where
 j:Nat
 want:Bool
 c:Bool
 anc:List Nat
def AR.vcC (S:Sums) (k:Nat) (c:Bool) (r:AR) (hp:A0) (K:A0->AV->VC):VC :=
 match r with
 | .val a=>Ct a fun a'=>K hp (.gd k a')
 | .need p r=>.need (p.under c) (r.vcC S k c hp K)
 | .br b t e=>.branch b (t.vcC S k c hp K) (e.vcC S k c hp K)
 | .blk b mk=>forceH (HC hp [b]) fun hp'=>K hp' (.gd k (mk hp.length))
 | .call f args=>(match AL S.two f with
   | some _=>.fail
   | none=>(match AL S.one f with
     | some s1=>forceLD (WN hp args) fun args'=>(match s1 args' with
       | some ⟨pre,res,new⟩=>(match Kx args res new with
         | true=>needsC c pre (needsC c (Gk args new) (forceH (HC hp (EE hp.length new)) fun hp'=>Ct (shiftA hp.length res) fun a=>K hp' (.gd k a)))
         | false=>.fail)
       | none=>.fail)
     | none=>.fail))
 | _=>.fail
def EF (l:List AV):Nat->AV->(List AV->VC)->VC :=
 List.rec (motive:=fun _=>Nat->AV->(List AV->VC)->VC) (fun _ _ k=>k [])
  (fun x l ih n a k=>Nat.rec (motive:=fun _=>VC) (k (a::l)) (fun m _=>ih m a fun l'=>k (x::l')) n) l
theorem dP (x:AV) (l:List AV) (n:Nat) (a:AV) (k:List AV->VC):EF (x::l) (n+1) a k=EF l n a fun l'=>k (x::l'):=rfl
def JE (fr:List AV) (d:Option Nat) (a:AV) (k:List AV->VC):VC :=
 match d with
 | none=>k fr
 | some d=>Ec a fun a'=>EF fr d a' k
def KD (fr:List AV) (d:Nat) (K:Bool->List AV->VC):VC :=
 match A4 fr d with
 | .lb true=>K true fr
 | .lb false=>K false fr
 | .sb b=>.branch b (EF fr d (.lb true) (K true)) (EF fr d (.lb false) (K false))
 | _=>.fail
def Af (all:List Oper) (j:Nat):Option Nat:=match all[j]? with|some o=>o.dst|none=>none
def Eh (n:Nat):List Nat->Bool
 | []=>false
 | m::l=>(match Nat.beq m n with|true=>true|false=>Eh n l)
def Dk (anc:List Nat):AV->AV
 | .gd k a=>(match Eh k anc with|true=>a|false=>.top)
 | a=>a
def evU (anc:List Nat) (fr:List AV) (x:Operand):AV:=Dk anc (ev fr x)
def DN:AV->AV
 | .gd _ _=>.top
 | a=>a
def E7:List AV->List AV
 | []=>[]
 | a::l=>DN a::E7 l
def Kv (l:List AV):(List AV->VC)->VC :=
 List.rec (motive:=fun _=>(List AV->VC)->VC) (fun k=>k []) (fun a _ ih k =>
  @AV.casesOn (fun _=>VC) a (ih fun l'=>k (a::l')) (fun _ _=>ih fun l'=>k (a::l')) (fun _ _=>ih fun l'=>k (a::l')) (fun _=>ih fun l'=>k (a::l')) (fun _=>ih fun l'=>k (a::l'))
   (fun _=>ih fun l'=>k (a::l')) (fun _=>ih fun l'=>k (a::l')) (fun _=>ih fun l'=>k (a::l')) (fun _ _=>ih fun l'=>k (a::l')) (fun _ _ _ _=>ih fun l'=>k (a::l')) (fun _=>ih fun l'=>k (a::l'))
   (fun _ _ _=>ih fun l'=>k (a::l')) (fun _ _ _=>ih fun l'=>k (a::l')) (fun _=>ih fun l'=>k (a::l')) (fun _ _ _=>ih fun l'=>k (a::l')) (fun _ _=>ih fun l'=>k (.top::l')) (fun _ _ _=>ih fun l'=>k (a::l')) (fun _=>ih fun l'=>k (a::l'))) l
def Wp:List Nat->Nat->Nat
 | [],_=>0
 | a::_,0=>a
 | _::l,n+1=>Wp l n
def rS:List Nat->Nat->List Nat
 | [],x=>[x]
 | a::l,x=>a::rS l x
def Hd (ms:List Nat):List Edge->Nat
 | []=>0
 | e::l=>(match Region.binds .any e with|true=>Nat.lor (Nat.lor (Nat.shiftLeft 1 e.on) (Wp ms e.on)) (Hd ms l)|false=>Hd ms l)
def Cq:List Oper->List Nat->List Nat
 | [],ms=>ms
 | o::l,ms=>Cq l (rS ms (Hd ms o.after.toList))
def Er (ms:List Nat) (j i:Nat):Bool:=Nat.testBit (Wp ms i) j
def En (f:Nat->Bool):Nat->Bool
 | 0=>true
 | n+1=>(match f n with|true=>En f n|false=>false)
def Dj (dr:Bool) (all:List Oper) (i:Nat):Bool:=match dr with
 | false=>true
 | true=>(let ms:=Cq all []
   En (fun j=>match Nat.blt j i with|true=>Er ms j i|false=>(match Nat.beq j i with|true=>true|false=>Er ms i j)) all.length)
def DO (all:List Oper) (o:Oper):List Nat :=
 (o.op.operands.toList.filterMap fun|.tmp t=>some t|_=>none)++(match o.guard with
  | some (g,_)=>(match all[g]? with|some o'=>(match o'.dst with|some d=>[d]|none=>[])|none=>[])
  | none=>[])
def Dd (all:List Oper):Bool :=
 En (fun j=>match all[j]? with
  | none=>true
  | some o=>(match o.dst with
    | none=>true
    | some d=>En (fun i=>match all[i]? with|none=>true|some o'=>!(decide (o'.dst=some d) && !(Nat.beq i j))) all.length)
    && (match o.guard with|none=>true|some (g,_)=>Nat.blt g j)) all.length
def KO (all:List Oper):Bool :=
 let ms:=Cq all []
 En (fun j=>match all[j]? with
  | none=>true
  | some o=>(match o.guard with|none=>true|some (g,_)=>Er ms g j)&&(match o.dst with
    | none=>true
    | some d=>En (fun i=>match all[i]? with
      | none=>true
      | some o'=>(match (DO all o').contains d with
        | false=>true
        | true=>(match Nat.blt j i with|true=>Er ms j i|false=>(match Nat.beq i j with|true=>true|false=>Er ms i j)))) all.length)) all.length
def Z_ (all:List Oper):Bool :=
 En (fun j=>match all[j]? with
  | none=>true
  | some o=>o.after.toList.all fun e=>!(Region.binds .any e)||Nat.blt e.on j) all.length
def Iy (dr:Bool) (all:List Oper):Bool:=Dd all&&(match dr with|true=>KO all&&Z_ all|false=>true)
structure Sw where
 a:Nat
 s:Nat
 d:Nat
 t:TypeId
 x:Operand
def vg:Op->Option (TypeId × Nat × Operand)
 | .store t (.tmp d) x=>some (t,d,x)
 | _=>none
def AG6 (t:TypeId):Op->Bool
 | .alloc t'=>Nat.beq t t'
 | _=>false
def k6 (d:Nat):Option Nat->Bool
 | some e=>Nat.beq d e
 | none=>false
def O0 (d:Nat) (t:TypeId):Nat->List Oper->Option Nat
 | _,[]=>none
 | n,o::l=>(match k6 d o.dst,AG6 t o.op with|true,true=>some n|_,_=>O0 d t (n+1) l)
def QP (all:List Oper):Nat->List Oper->Option Sw
 | _,[]=>none
 | n,o::l=>(match vg o.op with
   | some (t,d,x)=>(match Dj true all n with
     | true=>QP all (n+1) l
     | false=>(match O0 d t 0 all with|some a=>some ⟨a,n,d,t,x⟩|none=>QP all (n+1) l))
   | none=>QP all (n+1) l)
def Jl:List Oper->Nat->Option Nat->List Oper
 | [],_,_=>[]
 | o::l,0,d=>{ o with dst:=d }::l
 | o::l,n+1,d=>o::Jl l n d
def Ap (all:List Oper) (z:Sw):List Oper:=Jl (Jl all z.a none) z.s (some z.d)
def HF (o:Oper):Option Operand:=match o.op with
 | .move x=>(match o.guard,o.after.toList with|none,[]=>some x|_,_=>none)
 | _=>none
def AG:List Oper->List Oper
 | []=>[]
 | o::l=>(match HF o with|some _=>o::AG l|none=>AG l)
def I2:List Oper->Nat
 | []=>0
 | _::l=>I2 l+1
def Ih:List Oper->Nat->Nat
 | _,0=>0
 | [],_+1=>0
 | o::l,i+1=>(match HF o with|some _=>Ih l i|none=>Ih l i+1)
def PK (all:List Oper) (i:Nat):Bool:=match all[i]? with|some o=>(HF o).isSome|none=>false
def YD (all:List Oper) (k:Nat):List Edge->List Edge
 | []=>[]
 | e::l=>(match PK all e.on with|true=>YD all k l|false=>⟨k+Ih all e.on,e.ground⟩::YD all k l)
def Pd:Nat->List Edge->List Edge
 | 0,l=>l
 | n+1,l=>⟨n,.data⟩::Pd n l
def Od (all:List Oper) (k:Nat) (o:Oper):Oper:={ o with after:=⟨Pd k (YD all k o.after.toList)⟩,guard:=match o.guard with|some (g,w)=>some (k+Ih all g,w)|none=>none }
def ET (all:List Oper) (k:Nat):List Oper->List Oper
 | []=>[]
 | o::l=>(match HF o with|some _=>ET all k l|none=>Od all k o::ET all k l)
def An (all:List Oper):List Oper:=AG all++ET all (I2 (AG all)) all
def r9:Op->Bool
 | .store _ _ _=>true
 | .mapUpdate _ _ _ _=>true
 | .call c=>(match c.callee with|.value (.func _)=>true|_=>false)
 | _=>false
def Ky:List Oper->Bool
 | []=>false
 | o::l=>(match r9 o.op with|true=>true|false=>Ky l)
def kB (all:List Oper):Bool:=match Ky all,AG all with
 | true,_::_=>true
 | _,_=>false
def TE (S:Sums):Op->Bool
 | .store _ _ _=>true
 | .mapUpdate _ _ _ _=>true
 | .call c=>(match c.callee with|.value (.func g)=>(match AL S.two g with|some _=>true|none=>false)|_=>false)
 | _=>false
def AG5:Op->Bool
 | .call c=>(match c.callee with|.builtin .append=>true|_=>false)
 | _=>false
def AU9 (all:List Oper) (n:Nat):Bool:=(let ms:=Cq all []
 !(En (fun j=>match Nat.blt j n with|true=>Er ms j n|false=>true) all.length) &&
 En (fun j=>match Nat.blt j n with|true=>Er ms j n||PK all j|false=>true) all.length)
def PE (S:Sums) (all:List Oper):Nat->List Oper->Bool
 | _,[]=>false
 | n,o::l=>(match TE S o.op with
   | true=>(match Dj true all n with|true=>PE S all (n+1) l|false=>true)
   | false=>(match AG5 o.op with
     | true=>(match AU9 all n with|true=>true|false=>PE S all (n+1) l)
     | false=>PE S all (n+1) l))
def az (S:Sums) (all:List Oper):Bool:=match kB all with|true=>PE S all 0 all|false=>false
def KP:List Oper->List AV->(List AV->VC)->VC
 | [],fr,k=>k fr
 | o::l,fr,k=>(match HF o with
   | some x=>Ct (DN (ev fr x)) fun a=>JE fr o.dst a fun fr'=>KP l fr' k
   | none=>KP l fr k)
def c9:Op->Bool
 | .select _ _=>true
 | _=>false
def vu (all:List Oper):Bool :=
 Iy true (An all)&&all.all (fun o=>!(c9 o.op)&&(match o.guard with|some (g,_)=>!(PK all g)&&Nat.blt g all.length|none=>true)) &&
 En (fun i=>match all[i]? with
  | none=>true
  | some oi=>(match HF oi with
    | none=>true
    | some _=>En (fun j=>match all[j]? with
      | none=>true
      | some oj=>Nat.beq j i||oj.after.toList.any (fun e=>Region.binds .any e&&Nat.beq e.on i)||oi.apart all.toArray oj) all.length)) all.length
def Ao:List Bool->Nat->Bool
 | [],_=>false
 | b::_,0=>b
 | _::l,n+1=>Ao l n
def Zl:List Bool->Bool->List Bool
 | [],x=>[x]
 | a::l,x=>a::Zl l x
def AG4:Op->Bool
 | .indexAddr _ _ _=>true
 | _=>false
def AG7:Op->Bool
 | .indexAddr _ _ _=>true
 | .fieldAddr _ _ _=>true
 | _=>false
def l5:List Oper->List Bool->Nat->Bool
 | o::l,b::m,d=>(match b,AG7 o.op,k6 d o.dst with|true,true,true=>true|_,_,_=>l5 l m d)
 | _,_,_=>false
def vi:BinOp->Bool
 | .eql=>true
 | .neq=>true
 | _=>false
def w7 (all:List Oper) (fl:List Bool):Op->Bool
 | .move _=>true
 | .indexAddr _ _ _=>true
 | .load _ (.tmp d)=>l5 all fl d
 | .fieldAddr _ (.tmp d) _=>l5 all fl d
 | .binOp op _ _ (.const (.pointer none)) _=>vi op
 | _=>false
def Iq (fl:List Bool):List Edge->Bool
 | []=>true
 | e::l=>(match Ao fl e.on with|true=>Iq fl l|false=>false)
def AU3 (all:List Oper) (fl:List Bool) (o:Oper):Bool:=match w7 all fl o.op,o.guard with
 | true,none=>Iq fl o.after.toList
 | true,some (g,_)=>(match Ao fl g with|true=>Iq fl o.after.toList|false=>false)
 | false,_=>false
def qH (all:List Oper):List Oper->List Bool->List Bool
 | [],fl=>fl
 | o::l,fl=>qH all l (Zl fl (AU3 all fl o))
def Lv (all:List Oper):List Bool:=qH all all []
def cU (fl:List Bool):Option (Nat × Bool)->Option (Nat × Bool)
 | some (g,w)=>(match Ao fl g with|true=>none|false=>some (g,w))
 | none=>none
def O7 (fl:List Bool) (b:Bool) (o:Oper):Oper:=match b with
 | true=>{ o with dst:=none,op:=.move (.const (.bool true)),after:=⟨[]⟩,guard:=none }
 | false=>{ o with guard:=cU fl o.guard }
def FM (fl:List Bool):List Oper->List Bool->List Oper
 | o::l,b::m=>O7 fl b o::FM fl l m
 | _,_=>[]
def AT4:Op->Bool
 | .load _ _=>true
 | _=>false
def su:List Oper->List Bool->Bool
 | o::l,b::m=>(match b,AT4 o.op with|true,true=>true|_,_=>su l m)
 | _,_=>false
def lv:List Oper->Bool
 | []=>false
 | o::l=>(match AG4 o.op with|true=>true|false=>lv l)
def ir (all:List Oper):Bool:=match Ky all,lv all with
 | true,true=>su all (Lv all)
 | _,_=>false
def zf (all:List Oper) (fl:List Bool) (i:Nat) (oi:Oper):Bool :=
 En (fun j=>match all[j]? with
  | none=>true
  | some oj=>Nat.beq j i||(Ao fl j&&Nat.blt j i)||oj.after.toList.any (fun e=>Region.binds .any e&&Nat.beq e.on i)||oi.apart all.toArray oj) all.length
def uI (all:List Oper):Bool :=
 Iy true (An (FM (Lv all) all (Lv all)))&&Dd all &&
 En (fun i=>match all[i]?,(FM (Lv all) all (Lv all))[i]? with
  | some o,some o'=>((HF o').isSome == Ao (Lv all) i) && !(c9 o.op)&&(match o'.guard with|some (g,_)=>!(PK (FM (Lv all) all (Lv all)) g)&&Nat.blt g all.length|none=>true) &&
    (match Ao (Lv all) i with|false=>true|true=>zf all (Lv all) i o&&Iq (Lv all) o.after.toList)
  | _,_=>false) all.length
def ay (S:Sums) (all:List Oper):Bool:=match ir all with
 | true=>PE S (An all) 0 (An all)
 | false=>false
def ta (all:List Oper):Bool:=match QP all 0 all with
 | none=>true
 | some z=>Iy true (Ap all z)&&all.all (fun o=>o.guard.isNone)&&Er (Cq all []) z.a z.s&&(match all[z.s]? with|some o=>o.dst.isNone|none=>false)
def Cu:Code->Bool
 | .region _ ops dr=>Iy dr ops.toList&&(match dr with|true=>ta ops.toList&&(match kB ops.toList with|true=>vu ops.toList|false=>true)&&(match ir ops.toList with|true=>uI ops.toList|false=>true)|false=>true)
 | .seq a b=>Cu a&&Cu b
 | .cond _ a b=>Cu a&&Cu b
 | .block _ a=>Cu a
 | .loop a=>Cu a
 | .scope a=>Cu a
 | .rangeFunc _ _ a b=>Cu a&&Cu b
 | _=>true
abbrev Ctx:=Option (Nat × Cnd)
def Ctx.anc:Ctx->List Nat
 | none=>[]
 | some (_,x)=>x.anc
def HK (ctx:Ctx) (a:AV):AV:=match ctx with|none=>DN a|some (k,_)=>.gd k a
def cg (anc:List Nat) (T:List Cnd) (a:AV):Option (AV × Option Bool) :=
 match a with
 | .gd k a=>(match Eh k anc with
   | true=>some (a,none)
   | false=>(match T[k]? with|some ⟨_,_,c,_⟩=>some (a,some c)|none=>none))
 | a=>some (a,none)
def PD (ctx:Ctx) (cb w:Bool) (g:Option Bool) (k:VC):VC :=
 match g with
 | none=>k
 | some y=>(match ctx with
   | none=>.need ⟨fun z:Bool × Bool × Bool=>z.1=z.2.1->z.2.2=true,(cb,w,y)⟩ k
   | some (_,⟨_,_,c,_⟩)=>.need ⟨fun z:Bool × Bool × Bool × Bool=>z.1=true->z.2.1=z.2.2.1->z.2.2.2=true,(c,cb,w,y)⟩ k)
def Om (ctx:Ctx) (T:List Cnd) (c a b:AV) (k:AV->VC):VC :=
 match Dk ctx.anc c with
 | .lb true=>(match Dk ctx.anc a with|.top=>.fail|a=>Ct (HK ctx a) k)
 | .lb false=>(match Dk ctx.anc b with|.top=>.fail|b=>Ct (HK ctx b) k)
 | .sb cb=>(match cg ctx.anc T a,cg ctx.anc T b with
   | some (a,ga),some (b,gb)=>PD ctx cb true ga (PD ctx cb false gb
     (match a,b with
     | .lb true,.sb y=>k (HK ctx (.sb (bor cb y)))
     | .sb x,.lb false=>k (HK ctx (.sb (Jp cb x)))
     | .sb x,.sb y=>k (HK ctx (.sb (Z7 cb x y)))
     | .sb x,.lb y=>k (HK ctx (.sb (Z7 cb x y)))
     | .lb x,.sb y=>k (HK ctx (.sb (Z7 cb x y)))
     | .lb x,.lb y=>k (HK ctx (.sb (Z7 cb x y)))
     | _,_=>.fail))
   | _,_=>.fail)
 | _=>.fail
def GA:Op->Bool
 | .store _ _ _=>true
 | .mapUpdate _ _ _ _=>true
 | .slice _ _ _ _ _=>true
 | .buildSlice _ _ _=>true
 | .call c=>(match c.callee with|.value _=>true|.builtin .append=>true|_=>false)
 | _=>false
def CR:List Operand->List Nat
 | []=>[]
 | .tmp t::l=>t::CR l
 | _::l=>CR l
def tq:List (Nat × Operand)->List Operand
 | []=>[]
 | (_,x)::l=>x::tq l
def uR:Option Operand->List Operand
 | none=>[]
 | some x=>[x]
def rH:List Operand->List Operand->List Operand
 | [],m=>m
 | a::l,m=>a::rH l m
def Cc:Op->List Operand
 | .move x=>[x]
 | .assign x=>[x]
 | .box _ x=>[x]
 | .build _ parts=>tq parts.toList
 | .buildSlice _ _ parts=>tq parts.toList
 | .load _ x=>[x]
 | .store _ x y=>[x,y]
 | .nilCheck x=>[x]
 | .fieldAddr _ x _=>[x]
 | .field _ x _=>[x]
 | .indexAddr _ x y=>[x,y]
 | .index _ x y=>[x,y]
 | .binOp _ _ x y _=>[x,y]
 | .unOp _ _ x=>[x]
 | .convert _ _ x=>[x]
 | .makeFunc _ a b=>rH a.toList b.toList
 | .makeSlice _ x y=>[x,y]
 | .slice _ x a b c=>x::rH (uR a) (rH (uR b) (uR c))
 | .extract x _=>[x]
 | .pick c a b=>[c,a,b]
 | .lookup _ x y _=>[x,y]
 | .mapUpdate _ x y z=>[x,y,z]
 | .call c=>(match c.callee with|.value f=>f::c.args.toList|_=>c.args.toList)
 | _=>[]
def He (anc:List Nat) (fr:List AV):List Nat->(List (Nat × AV)->VC)->VC
 | [],k=>k []
 | t::l,k=>Ec (Dk anc (A4 fr t)) fun a=>He anc fr l fun m=>k ((t,a)::m)
def JX (l:List (Nat × AV)):Nat->AV :=
 List.rec (motive:=fun _=>Nat->AV) (fun _=>.top) (fun p _ ih n=>Bool.rec (motive:=fun _=>AV) (ih n) p.2 (Nat.beq p.1 n)) l
theorem eG (n:Nat):JX [] n=.top:=rfl
theorem PR (t:Nat) (a:AV) (l:List (Nat × AV)) (n:Nat):JX ((t,a)::l) n=(match Nat.beq t n with|true=>a|false=>JX l n):=by
 show Bool.rec (motive:=fun _=>AV) (JX l n) a (Nat.beq t n)=_
 cases Nat.beq t n<;>rfl
def Ks (m:List (Nat × AV)):Operand->AV
 | .tmp t=>JX m t
 | x=>ev [] x
def GL (P:Program) (S:Sums) (nb:Bool) (ctx:Ctx) (T:List Cnd) (o:Oper) (fr:List AV) (hp:A0) (K:List AV->A0->VC):VC :=
 match o.op with
 | .pick c a b=>Ec (ev fr c) fun c'=>Ec (ev fr a) fun a'=>Ec (ev fr b) fun b'=>Om ctx T c' a' b' fun r=>JE fr o.dst r fun fr'=>K fr' hp
 | op=>(match ctx with
   | none=>He [] fr (CR (Cc op)) fun m=>(Hk P S (Ks m) hp op).vc S (GA op&&nb) fr hp fun fr' hp' a=>JE fr' o.dst (DN a) fun fr''=>K fr'' hp'
   | some (k,⟨_,_,c,anc⟩)=>He anc fr (CR (Cc op)) fun m=>(Hk P S (Ks m) hp op).vcC S k c hp fun hp' a=>JE fr o.dst a fun fr'=>K fr' hp')
def Sa (j:Nat) (want:Bool):List Cnd->Nat->Option (Nat × Cnd)
 | [],_=>none
 | x::l,n=>(match Nat.beq x.j j,x.want == want with|true,true=>some (n,x)|_,_=>Sa j want l (n+1))
def Ss (want b:Bool) (k:Bool->VC):VC:=match want with|true=>k b|false=>k (MA b)
def ZI (T:List Cnd) (x:Cnd):List Cnd:=match T with|[]=>[x]|y::l=>y::ZI l x
def lenK:List Cnd->(Nat->VC)->VC
 | [],k=>k 0
 | _::l,k=>lenK l fun n=>k (n+1)
def forceT:List Cnd->(List Cnd->VC)->VC
 | [],k=>k []
 | ⟨j,want,c,anc⟩::l,k=>forceT l fun l'=>k (⟨j,want,c,anc⟩::l')
def hasO (i:Nat):AV->Bool
 | .own j _=>Nat.beq j i
 | .elt j _ _ _=>Nat.beq j i
 | .row j=>Nat.beq j i
 | .lsl j _ _=>Nat.beq j i
 | .mp j=>Nat.beq j i
 | .agg l=>hasOL i l
 | .tup l=>hasOL i l
 | .fn _ a b=>hasOL i a||hasOL i b
 | .gd _ a=>hasO i a
 | _=>false
where hasOL (i:Nat):List AV->Bool
 | []=>false
 | a::l=>hasO i a||hasOL i l
def cF (i:Nat):Blk->Bool
 | .cells _ l=>hasO.hasOL i l
 | .rows _ _ _ _ _ _ _ (some (_,some h))=>Nat.beq h i
 | _=>false
def Jb (i:Nat):A0->Bool
 | []=>false
 | b::l=>cF i b||Jb i l
def Sl:A0->Nat->A0
 | l,0=>l
 | [],_+1=>[]
 | _::l,n+1=>Sl l n
def MC (all:List Oper) (i:Nat):Bool:=(let ms:=Cq all []
    En (fun j=>match Nat.blt j i with|true=>Er ms j i|false=>true) all.length)
def bw (f:Nat->Bool):Nat->Nat
 | 0=>0
 | n+1=>(match f n with|true=>n+1|false=>bw f n)
def EK (all:List Oper) (i:Nat):Nat:=(let ms:=Cq all []
    bw (fun j=>match Nat.blt i j with|true=>!(Er ms i j)|false=>false) all.length)
def Wa (o:Oper) (fr:List AV):Bool:=match o.op with
 | .call c=>(match c.callee,c.args.toList with
   | .builtin .append,[.tmp t,_]=>(match A4 fr t with|.row _=>true|_=>false)
   | _,_=>false)
 | _=>false
def Dx:AR->Option Nat
 | .need _ r=>Dx r
 | .grow i _=>some i
 | _=>none
def Ni (P:Program) (S:Sums) (o:Oper) (fr:List AV) (hp:A0) (K:Nat->List AV->A0->VC):VC :=
 He [] fr (CR (Cc o.op)) fun m=>(match Dx (Hk P S (Ks m) hp o.op) with
  | some i=>(Hk P S (Ks m) hp o.op).vc S true fr hp fun fr' hp' a=>JE fr' o.dst (DN a) fun fr''=>K i fr'' hp'
  | none=>.fail)
def Ku (i:Nat) (fr:List AV):List Nat->Bool
 | []=>true
 | t::l=>!(hasO i (A4 fr t))&&Ku i fr l
def Mw (i:Nat) (d:Option Nat) (fr:List AV) (n:Nat) (hp:A0):Bool:=(match d with|none=>true|some d=>!(hasO i (A4 fr d))) && !(Jb i (Sl hp n))
def detA:AV->Bool
 | .lb _=>true
 | .sb _=>true
 | .si _ _=>true
 | .li _ _=>true
 | .agg l=>detL l
 | .tup l=>detL l
 | _=>false
where detL:List AV->Bool
 | []=>true
 | a::l=>(match detA a with|true=>detL l|false=>false)
def L5:AR->Option (List Cd × AV)
 | .val a=>some ([],a)
 | .need p (.val a)=>some ([p],a)
 | _=>none
def Lu (P:Program) (ρ:Operand->AV):Op->Option (List Cd × AV)
 | .move x=>some ([],ρ x)
 | .assign x=>some ([],ρ x)
 | .indexAddr t x i=>(match ρ x with|.slc n sz el=>L5 (H6 P [] t (.slc n sz el) (ρ i))|_=>none)
 | .fieldAddr t x f=>(match ρ x with
   | .xp l=>(match Fs P t (.xp l) f with|.val a=>some ([],a)|_=>none)
   | _=>none)
 | .nilCheck x=>(match NK (ρ x) with|true=>some ([],ρ x)|false=>none)
 | .call c=>(match c.callee,c.args.toList with
   | .builtin .min,[x,y]=>L5 (F6 false (ρ x) [ρ y])
   | .builtin .max,[x,y]=>L5 (F6 true (ρ x) [ρ y])
   | _,_=>none)
 | .load t x=>(match ρ x with
   | .xp l=>(match Ev P t l with|.val a=>some ([],a)|_=>none)
   | _=>none)
 | .binOp op t x (.const (.pointer none)) _=>(match UD P t,NK (ρ x),op with
   | true,true,.eql=>some ([],.lb false)
   | true,true,.neq=>some ([],.lb true)
   | _,_,_=>none)
 | .binOp op t x y _=>(match AD (ρ x),AD (ρ y) with
   | some _,some _=>(match L5 (lZ P ⟨[],[],0,[],[],[]⟩ op t (ρ x) (ρ y)) with|some (ps,a)=>(match detA a with|true=>some (ps,a)|false=>none)|none=>none)
   | _,_=>none)
 | .pick c a b=>(match ρ c with|.lb true=>some ([],ρ a)|.lb false=>some ([],ρ b)|_=>none)
 | _=>none
def Mg:Op->Bool
 | .select _ _=>true
 | _=>false
def okG (all:List Oper) (g:Nat->AV) (o:Oper):Bool:=match o.guard with
 | none=>true
 | some (k,b)=>(match Af all k with
   | some d=>(match Dk [] (g d) with|.lb c=>c == b|_=>false)
   | none=>false)
def okU (P:Program) (all:List Oper) (n:Nat) (g:Nat->AV) (j:Nat):Bool:=match all[j]? with
 | none=>false
 | some o=>(match okG all g o,Lu P (Ks ((CR (Cc o.op)).map fun t=>(t,Dk [] (g t)))) o.op with
   | true,some ([],_) =>
     En (fun p=>match all[p]? with|none=>true|some o'=>(match Nat.blt p j,Nat.blt p n with
      | false,true=>(match o'.dst with|none=>true|some d=>!((DO all o).contains d))
      | _,_=>true)) all.length &&
     En (fun k=>match all[k]? with|none=>true|some o'=>Nat.beq k j||Er (Cq all []) k j||o'.after.toList.any (fun e=>Region.binds .any e&&Nat.beq e.on j)||o.apart all.toArray o') all.length
   | _,_=>false)
def rB (P:Program) (all:List Oper) (n:Nat) (g:Nat->AV):Bool:=all.all (fun o=>!(Mg o.op))&&En (fun j=>match Nat.blt j n with
 | true=>(match Er (Cq all []) j n with|true=>true|false=>okU P all n g j)
 | false=>(match Nat.beq j n with|true=>true|false=>Er (Cq all []) n j)) all.length
def rA (P:Program) (S:Sums) (dr:Bool) (all:List Oper) (n:Nat) (T:List Cnd) (o:Oper) (g:Nat->AV):Bool:=match Dj dr all n with
 | true=>true
 | false=>(match dr,T,TE S o.op with|true,[],true=>rB P all n g|_,_,_=>false)
def tk (S:Sums) (n:Nat):List Oper->Bool
 | []=>false
 | o::l=>(match o.guard with
   | some (g,_)=>(match Nat.beq g n,TE S o.op with|true,true=>true|_,_=>tk S n l)
   | none=>tk S n l)
def nQ (S:Sums) (n:Nat) (o:Oper) (all:List Oper):Bool:=match GA o.op with|true=>false|false=>tk S n all
def Xz (sp:Bool) (d:Option Nat) (fr:List AV) (k:List AV->VC):VC :=
 match sp with
 | false=>k fr
 | true=>(match d with
   | none=>k fr
   | some d=>(match A4 fr d with
     | .sb b=>.branch b (EF fr d (.lb true) k) (EF fr d (.lb false) k)
     | _=>k fr))
def AI (P:Program) (S:Sums) (dr:Bool) (all:List Oper):Option (Nat × Nat)->Nat->List Oper->List Cnd->List AV->A0->(List AV->A0->VC)->VC
 | Z,n,[],_,fr,hp,K=>(match Z with
   | none=>Kv fr fun fr'=>K fr' hp
   | some (_,u)=>(match Nat.ble u n with|true=>Kv fr fun fr'=>K fr' hp|false=>.fail))
 | some (i,u),n,o::rest,T,fr,hp,K=>(match Nat.blt n u with
   | false=>.fail
   | true=>(match o.guard,T,Ku i fr (DO all o) with
     | none,[],true=>GL P S false none [] o fr hp fun fr' hp'=>(match Mw i o.dst fr' hp.length hp' with
       | true=>(match Nat.beq (n+1) u with
         | true=>AI P S dr all none (n+1) rest [] fr' hp' K
         | false=>AI P S dr all (some (i,u)) (n+1) rest [] fr' hp' K)
       | false=>.fail)
     | _,_,_=>.fail))
 | none,n,o::rest,T,fr,hp,K =>
   match o.guard with
   | none=>(match dr,T,Wa o fr with
     | true,[],true=>(match Dj true all n with
       | true=>GL P S true none T o fr hp fun fr' hp'=>AI P S dr all none (n+1) rest T fr' hp' K
       | false=>(match MC all n,Nat.blt (n+1) (EK all n) with
         | true,true=>Ni P S o fr hp fun i fr' hp'=>AI P S dr all (some (i,EK all n)) (n+1) rest T fr' hp' K
         | _,_=>.fail))
     | _,_,_=>GL P S (rA P S dr all n T o (A4 fr)) none T o fr hp fun fr' hp'=>Xz (nQ S n o all) o.dst fr' fun fr'=>AI P S dr all none (n+1) rest T fr' hp' K)
   | some (j,want)=>(match Sa j want T 0 with
     | some kx=>GL P S (Dj dr all n) (some kx) T o fr hp fun fr' hp'=>AI P S dr all none (n+1) rest T fr' hp' K
     | none=>(match Af all j with
       | none=>.fail
       | some d=>(match A4 fr d with
         | .tup []=>JE fr o.dst (.tup []) fun fr'=>AI P S dr all none (n+1) rest T fr' hp K
         | .lb b=>(match b == want with
           | true=>GL P S (Dj dr all n) none T o fr hp fun fr' hp'=>AI P S dr all none (n+1) rest T fr' hp' K
           | false=>JE fr o.dst (.tup []) fun fr'=>AI P S dr all none (n+1) rest T fr' hp K)
         | .sb b=>Ss want b fun c=>lenK T fun lt=>forceT (ZI T ⟨j,want,c,[lt]⟩) fun T' =>
           GL P S (Dj dr all n) (some (lt,⟨j,want,c,[lt]⟩)) T' o fr hp fun fr' hp'=>AI P S dr all none (n+1) rest T' fr' hp' K
         | .gd p (.lb b)=>(match b == want,T[p]? with
           | true,some x=>GL P S (Dj dr all n) (some (p,x)) T o fr hp fun fr' hp'=>AI P S dr all none (n+1) rest T fr' hp' K
           | false,some _=>JE fr o.dst (.tup []) fun fr'=>AI P S dr all none (n+1) rest T fr' hp K
           | _,none=>.fail)
         | .gd p (.sb b)=>(match T[p]? with
           | none=>.fail
           | some ⟨_,_,cx,anc⟩=>Ss want b fun c=>lenK T fun lt=>forceT (ZI T ⟨j,want,Jp cx c,lt::anc⟩) fun T' =>
             GL P S (Dj dr all n) (some (lt,⟨j,want,Jp cx c,lt::anc⟩)) T' o fr hp fun fr' hp' =>
              AI P S dr all none (n+1) rest T' fr' hp' K)
         | _=>.fail)))
def X1 (all:List Oper) (fr:List AV):Option (Nat × Bool)->Bool
 | none=>true
 | some (g,w)=>(match Af all g with
   | some d=>(match A4 fr d with|.lb b=>b == w|_=>false)
   | none=>false)
def LL (P:Program) (all:List Oper):List Oper->List Bool->List AV->(List AV->VC)->VC
 | o::l,b::m,fr,k=>(match b with
   | false=>LL P all l m fr k
   | true=>(match X1 all fr o.guard with
     | false=>.fail
     | true=>He [] fr (CR (Cc o.op)) fun mm=>(match Lu P (Ks mm) o.op with
       | none=>.fail
       | some (ps,a)=>needs ps (Ct (DN a) fun a=>JE fr o.dst a fun fr'=>LL P all l m fr' k))))
 | _,_,fr,k=>k fr
def KU (all:List Oper) (fl:List Bool) (fr:List AV):List Oper->List Bool->Bool
 | o::l,b::m=>(match b,o.guard with
   | false,some (g,w)=>(match Ao fl g with
     | true=>(match X1 all fr (some (g,w)) with|true=>KU all fl fr l m|false=>false)
     | false=>KU all fl fr l m)
   | _,_=>KU all fl fr l m)
 | _,_=>true
def OV (P:Program) (S:Sums) (all:List Oper) (fr:List AV) (hp:A0) (K:List AV->A0->VC):VC :=
 let fl:=Lv all
 let tg:=FM fl all fl
 LL P all all fl fr fun fr'=>(match KU all fl fr' all fl with
  | true=>AI P S true (An tg) none (I2 (AG tg)) (ET tg (I2 (AG tg)) tg) [] fr' hp K
  | false=>.fail)
def Gw (P:Program) (S:Sums) (z:Sw) (fb:Bool):Nat->List Oper->List AV->A0->(List AV->A0->VC)->VC
 | _,[],fr,hp,K=>Kv fr fun fr'=>K fr' hp
 | n,o::rest,fr,hp,K=>(match Nat.beq n z.a,Nat.beq n z.s with
   | true,_=>(match FD P z.t with|some _=>Gw P S z fb (n+1) rest fr hp K|none=>.fail)
   | false,true=>He [] fr (CR [z.x]) fun m=>Av (AU (Ks m z.x)) fun l=>(match decide (l.length=A9 P z.t/\0<A9 P z.t)&&LU l with
     | true=>forceH (HC hp [.cells z.t l]) fun hp'=>EF fr z.d (.own hp.length 0) fun fr'=>Gw P S z fb (n+1) rest fr' hp' K
     | false=>.fail)
   | false,false=>GL P S (match rest with|[]=>fb|_::_=>false) none [] o fr hp fun fr' hp'=>Gw P S z fb (n+1) rest fr' hp' K)
def km (all:List Oper):Bool:=match all with|[]=>false|_::l=>Dj true all (I2 l)
def AB (hp:A0) (i:Nat):Bool:=match A3 hp i with|.dead=>false|_=>true
def LY:AV->AV
 | .li k n=>.si k n
 | .lb b=>.sb b
 | .pa n sz el=>(match n with|0=>.v (.pointer none)|n+1=>.pa (n+1) sz el)
 | a=>a
def E3:List AV->List AV
 | []=>[]
 | a::l=>LY a::E3 l
def Ar (z:Nat × (Nat->List AV) × (Nat->List AV)):Prop:=∀ j,j<z.1->E3 (z.2.1 j)=E3 (z.2.2 j)
def m8 (z:Nat × Nat × (Nat->Nat->AV) × (Nat->Nat->AV)):Prop:=∀ k,k<z.1->∀ j,j<z.2.1->LY (z.2.2.1 k j)=LY (z.2.2.2 k j)
def Hi (z:Nat × Option Nat × ((Nat->Bool) × (Nat->Nat) × (Nat->Nat->List AV)) × ((Nat->Bool) × (Nat->Nat) × (Nat->Nat->List AV))):Prop :=
 ∀ k,k<z.1->z.2.1≠some k->z.2.2.1.1 k=z.2.2.2.1 k/\z.2.2.1.2.1 k=z.2.2.2.2.1 k/\Ar (z.2.2.2.2.1 k,z.2.2.1.2.2 k,z.2.2.2.2.2 k)
def AP (lo:Nat) (tgt:A0) (i:Nat):Bool:=Nat.ble lo i && !(AB tgt i)
def kj:Fn->Fn->Bool
 | .func a,.func b=>Nat.beq a b
 | _,_=>false
mutual
def Np (lo:Nat) (src tgt:A0) (a b:AV) (k:VC):VC :=
 match b with
 | .top=>k
 | .si q y=>(match AD a with|some q'=>(match decide (q=q') with|true=>.need ⟨fun z:Int × Int=>z.1=z.2,(AA a,y)⟩ k|false=>.fail)|none=>.fail)
 | .li q y=>(match a with|.li q' x=>(match decide (q=q'/\x=y) with|true=>k|false=>.fail)|_=>.fail)
 | .sb y=>(match a with|.sb x=>.need ⟨fun z:Bool × Bool=>z.1=z.2,(x,y)⟩ k|.lb x=>.need ⟨fun z:Bool × Bool=>z.1=z.2,(x,y)⟩ k|_=>.fail)
 | .lb y=>(match a with|.lb x=>(match x == y with|true=>k|false=>.fail)|_=>.fail)
 | .own i o=>(match a with|.own j p=>(match decide (i=j/\o=p)&&AB tgt i with|true=>k|false=>.fail)|_=>.fail)
 | .elt i s q o=>(match a with|.elt j s' q' o'=>(match decide (i=j/\o=o'/\s=s')&&AB tgt i with|true=>.need ⟨fun z:Nat × Nat=>z.1=z.2,(q',q)⟩ k|false=>.fail)|_=>.fail)
 | .row i=>(match a with|.row j=>(match decide (i=j)&&AB tgt i with|true=>k|false=>.fail)|_=>.fail)
 | .lsl i n s=>(match a with|.lsl j n' s'=>(match decide (i=j/\n=n'/\s=s')&&AB tgt i with|true=>k|false=>.fail)|_=>.fail)
 | .mp i=>(match a with|.mp j=>(match decide (i=j)&&AB tgt i with|true=>k|false=>.fail)|_=>.fail)
 | .slc n sz el=>(match a with
   | .slc n' sz' el'=>(match decide (sz=sz') with|true=>.need ⟨fun z:Nat × Nat=>z.1=z.2,(n'.val,n.val)⟩ (.need ⟨Ar,(n.val,el',el)⟩ k)|false=>.fail)
   | .row i=>(match A3 src i with
     | .row _ sz' n' el'=>(match decide (sz=sz')&&AP lo tgt i with|true=>.need ⟨fun z:Nat × Nat=>z.1=z.2,(n'.val,n.val)⟩ (.need ⟨Ar,(n.val,el',el)⟩ k)|false=>.fail)
     | _=>.fail)
   | .v (.slice none 0 _)=>.need ⟨fun z:Nat=>z=0,n.val⟩ k
   | _=>.fail)
 | .agg m=>(match a with|.agg l=>SL lo src tgt l m k|_=>.fail)
 | .tup m=>(match a with|.tup l=>SL lo src tgt l m k|_=>.fail)
 | .xp l=>(match ownIn.ownInL l with
   | true=>.fail
   | false=>(match a with
     | .xp m=>SL lo src tgt m l k
     | .own i o=>(match A3 src i with
       | .cells _ m=>(match AP lo tgt i with|true=>SL lo src tgt (AO m o) l k|false=>.fail)
       | _=>.fail)
     | _=>.fail))
 | .v x=>.need ⟨fun z:AV × AV=>z.1=z.2,(a,.v x)⟩ k
 | .fn f l m=>(match a with
   | .fn g l' m'=>(match ownIn.ownInL l||ownIn.ownInL m||ownIn.ownInL l'||ownIn.ownInL m' with
     | false=>.need ⟨fun z:AV × AV=>z.1=z.2,(.fn g l' m',.fn f l m)⟩ k
     | true=>(match kj g f with|true=>SL lo src tgt l' l (SL lo src tgt m' m k)|false=>.fail))
   | _=>.fail)
 | .gd _ _=>.fail
 | .pa n sz el=>(match a with
   | .pa n' sz' el'=>(match decide (sz=sz') with|true=>.need ⟨fun z:Nat × Nat=>z.1=z.2,(n',n)⟩ (.need ⟨Ar,(n,el',el)⟩ k)|false=>.fail)
   | .v (.pointer none)=>.need ⟨fun z:Nat=>z=0,n⟩ k
   | .xp m=>(match decide (sz=m.length/\0<sz)&&DV m with|true=>.need ⟨fun z:Nat × Nat=>z.1=z.2,(1,n)⟩ (.need ⟨Ar,(n,fun _=>m,el)⟩ k)|false=>.fail)
   | _=>.fail)
def SL (lo:Nat) (src tgt:A0) (l m:List AV) (k:VC):VC :=
 match m with
 | []=>(match l with|[]=>k|_=>.fail)
 | b::m=>(match l with|a::l=>Np lo src tgt a b (SL lo src tgt l m k)|[]=>.fail)
end
def yb (lo n:Nat) (src tgt:A0) (a b:Blk) (k:VC):VC :=
 match b with
 | .dead=>(match Nat.ble lo n with|true=>k|false=>(match a with|.dead=>k|_=>.fail))
 | .cells t m=>(match a with|.cells t' l=>(match decide (t=t') with|true=>SL lo src tgt l m k|false=>.fail)|_=>.fail)
 | .row e sz n el=>(match a with
   | .row e' sz' n' el'=>(match decide (e=e'/\sz=sz') with|true=>.need ⟨fun z:Nat × Nat=>z.1=z.2,(n'.val,n.val)⟩ (.need ⟨Ar,(n.val,el',el)⟩ k)|false=>.fail)
   | _=>.fail)
 | .mat t w n f=>(match a with
   | .mat t' w' n' f'=>(match decide (t=t'/\w=w') with|true=>.need ⟨fun z:Nat × Nat=>z.1=z.2,(n'.val,n.val)⟩ (.need ⟨m8,(n.val,w,f',f)⟩ k)|false=>.fail)
   | _=>.fail)
 | .rows e e1 sz n fz ln el ho=>(match a with
   | .rows e' e1' sz' n' fz' ln' el' ho'=>(match decide (e=e'/\e1=e1'/\sz=sz'),ho,ho' with
     | true,none,none=>.need ⟨fun z:Nat × Nat=>z.1=z.2,(n'.val,n.val)⟩ (.need ⟨Hi,(n.val,none,(fz',ln',el'),(fz,ln,el))⟩ k)
     | true,some (q,oh),some (q',oh')=>(match oh,oh' with
       | none,_=>.need ⟨fun z:Nat × Nat=>z.1=z.2,(n'.val,n.val)⟩ (.need ⟨fun z:Nat × Nat=>z.1=z.2,(q',q)⟩ (.need ⟨Hi,(n.val,some q,(fz',ln',el'),(fz,ln,el))⟩ k))
       | some h,some h'=>(match Nat.beq h h'&&AB tgt h with
         | true=>.need ⟨fun z:Nat × Nat=>z.1=z.2,(n'.val,n.val)⟩ (.need ⟨fun z:Nat × Nat=>z.1=z.2,(q',q)⟩ (.need ⟨Hi,(n.val,some q,(fz',ln',el'),(fz,ln,el))⟩ k))
         | false=>.fail)
       | some _,none=>.fail)
     | _,_,_=>.fail)
   | _=>.fail)
 | .tab n sz el=>(match a with
   | .tab n' sz' el'=>(match decide (sz=sz') with|true=>.need ⟨fun z:Nat × Nat=>z.1=z.2,(n'.val,n.val)⟩ (.need ⟨Ar,(n.val,el',el)⟩ k)|false=>.fail)
   | _=>.fail)
def eK (lo:Nat) (src tgt:A0):Nat->A0->A0->VC->VC
 | _,[],[],k=>k
 | n,_::_,[],k=>(match Nat.ble lo n with|true=>k|false=>.fail)
 | n,a::l,b::m,k=>yb lo n src tgt a b (eK lo src tgt (n+1) l m k)
 | _,[],_::_,_=>.fail
def ya (lo:Nat) (fr:List AV) (hp:A0) (s:AS):VC:=SL lo hp s.hp fr s.fr (eK lo hp s.hp 0 hp s.hp .done)
def Cv:Code->Nat
 | .region id _ _=>id
 | .seq a _=>Cv a
 | .block _ a=>Cv a
 | .loop a=>Cv a
 | .scope a=>Cv a
 | _=>0
def KK (f:AV->AV->VC->VC) (l m:List AV) (k:VC):VC :=
 List.rec (motive:=fun _=>List AV->VC) (fun l=>List.rec (motive:=fun _=>VC) k (fun _ _ _=>.fail) l) (fun b _ ih l=>List.rec (motive:=fun _=>VC) .fail (fun a l' _=>f a b (ih l')) l) m l
def leAF:Nat->Nat->A0->A0->AV->AV->VC->VC
 | 0,_,_,_,_,_,_=>.fail
 | d+1,lo,src,tgt,a,b,k =>
 match b with
 | .top=>k
 | .si q y=>(match AD a with|some q'=>(match decide (q=q') with|true=>.need ⟨fun z:Int × Int=>z.1=z.2,(AA a,y)⟩ k|false=>.fail)|none=>.fail)
 | .li q y=>(match a with|.li q' x=>(match decide (q=q'/\x=y) with|true=>k|false=>.fail)|_=>.fail)
 | .sb y=>(match a with|.sb x=>.need ⟨fun z:Bool × Bool=>z.1=z.2,(x,y)⟩ k|.lb x=>.need ⟨fun z:Bool × Bool=>z.1=z.2,(x,y)⟩ k|_=>.fail)
 | .lb y=>(match a with|.lb x=>(match x == y with|true=>k|false=>.fail)|_=>.fail)
 | .own i o=>(match a with|.own j p=>(match decide (i=j/\o=p)&&AB tgt i with|true=>k|false=>.fail)|_=>.fail)
 | .elt i s q o=>(match a with|.elt j s' q' o'=>(match decide (i=j/\o=o'/\s=s')&&AB tgt i with|true=>.need ⟨fun z:Nat × Nat=>z.1=z.2,(q',q)⟩ k|false=>.fail)|_=>.fail)
 | .row i=>(match a with|.row j=>(match decide (i=j)&&AB tgt i with|true=>k|false=>.fail)|_=>.fail)
 | .lsl i n s=>(match a with|.lsl j n' s'=>(match decide (i=j/\n=n'/\s=s')&&AB tgt i with|true=>k|false=>.fail)|_=>.fail)
 | .mp i=>(match a with|.mp j=>(match decide (i=j)&&AB tgt i with|true=>k|false=>.fail)|_=>.fail)
 | .slc n sz el=>(match a with
   | .slc n' sz' el'=>(match decide (sz=sz') with|true=>.need ⟨fun z:Nat × Nat=>z.1=z.2,(n'.val,n.val)⟩ (.need ⟨Ar,(n.val,el',el)⟩ k)|false=>.fail)
   | .row i=>(match A3 src i with
     | .row _ sz' n' el'=>(match decide (sz=sz')&&AP lo tgt i with|true=>.need ⟨fun z:Nat × Nat=>z.1=z.2,(n'.val,n.val)⟩ (.need ⟨Ar,(n.val,el',el)⟩ k)|false=>.fail)
     | _=>.fail)
   | .v (.slice none 0 _)=>.need ⟨fun z:Nat=>z=0,n.val⟩ k
   | _=>.fail)
 | .agg m=>(match a with|.agg l=>KK (leAF d lo src tgt) l m k|_=>.fail)
 | .tup m=>(match a with|.tup l=>KK (leAF d lo src tgt) l m k|_=>.fail)
 | .xp l=>(match ownIn.ownInL l with
   | true=>.fail
   | false=>(match a with
     | .xp m=>KK (leAF d lo src tgt) m l k
     | .own i o=>(match A3 src i with
       | .cells _ m=>(match AP lo tgt i with|true=>KK (leAF d lo src tgt) (AO m o) l k|false=>.fail)
       | _=>.fail)
     | _=>.fail))
 | .v x=>.need ⟨fun z:AV × AV=>z.1=z.2,(a,.v x)⟩ k
 | .fn f l m=>(match a with
   | .fn g l' m'=>(match ownIn.ownInL l||ownIn.ownInL m||ownIn.ownInL l'||ownIn.ownInL m' with
     | false=>.need ⟨fun z:AV × AV=>z.1=z.2,(.fn g l' m',.fn f l m)⟩ k
     | true=>(match kj g f with|true=>KK (leAF d lo src tgt) l' l (KK (leAF d lo src tgt) m' m k)|false=>.fail))
   | _=>.fail)
 | .gd _ _=>.fail
 | .pa n sz el=>(match a with
   | .pa n' sz' el'=>(match decide (sz=sz') with|true=>.need ⟨fun z:Nat × Nat=>z.1=z.2,(n',n)⟩ (.need ⟨Ar,(n,el',el)⟩ k)|false=>.fail)
   | .v (.pointer none)=>.need ⟨fun z:Nat=>z=0,n⟩ k
   | .xp m=>(match decide (sz=m.length/\0<sz)&&DV m with|true=>.need ⟨fun z:Nat × Nat=>z.1=z.2,(1,n)⟩ (.need ⟨Ar,(n,fun _=>m,el)⟩ k)|false=>.fail)
   | _=>.fail)
def jr (lo n:Nat) (src tgt:A0) (a b:Blk) (k:VC):VC :=
 match b with
 | .dead=>(match Nat.ble lo n with|true=>k|false=>(match a with|.dead=>k|_=>.fail))
 | .cells t m=>(match a with|.cells t' l=>(match decide (t=t') with|true=>KK (leAF 6 lo src tgt) l m k|false=>.fail)|_=>.fail)
 | .row e sz n el=>(match a with
   | .row e' sz' n' el'=>(match decide (e=e'/\sz=sz') with|true=>.need ⟨fun z:Nat × Nat=>z.1=z.2,(n'.val,n.val)⟩ (.need ⟨Ar,(n.val,el',el)⟩ k)|false=>.fail)
   | _=>.fail)
 | .mat t w n f=>(match a with
   | .mat t' w' n' f'=>(match decide (t=t'/\w=w') with|true=>.need ⟨fun z:Nat × Nat=>z.1=z.2,(n'.val,n.val)⟩ (.need ⟨m8,(n.val,w,f',f)⟩ k)|false=>.fail)
   | _=>.fail)
 | .rows e e1 sz n fz ln el ho=>(match a with
   | .rows e' e1' sz' n' fz' ln' el' ho'=>(match decide (e=e'/\e1=e1'/\sz=sz'),ho,ho' with
     | true,none,none=>.need ⟨fun z:Nat × Nat=>z.1=z.2,(n'.val,n.val)⟩ (.need ⟨Hi,(n.val,none,(fz',ln',el'),(fz,ln,el))⟩ k)
     | true,some (q,oh),some (q',oh')=>(match oh,oh' with
       | none,_=>.need ⟨fun z:Nat × Nat=>z.1=z.2,(n'.val,n.val)⟩ (.need ⟨fun z:Nat × Nat=>z.1=z.2,(q',q)⟩ (.need ⟨Hi,(n.val,some q,(fz',ln',el'),(fz,ln,el))⟩ k))
       | some h,some h'=>(match Nat.beq h h'&&AB tgt h with
         | true=>.need ⟨fun z:Nat × Nat=>z.1=z.2,(n'.val,n.val)⟩ (.need ⟨fun z:Nat × Nat=>z.1=z.2,(q',q)⟩ (.need ⟨Hi,(n.val,some q,(fz',ln',el'),(fz,ln,el))⟩ k))
         | false=>.fail)
       | some _,none=>.fail)
     | _,_,_=>.fail)
   | _=>.fail)
 | .tab n sz el=>(match a with
   | .tab n' sz' el'=>(match decide (sz=sz') with|true=>.need ⟨fun z:Nat × Nat=>z.1=z.2,(n'.val,n.val)⟩ (.need ⟨Ar,(n.val,el',el)⟩ k)|false=>.fail)
   | _=>.fail)
def Nb (lo:Nat) (src tgt:A0):Nat->A0->A0->VC->VC
 | _,[],[],k=>k
 | n,_::_,[],k=>(match Nat.ble lo n with|true=>k|false=>.fail)
 | n,a::l,b::m,k=>jr lo n src tgt a b (Nb lo src tgt (n+1) l m k)
 | _,[],_::_,_=>.fail
def eH (lo:Nat) (fr:List AV) (hp:A0) (s:AS):VC:=KK (leAF 6 lo hp s.hp) fr s.fr (Nb lo hp s.hp 0 hp s.hp .done)
def NU (i j k:Nat):Nat:=match Nat.beq k i with|true=>j|false=>(match Nat.beq k j with|true=>i|false=>k)
def swA (i j:Nat):AV->AV
 | .own k o=>.own (NU i j k) o
 | .elt k a b c=>.elt (NU i j k) a b c
 | .row k=>.row (NU i j k)
 | .lsl k n s=>.lsl (NU i j k) n s
 | .mp k=>.mp (NU i j k)
 | .agg l=>.agg (swL i j l)
 | .tup l=>.tup (swL i j l)
 | .fn f a b=>.fn f (swL i j a) (swL i j b)
 | .gd k a=>.gd k (swA i j a)
 | a=>a
where swL (i j:Nat):List AV->List AV
 | []=>[]
 | a::l=>swA i j a::swL i j l
def yO (i j:Nat):Blk->Blk
 | .cells t l=>.cells t (swA.swL i j l)
 | .rows e e' sz n fz ln el (some (k,some h))=>.rows e e' sz n fz ln el (some (k,some (NU i j h)))
 | b=>b
def zL (i j:Nat):A0->A0
 | []=>[]
 | b::l=>yO i j b::zL i j l
def tc (i j:Nat) (hp:A0):A0:=AM (AM (zL i j hp) i (yO i j (A3 hp j))) j (yO i j (A3 hp i))
def misO (lo n:Nat):List AV->List AV->Option (Nat × Nat)
 | b::m,l=>(match l with
   | []=>none
   | a::l=>(match b with
     | .own i _=>(match a with
       | .own j _=>(match Nat.beq i j with
         | true=>misO lo n m l
         | false=>(match Nat.ble lo i&&Nat.ble lo j&&Nat.blt i n&&Nat.blt j n with|true=>some (i,j)|false=>none))
       | _=>misO lo n m l)
     | _=>misO lo n m l))
 | [],_=>none
def yN (lo:Nat) (f2 fr:List AV) (hp:A0) (K:List AV->A0->VC):VC:=match misO lo hp.length f2 fr with
 | none=>K fr hp
 | some (i,j)=>forceLD (swA.swL i j fr) fun fr'=>forceH (tc i j hp) fun hp'=>K fr' hp'
def w_ (lo:Nat) (A:Ann) (m:Option Nat) (fr:List AV) (hp:A0):VC :=
 .ex (A:=A) A.dat m fun g=>Av (A.st g).fr fun f2=>forceH (A.st g).hp fun h2=>yN lo f2 fr hp fun fr hp=>eH lo fr hp ⟨f2,h2⟩
def Lb (t x c:Nat) (fr:List AV) (hp:A0) (K:A0->VC):VC:=match A4 fr t,Nat.beq (c % 64) 5 with
 | .own i o,true=>(match A3 hp i with
   | .cells ty l=>(match Fp (A4 l (o+c / 64)) with
     | true=>Av (Ay l (o+c / 64) (.row hp.length)) fun l'=>forceH (HC (AM hp i (.cells ty l')) [.row (x % 65536) (x / 65536+1) (.lit 0) (fun _=>[])]) fun hp'=>K hp'
     | false=>.fail)
   | _=>.fail)
 | _,_=>.fail
def KJ:List (Nat × TypeId × Nat)->List AV->A0->(List AV->A0->VC)->VC
 | [],fr,hp,K=>K fr hp
 | (t,e,sz)::l,fr,hp,K=>(match Fp (A4 fr t),sz with
   | true,_+1=>EF fr t (.row hp.length) fun fr'=>forceH (HC hp [.row e sz (.lit 0) (fun _=>[])]) fun hp'=>KJ l fr' hp' K
   | _,0=>Lb t e 5 fr hp fun hp'=>KJ l fr hp' K
   | _,_=>KJ l fr hp K)
abbrev Cz:=List (Nat × List (Nat × TypeId × Nat) × (List AV->A0->Ann))
def Am:List Oper->Nat
 | []=>0
 | o::l=>(match o.dst with|some d=>Nat.lor (Nat.shiftLeft 1 d) (Am l)|none=>Am l)
def EY:Code->Nat
 | .region _ ops _=>Am ops.toList
 | .seq a b=>Nat.lor (EY a) (EY b)
 | .cond _ a b=>Nat.lor (EY a) (EY b)
 | .block _ a=>EY a
 | .loop a=>EY a
 | _=>0
def Kj:List Nat->Nat
 | []=>0
 | p::l=>Nat.lor (Nat.shiftLeft 1 p) (Kj l)
def topM (m:Nat):List AV->Nat->(List AV->VC)->VC
 | [],_,k=>k []
 | a::l,n,k=>(match Nat.testBit m n with
   | true=>topM m l (n+1) fun l'=>k (.top::l')
   | false=>topM m l (n+1) fun l'=>k (a::l'))
def setPs:List Nat->List AV->List AV->(List AV->VC)->VC
 | [],[],fr,k=>k fr
 | p::ps,a::as,fr,k=>Ct (DN a) fun a'=>EF fr p a' fun fr'=>setPs ps as fr' k
 | _,_,_,_=>.fail
def fA (lo:Nat) (A:Ann) (i:Nat) (fr:List AV) (hp:A0):VC :=
 .ex (A:=A) A.dat none fun g=>.need ⟨fun z:Nat × Nat=>z.1=z.2,(A.mu g,i)⟩ (Av (A.st g).fr fun f2=>forceH (A.st g).hp fun h2=>yN lo f2 fr hp fun fr hp=>eH lo fr hp ⟨f2,h2⟩)
def eQ (a b:Code):Nat:=match Cv a with|0=>Cv b|n=>n
def Tt:AV->Bool
 | .own _ _=>true
 | .row _=>true
 | .lsl _ _ _=>true
 | .elt _ _ _ _=>true
 | .mp _=>true
 | .slc _ _ _=>true
 | .xp _=>true
 | .pa _ _ _=>true
 | .fn _ _ _=>true
 | .v x=>(match x with|.slice _ _ _=>true|.pointer _=>true|.map _=>true|_=>false)
 | _=>false
def LZ:List AV->Bool
 | []=>true
 | a::l=>Tt a&&LZ l
def Yu:Nat->A0->AV->AV
 | 0,_,_=>.top
 | d+1,hp,a=>(match a with
   | .own i off=>(match A3 hp i with
     | .cells _ l=>(match LZ l with|true=>.xp ((AO l off).map (Yu d hp))|false=>.top)
     | _=>.top)
   | a=>(match ownIn a with|true=>.top|false=>a))
def NN (hp:A0):List AV->List AV
 | []=>[]
 | a::l=>Yu 5 hp a::NN hp l
def Ud:AV->Prop
 | .li _ _=>True
 | .si _ _=>True
 | .lb _=>True
 | .sb _=>True
 | .slc n sz el=>0<sz/\∀ k,k<n.val->∀ a∈el k,AD a≠none
 | _=>False
def MH (l:List AV):Prop:=∀ a∈l,Ud a
def Ye (gf:Nat):Nat:=gf+1048576
def PW (S:Sums) (d gf:Nat) (hp:A0) (caps:List AV) (k:IN->List AV->Option (Nat × Nat × List AV)->VC):VC :=
 match AL S.its gf,ownIn.ownInL caps with
 | some it,false=>(match Nat.blt gf 1048576 with|true=>k it caps none|false=>.fail)
 | _,_=>(match AL S.its (Ye gf) with
   | some it=>forceLD (NN hp caps) fun cv=>k it cv (some (d,gf,cv))
   | none=>.fail)
def Z5 (S:Sums) (g:Operand) (fr:List AV) (hp:A0) (K:Items->Option (Nat × Nat × List AV)->VC):VC :=
 match g with
 | .tmp d=>(match A4 fr d with
   | .fn (.func gf) [] caps=>PW S d gf hp caps fun it cv cap=>(match it cv with
     | some x=>needs x.pre (K x cap)
     | none=>.fail)
   | _=>.fail)
 | _=>.fail
def Q7 (c:Option (Nat × Nat × List AV)) (its:List AV) (k:VC):VC :=
 match c with
 | none=>k
 | some _=>.need ⟨MH,its⟩ k
def SN (run:List AV->A0->(AE->List AV->A0->VC)->VC):Nat->List AV->A0->(AE->List AV->A0->VC)->VC
 | 0,_,_,_=>.fail
 | n+1,fr,hp,Q=>run fr hp fun e fr' hp'=>match e with
   | .normal=>SN run n fr' hp' Q
   | e=>Q e fr' hp'
def ZA:Op->Option Nat
 | .move (.tmp s)=>some s
 | _=>none
def cf:Op->Option (TypeId × Nat)
 | .binOp .eql t (.tmp a) (.const (.slice none 0 0)) _=>some (t,a)
 | _=>none
def We (P:Program) (t:TypeId):Bool:=match P.underlying t with|some (.slice _)=>true|_=>false
def k5:AV->Option LN
 | .slc n _ _=>some n
 | _=>none
def JP (P:Program) (ops:List Oper) (fr:List AV):Option (Nat × Nat × Nat × LN) :=
 match ops with
 | [o1,o2]=>(match cf o2.op with
   | some (t,a')=>(match ZA o1.op with
     | some s=>(match o1.dst,o1.guard,o2.dst,o2.guard with
       | some a,none,some b,none=>(match Nat.beq a a'&&We P t&&Nat.blt a fr.length,k5 (A4 fr s) with
         | true,some n=>some (s,a,b,n)
         | _,_=>none)
       | _,_,_,_=>none)
     | none=>none)
   | none=>none)
 | _=>none
def Gp:Ann:=⟨Unit,fun _=>⟨[],[]⟩,Unit,fun _=>(),fun _=>True,fun _=>0⟩
def AI6 (d gf:Nat) (cv:List AV) (fr:List AV) (hp:A0):VC :=
 match A4 fr d with
 | .fn (.func gf') [] caps=>(match Nat.beq gf gf' with
   | true=>forceLD (NN hp caps) fun cw=>KK (leAF 6 0 [] []) cw cv .done
   | false=>.fail)
 | _=>.fail
def Q6 (c:Option (Nat × Nat × List AV)) (fr:List AV) (hp:A0) (k:VC):VC :=
 match c with
 | none=>k
 | some (d,gf,cv)=>.loop (A:=Gp) (fun _=>()) (AI6 d gf cv fr hp) fun _=>k
def sZ (s a b:Nat) (n:LN) (fr:List AV) (hp:A0) (K:List AV->A0->VC):VC :=
 .loop (A:=Gp) (fun _=>()) (.branch (Yl (Em n.val) 0) (EF fr a (A4 fr s) fun f=>EF f b (.lb true) fun f=>K f hp) .done) (fun _=>EF fr a (A4 fr s) fun f=>EF f b (.lb false) fun f=>K f hp)
@[irreducible]def cpI (n j:Nat) (x y:Int):Int:=if j<n then x else y
def KM (k:IntKind):List AV->Bool
 | []=>true
 | a::l=>(match AD a with|some k'=>decide (k'=k)&&KM k l|none=>false)
def UM (k:IntKind) (n j:Nat):List AV->List AV->List AV
 | a::e,b::l=>.si k (cpI n j (AA a) (AA b))::UM k n j e l
 | _,_=>[]
def XI (k:IntKind) (n sz:Nat) (el:Nat->List AV):Nat->Nat->List AV->List AV
 | 0,_,_=>[]
 | m+1,j,l=>Es (UM k n j (el j) (AW l sz)) (XI k n sz el m (j+1) (AO l sz))
def qj (k:IntKind) (sz:Nat) (el:Nat->List AV):Nat->Nat->Bool
 | 0,_=>true
 | m+1,j=>KM k (el j)&&Nat.beq (el j).length sz&&qj k sz el m (j+1)
structure Cpy where
 d1:Nat
 d2:Nat
 d3:Nat
 d4:Nat
 s:Nat
 i:Nat
 off:Nat
 N:Nat
 sz:Nat
 n:LN
 el:Nat->List AV
 t:TypeId
 l:List AV
 k:IntKind
def lI (ops:List Oper):Option (TypeId × Operand × Nat × TypeId × TypeId × Nat × Nat × Nat × Nat × Nat) :=
 match ops with
 | [o1,o2,o3,o4]=>(match o1.op,o2.op,o3.op,o4.op with
   | .fieldAddr t1 x f,.slice t2 (.tmp a) none none none,.move (.tmp s),.call c=>(match c.callee,c.args.toList,c.argTypes.toList with
     | .builtin .copy,[.tmp b,.tmp e],[T,_]=>(match o1.dst,o2.dst,o3.dst,o4.dst with
       | some d1,some d2,some d3,some d4=>(match o1.guard,o2.guard,o3.guard,o4.guard with
         | none,none,none,none=>(match Nat.beq a d1&&Nat.beq b d2&&Nat.beq e d3 && !(Nat.beq d2 d3) && !(Nat.beq s d1) && !(Nat.beq s d2) with
           | true=>some (t1,x,f,t2,T,s,d1,d2,d3,d4)
           | false=>none)
         | _,_,_,_=>none)
       | _,_,_,_=>none)
     | _,_,_=>none)
   | _,_,_,_=>none)
 | _=>none
def Yy (P:Program) (ops:List Oper) (fr:List AV) (hp:A0):Option Cpy :=
 match lI ops with
 | none=>none
 | some (t1,x,f,t2,T,s,d1,d2,d3,d4)=>(match Fs P t1 (ev fr x) f,P.underlying t2,P.underlying T,A4 fr s with
   | .val (.own i off),some (.array N e),some (.slice e'),.slc n sz el=>(match A3 hp i with
     | .cells t l=>(match AD (A4 l off) with
       | some k=>(match decide (e=e')&&Nat.beq sz (A9 P e)&&Nat.blt 0 sz&&Nat.ble (off+N*sz) l.length&&KM k (AW (AO l off) (N*sz))&&qj k sz el N 0&&Nat.blt d1 fr.length&&Nat.blt d2 fr.length&&Nat.blt d3 fr.length with
         | true=>some ⟨d1,d2,d3,d4,s,i,off,N,sz,n,el,t,l,k⟩
         | false=>none)
       | none=>none)
     | _=>none)
   | _,_,_,_=>none)
def XJ (z:Cpy) (hp:A0):A0:=AM hp z.i (.cells z.t (EH z.l z.off (XI z.k z.n.val z.sz z.el z.N 0 (AO z.l z.off))))
def lF (z:Cpy) (fr:List AV) (hp:A0) (K:List AV->A0->VC):VC :=
 forceH (XJ z hp) fun hp'=>EF fr z.d1 (.own z.i z.off) fun f=>EF f z.d2 .top fun f=>EF f z.d3 (A4 fr z.s) fun f=>EF f z.d4 .top fun f=>K f hp'
def giA (j:Nat) (l:List AV):AV->AV
 | .own i o=>(match Nat.beq i j with|true=>.xp (AO l o)|false=>.own i o)
 | .elt i a b c=>(match Nat.beq i j with|true=>.top|false=>.elt i a b c)
 | .row i=>(match Nat.beq i j with|true=>.top|false=>.row i)
 | .lsl i n s=>(match Nat.beq i j with|true=>.top|false=>.lsl i n s)
 | .mp i=>(match Nat.beq i j with|true=>.top|false=>.mp i)
 | .agg m=>.agg (giL j l m)
 | .tup m=>.tup (giL j l m)
 | .fn g a b=>.fn g (giL j l a) (giL j l b)
 | .gd k a=>.gd k (giA j l a)
 | a=>a
where giL (j:Nat) (l:List AV):List AV->List AV
 | []=>[]
 | a::m=>giA j l a::giL j l m
def giB (j:Nat) (l:List AV):Blk->Blk
 | .cells t m=>.cells t (giA.giL j l m)
 | .rows e e' sz n fz ln el ho=>.rows e e' sz n fz ln el (mM (EJ j .top) ho)
 | b=>b
def giH (j:Nat) (l:List AV):A0->A0
 | []=>[]
 | b::m=>giB j l b::giH j l m
def paA (j:Nat) (p:AV):AV->AV
 | .elt i a k o=>(match Nat.beq i j with|true=>(match Nat.beq k 0&&Nat.beq o 0 with|true=>p|false=>.top)|false=>.elt i a k o)
 | .own i o=>(match Nat.beq i j with|true=>.top|false=>.own i o)
 | .row i=>(match Nat.beq i j with|true=>.top|false=>.row i)
 | .lsl i n s=>(match Nat.beq i j with|true=>.top|false=>.lsl i n s)
 | .mp i=>(match Nat.beq i j with|true=>.top|false=>.mp i)
 | .agg m=>.agg (paL j p m)
 | .tup m=>.tup (paL j p m)
 | .fn g a b=>.fn g (paL j p a) (paL j p b)
 | .gd k a=>.gd k (paA j p a)
 | a=>a
where paL (j:Nat) (p:AV):List AV->List AV
 | []=>[]
 | a::m=>paA j p a::paL j p m
def paB (j:Nat) (p:AV):Blk->Blk
 | .cells t m=>.cells t (paA.paL j p m)
 | .rows e e' sz n fz ln el ho=>.rows e e' sz n fz ln el (mM (EJ j .top) ho)
 | b=>b
def paH (j:Nat) (p:AV):A0->A0
 | []=>[]
 | b::m=>paB j p b::paH j p m
def sM (fr:List AV) (hp:A0) (t off:Nat):Option Nat:=match A4 fr t with
 | .row j=>some j
 | .own i o=>(match A3 hp i with
   | .cells _ l=>(match A4 l (o+off) with|.row j=>some j|_=>none)
   | _=>none)
 | _=>none
def Ng (e' sz j:Nat) (fr:List AV) (hp:A0) (K:List AV->A0->VC):VC:=match A3 hp j,sz with
 | .row e 1 n el,s+1=>.need ⟨fun z:Nat × (Nat->List AV)=>0<z.1/\∀ k,k<z.1->z.2 k=[.v (.slice none 0 0)],(n.val,el)⟩ (forceH (AM hp j (.rows e e' (s+1) n (fun _=>false) (fun _=>0) (fun _ _=>[]) none)) fun hp'=>K fr hp')
 | _,_=>.fail
def vq:AV->Option Int
 | .li _ a=>some a
 | .si _ a=>some a
 | _=>none
def AG9 (fr:List AV) (x:Nat):Option Int:=match Nat.ble 4096 x with
 | false=>vq (A4 fr x)
 | true=>(match vq (A4 fr (x % 4096)),vq (A4 fr (x / 4096)) with|some a,some b=>some (Yi a b)|_,_=>none)
def Qz (x j:Nat) (fr:List AV) (hp:A0) (K:List AV->A0->VC):VC:=match A3 hp j,AG9 fr x with
 | .rows e e' sz n fz ln el none,some a=>.need ⟨fun z:Int × Nat=>0<=z.1/\z.1<(z.2:Int),(a,n.val)⟩ (.need ⟨fun z:Bool=>z=false,fz (Iz a)⟩
   (forceH (HC (AM hp j (.rows e e' sz n fz ln el (some (Iz a,some hp.length)))) [.row e' sz (.sym (ln (Iz a))) (el (Iz a))]) fun hp'=>K fr hp'))
 | _,_=>.fail
def Jn (lo:Nat) (stay:Bool) (j:Nat) (fr:List AV) (hp:A0) (K:List AV->A0->VC):VC:=match A3 hp j with
 | .rows e e' sz n fz ln el (some (k,some h))=>(match A3 hp h with
   | .row e2 sz2 m f=>(match decide (e2=e'/\sz2=sz/\h≠j)&&Nat.ble lo h&&Nat.ble lo j with
     | true=>forceLD (mapR.mapRL (EJ h .top) fr) fun fr'=>forceH (AM (AM (E5 (EJ h .top) hp) h .dead) j (.rows e e' sz n (Xl k stay fz) (Xo k m.val ln) (Xn k f el) none)) fun hp'=>K fr' hp'
     | false=>.fail)
   | _=>.fail)
 | _=>.fail
def Qx (lo j:Nat) (fr:List AV) (hp:A0) (K:List AV->A0->VC):VC:=match A3 hp j with
 | .rows e _ sz n _ ln el none=>(match Nat.ble lo j with
   | true=>forceH (AM hp j (.row e 1 n (fun k=>[.slc (.sym (ln k)) sz (el k)]))) fun hp'=>K fr hp'
   | false=>.fail)
 | _=>.fail
def ey (lo j:Nat) (fr:List AV) (hp:A0) (K:List AV->A0->VC):VC:=match A3 hp j with
 | .row _ sz n el=>(match Nat.ble lo j with
   | true=>forceLD (mapR.mapRL (EJ j (.slc n sz el)) fr) fun fr'=>forceH (AM (E5 (EJ j (.slc n sz el)) hp) j .dead) fun hp'=>K fr' hp'
   | false=>.fail)
 | _=>.fail
def R4 (sz j:Nat) (fr:List AV) (hp:A0) (K:List AV->A0->VC):VC:=match A3 hp j with
 | .row e 1 n el=>.need ⟨fun z:Nat × (Nat->List AV)=>∀ k,k<z.1->z.2 k=[.v (.slice none 0 0)],(n.val,el)⟩ (forceH (AM hp j (.row e 1 n (fun _=>[.slc (.sym 0) sz (fun _=>[])]))) fun hp'=>K fr hp')
 | _=>.fail
def NB (lo x c j:Nat) (fr:List AV) (hp:A0) (K:List AV->A0->VC):VC:=match c % 64 with
 | 1=>Qz x j fr hp K
 | 2=>Jn lo false j fr hp K
 | 3=>Jn lo true j fr hp K
 | 4=>Qx lo j fr hp K
 | 6=>ey lo j fr hp K
 | 7=>R4 x j fr hp K
 | c=>(match Nat.ble 16 c with|true=>Ng x (c-16) j fr hp K|false=>.fail)
def I6 (lo:Nat):List (Nat × TypeId × Nat)->List AV->A0->(List AV->A0->VC)->VC
 | [],fr,hp,K=>K fr hp
 | (t,x,c)::r,fr,hp,K=>(match Nat.beq c 0 with
  | false=>(match sM fr hp t (c / 64) with
    | some j=>NB lo x c j fr hp fun fr hp=>I6 lo r fr hp K
    | none=>Lb t x c fr hp fun hp=>I6 lo r fr hp K)
  | true=>(match A4 fr t with
   | .own j _=>(match A3 hp j with
     | .cells _ l=>(match ownIn.ownInL l,Nat.ble lo j with
       | false,true=>forceLD (giA.giL j l fr) fun fr'=>forceH (AM (giH j l hp) j .dead) fun hp'=>I6 lo r fr' hp' K
       | _,_=>.fail)
     | _=>.fail)
   | .row j=>(match A3 hp j with
     | .row _ sz n el=>(match Nat.ble lo j with
       | true=>forceLD (mapR.mapRL (EJ j (.slc n sz el)) fr) fun fr'=>forceH (AM (E5 (EJ j (.slc n sz el)) hp) j .dead) fun hp'=>I6 lo r fr' hp' K
       | false=>.fail)
     | _=>.fail)
   | .elt j _ _ _=>(match A3 hp j with
     | .mat _ w (.lit 1) f=>(match Nat.ble lo j with
       | true=>forceLD (paA.paL j (.pa w 1 (fun k=>[f 0 k])) fr) fun fr'=>forceH (AM (paH j (.pa w 1 (fun k=>[f 0 k])) hp) j .dead) fun hp'=>I6 lo r fr' hp' K
       | false=>.fail)
     | _=>.fail)
   | _=>.fail))
def Wo (I:List (Nat × List (Nat × TypeId × Nat) × (List AV->A0->Ann))) (lo id:Nat) (fr:List AV) (hp:A0) (K:List AV->A0->VC):VC:=match AL I (id+2097152) with
 | none=>K fr hp
 | some (l,_)=>I6 lo l fr hp K
def Tb (all:List Oper) (D:List Nat) (i:Nat):Bool:=match Eh i D with
 | true=>false
 | false=>(match all[i]? with|none=>false|some o=>o.after.toList.all fun e=>!(Region.binds .any e)||Eh e.on D)
def apN (all:List Oper) (D:List Nat) (i:Nat) (o:Oper):Bool:=En (fun k=>match all[k]? with
 | none=>true
 | some o'=>Nat.beq k i||Eh k D||o'.after.toList.any (fun e=>Region.binds .any e&&Nat.beq e.on i)||o.apart all.toArray o') all.length
def Uo (all:List Oper) (g:Nat->AV) (o:Oper):Option Bool:=match o.guard with
 | none=>some true
 | some (j,w)=>(match Af all j with
   | some d=>(match g d with|.lb b=>some (b == w)|_=>none)
   | none=>none)
def w9 (P:Program) (all:List Oper) (g:Nat->AV) (o:Oper):Option (List Cd × AV):=match Uo all g o with
 | some true=>(match Lu P (Ks ((CR (Cc o.op)).map fun t=>(t,Dk [] (g t)))) o.op with
   | some (ps,a)=>some (ps,DN a)
   | none=>none)
 | some false=>some ([],.tup [])
 | none=>none
def qJ (P:Program) (all:List Oper) (D:List Nat) (g:Nat->AV) (i:Nat):Option (Oper × List Cd × AV):=match Tb all D i,all[i]? with
 | true,some o=>(match w9 P all g o with
   | some (ps,a)=>(match apN all D i o with|true=>some (o,ps,a)|false=>none)
   | none=>none)
 | _,_=>none
def X8 (P:Program) (all:List Oper) (D:List Nat) (g:Nat->AV):Nat->Option (Nat × Oper × List Cd × AV)
 | 0=>none
 | i+1=>(match qJ P all D g i with|some (o,ps,a)=>some (i,o,ps,a)|none=>X8 P all D g i)
def spN (all:List Oper) (D:List Nat) (g:Nat->AV) (i:Nat):Option (Nat × Bool):=match Tb all D i,all[i]? with
 | true,some o=>(match o.guard with
   | some (j,_)=>(match Af all j with
     | some d=>(match g d with|.sb c=>some (d,c)|_=>none)
     | none=>none)
   | none=>none)
 | _,_=>none
def iB (all:List Oper) (D:List Nat) (g:Nat->AV):Nat->Option (Nat × Bool)
 | 0=>none
 | i+1=>(match spN all D g i with|some x=>some x|none=>iB all D g i)
def Tc (all:List Oper) (D:List Nat):Nat->List Nat
 | 0=>[]
 | i+1=>(match Tb all D i with|true=>i::Tc all D i|false=>Tc all D i)
def Jq:List Nat->(Nat->VC)->VC
 | [],_=>.done
 | i::l,k=>.loop (A:=⟨Unit,fun _=>⟨[],[]⟩,Unit,fun _=>(),fun _=>True,fun _=>0⟩) (fun _=>()) (k i) fun _=>Jq l k
def FW (P:Program) (S:Sums) (all:List Oper):Nat->List Nat->List AV->A0->(List AV->A0->VC)->VC
 | 0,_,_,_,_=>.fail
 | f+1,D,fr,hp,K=>(match X8 P all D (A4 fr) all.length with
   | some (i,o,ps,a)=>needs ps (JE fr o.dst a fun fr'=>FW P S all f (i::D) fr' hp K)
   | none=>(match iB all D (A4 fr) all.length with
     | some (d,c)=>.branch c (EF fr d (.lb true) fun fr'=>FW P S all f D fr' hp K) (EF fr d (.lb false) fun fr'=>FW P S all f D fr' hp K)
     | none=>(match Tc all D all.length with
       | []=>Kv fr fun fr'=>K fr' hp
       | i::l=>Jq (i::l) fun i=>(match all[i]? with
         | some o=>(match Uo all (A4 fr) o with
           | some true=>GL P S true none [] o fr hp fun fr' hp'=>FW P S all f (i::D) fr' hp' K
           | _=>.fail)
         | none=>.fail))))
def qb (b:Code):Nat:=Cv b+1048576
def Hj (P:Program) (S:Sums) (U:Nat) (I:Cz):Code->List AV->A0->(AE->List AV->A0->VC)->VC
 | .skip,fr,hp,Q=>Q .normal fr hp
 | .region id ops dr,fr,hp,Q=>Wo I S.lo id fr hp fun fr hp=>(match dr with
   | true=>(match AL I (id+4194304) with
     | some _=>(match ops.toList.all fun o=>!(Mg o.op) with
       | true=>FW P S ops.toList (2*ops.toList.length+1) [] fr hp (Q .normal)
       | false=>.fail)
     | none=>(match QP ops.toList 0 ops.toList with
       | none=>(match ay S ops.toList with
         | true=>OV P S ops.toList fr hp (Q .normal)
         | false=>(match az S ops.toList with
           | false=>AI P S true ops.toList none 0 ops.toList [] fr hp (Q .normal)
           | true=>KP ops.toList fr fun fr'=>AI P S true (An ops.toList) none (I2 (AG ops.toList)) (ET ops.toList (I2 (AG ops.toList)) ops.toList) [] fr' hp (Q .normal)))
       | some z=>(match Nat.blt z.d fr.length with
         | true=>EF fr z.d .top fun fr'=>Gw P S z (km ops.toList) 0 (Ap ops.toList z) fr' hp (Q .normal)
         | false=>.fail)))
   | false=>(match JP P ops.toList fr with
     | some (s,a,b,n)=>sZ s a b n fr hp (Q .normal)
     | none=>(match Yy P ops.toList fr hp with
       | some z=>lF z fr hp (Q .normal)
       | none=>AI P S false ops.toList none 0 ops.toList [] fr hp (Q .normal))))
 | .seq a b,fr,hp,Q=>(match AL I (qb b) with
   | none=>Hj P S U I a fr hp fun e fr' hp'=>match e with
     | .normal=>Hj P S U I b fr' hp' Q
     | e=>Q e fr' hp'
   | some (_,ann) =>
     let A:=ann fr hp
     .loop (A:=A) A.dat (Hj P S U I a fr hp fun e fr' hp'=>match e with
      | .normal=>w_ S.lo A none fr' hp'
      | e=>Q e fr' hp') fun g=>Av (A.st g).fr fun fr=>forceH (A.st g).hp fun hp=>Hj P S U I b fr hp Q)
 | .cond c t e,fr,hp,Q=>(match c with
   | .tmp d=>KD fr d fun b fr=>(match b with|true=>Hj P S U I t fr hp Q|false=>Hj P S U I e fr hp Q)
   | .const (.bool true)=>Hj P S U I t fr hp Q
   | .const (.bool false)=>Hj P S U I e fr hp Q
   | _=>.fail)
 | .block id c,fr,hp,Q=>Hj P S U I c fr hp fun e fr' hp'=>match e with
   | .exit j=>(match Nat.beq id j with|true=>Q .normal fr' hp'|false=>Q (.exit j) fr' hp')
   | e=>Q e fr' hp'
 | .loop c,fr,hp,Q=>(match AL I (Cv c) with
   | none=>SN (Hj P S U I c) U fr hp Q
   | some (nils,ann)=>KJ nils fr hp fun fr hp =>
     let A:=ann fr hp
     .loop (A:=A) A.dat (w_ S.lo A none fr hp) fun g=>Av (A.st g).fr fun fr=>forceH (A.st g).hp fun hp=>Hj P S U I c fr hp fun e fr' hp'=>match e with
      | .normal=>w_ S.lo A (some (A.mu g)) fr' hp'
      | e=>Q e fr' hp')
 | .rangeFunc g ps assign body,fr,hp,Q=>Z5 S g fr hp fun x cap=>(match AL I (eQ assign body) with
   | none=>.fail
   | some (nils,ann)=>KJ nils fr hp fun fr hp =>
     let A:=ann fr hp
     .loop (A:=A) A.dat (fA S.lo A 0 fr hp) fun g=>Av (A.st g).fr fun fr=>forceH (A.st g).hp fun hp=>Q6 cap fr hp (
      .branch (mI (A.mu g) x.n)
       (Q7 cap (x.it (A.mu g)) (setPs ps.toList (x.it (A.mu g)) fr fun fr1=>Hj P S U I assign fr1 hp fun e fr2 hp2=>match e with
        | .normal=>Hj P S U I body fr2 hp2 fun e fr3 hp3=>topM (Nat.lor (Kj ps.toList) (Nat.lor (EY assign) (EY body))) fr3 0 fun fr4=>match e with
          | .normal=>fA S.lo A (Ii (A.mu g) 1) fr4 hp3
          | e=>Q e fr4 hp3
        | _=>.fail))
       (Q .normal fr hp)))
 | .exit id,fr,hp,Q=>Q (.exit id) fr hp
 | .ret,fr,hp,Q=>Q .ret fr hp
 | _,_,_,_=>.fail
def TY (P:Program) (fr:List AV) (hp:A0):List ResultVar->(List AV->VC)->VC
 | [],k=>k []
 | .tmp t::l,k=>TY P fr hp l fun m=>k (A4 fr t::m)
 | .cell a ty::l,k=>(match Fe P hp ty (A4 fr a) with|.val x=>TY P fr hp l fun m=>k (x::m)|_=>.fail)
def oX (l:List AV) (hp:A0):VC:=match l with
 | [a]=>Ct a fun a'=>.out a' hp
 | l=>forceLD l fun l'=>.out (.tup l') hp
def KI:List AV->Nat->List AV
 | l,0=>l
 | [],n+1=>.tup []::KI [] n
 | a::l,n+1=>a::KI l n
def wpF (P:Program) (S:Sums) (U:Nat) (I:Cz) (fn:Func) (args:List AV) (hp:A0):VC :=
 match fn.body with
 | some c=>Av (KI args fn.ntmps) fun fr=>Hj P S U I c fr hp fun e fr hp=>match e with
   | .exit _=>.fail
   | _=>TY P fr hp fn.results.toList fun l=>oX l hp
 | none=>.fail
def VC.sat (R:AV->A0->Prop):VC->Prop
 | .fail=>False
 | .need p k=>p.ok/\k.sat R
 | .branch b t e=>(b=true->t.sat R)/\(b=false->e.sat R)
 | .out r hp=>R r hp
 | .done=>True
 | @VC.loop A d e b=>e.sat R/\∀ g,A.q (d g)->(b g).sat R
 | @VC.ex A d m k=>∃ g,A.q (d g)/\(match m with|some n=>A.mu g<n|none=>True)/\(k g).sat R
end
end Abs
end Go.Proofs.YtccgngldoinokaaGreat

namespace Go.Proofs.YtccgngldoinokaaGreat
namespace Abs
open Go
inductive Sh where
 | int (k:IntKind)
 | bool
 | slice (sz:Nat) (e:List Sh)
 | agg (l:List Sh)
 | fn (f:Nat) (a b:List Sh)
 | ptr (l:List Sh)
 | own (i off:Nat)
 | rowr (i:Nat)
 | mpr (i:Nat)
 | any
mutual
@[reducible]def fj:Sh->Type
 | .int _=>Int
 | .bool=>Bool
 | .slice _ e=>Nat × (Nat->Ad e)
 | .agg l=>Ad l
 | .fn _ a b=>Ad a × Ad b
 | .ptr l=>Ad l
 | .own _ _=>Unit
 | .rowr _=>Unit
 | .mpr _=>Unit
 | .any=>AV
@[reducible]def Ad:List Sh->Type
 | []=>Unit
 | s::l=>fj s × Ad l
end
mutual
def enc:(s:Sh)->fj s->AV
 | .int k,n=>.si k n
 | .bool,b=>.sb b
 | .slice sz e,x=>.slc (.sym x.1) sz (fun k=>Ab e (x.2 k))
 | .agg l,x=>.agg (Ab l x)
 | .fn f a b,x=>.fn (.func f) (Ab a x.1) (Ab b x.2)
 | .ptr l,x=>.xp (Ab l x)
 | .own i off,_=>.own i off
 | .rowr i,_=>.row i
 | .mpr i,_=>.mp i
 | .any,a=>a
def Ab:(l:List Sh)->Ad l->List AV
 | [],_=>[]
 | s::l,x=>enc s x.1::Ab l x.2
end
def KG:List Sh->List AV->List AV
 | [],_=>[]
 | _::_,[]=>[]
 | _::l,a::m=>a::KG l m
mutual
def NO:(s:Sh)->AV->fj s
 | .int _,a=>AA a
 | .bool,a=>Fu a
 | .slice _ e,a=>(match a with|.slc n _ el=>(n.val,fun k=>DP e (el k))|_=>(0,fun _=>DP e []))
 | .agg l,a=>(match a with|.agg m=>DP l m|_=>DP l [])
 | .fn _ a b,v=>(match v with|.fn _ l m=>(DP a l,DP b m)|_=>(DP a [],DP b []))
 | .ptr l,a=>(match a with|.xp m=>DP l (KG l m)|_=>DP l [])
 | .own _ _,_=>()
 | .rowr _,_=>()
 | .mpr _,_=>()
 | .any,a=>a
def DP:(l:List Sh)->List AV->Ad l
 | [],_=>()
 | s::l,m=>(match m with|a::m=>(NO s a,DP l m)|[]=>(NO s .top,DP l []))
end
def Z3:Sh->Bool
 | .int _=>true
 | .bool=>true
 | .slice _ _=>true
 | _=>false
def GU:List Sh->Bool
 | []=>true
 | s::l=>Z3 s&&GU l
mutual
def aa:Sh->Bool
 | .any=>false
 | .own _ _=>false
 | .rowr _=>false
 | .mpr _=>false
 | .agg l=>Kf l
 | .fn _ a b=>Kf a&&Kf b
 | _=>true
def Kf:List Sh->Bool
 | []=>true
 | s::l=>aa s&&Kf l
end
def K4:AV->Bool
 | .lb _=>true
 | .sb _=>true
 | _=>false
mutual
def D1:Sh->AV->Bool
 | .int k,a=>(match AD a with|some k'=>decide (k=k')|none=>false)
 | .bool,a=>K4 a
 | .slice sz e,a=>GU e&&(match a with|.slc _ sz' _=>Nat.beq sz sz'|.v (.slice none 0 0)=>true|_=>false)
 | .agg l,a=>(match a with|.agg m=>okShL l m|_=>false)
 | .fn f a b,v=>(match v with|.fn (.func g) l m=>Nat.beq g f&&okShL a l&&okShL b m|_=>false)
 | .ptr l,a=>(match a with|.xp m=>Kf l&&okShL l (KG l m)|_=>false)
 | .own i off,a=>(match a with|.own j p=>Nat.beq j i&&Nat.beq p off|_=>false)
 | .rowr i,a=>(match a with|.row j=>Nat.beq j i|_=>false)
 | .mpr i,a=>(match a with|.mp j=>Nat.beq j i|_=>false)
 | .any,_=>true
def okShL:List Sh->List AV->Bool
 | [],m=>(match m with|[]=>true|_=>false)
 | s::l,m=>(match m with|a::m=>D1 s a&&okShL l m|[]=>false)
end
def Nf:List Cd->List Cd->List Cd
 | [],m=>m
 | p::l,m=>p::Nf l m
mutual
def BL:Sh->AV->Prop
 | .slice _ e,a=>(match a with|.slc n _ el=>∀ k,k<n.val->EO e (el k)|_=>True)
 | .agg l,a=>(match a with|.agg m=>EO l m|_=>False)
 | .fn _ a b,v=>(match v with|.fn _ l m=>EO a l/\EO b m|_=>False)
 | .ptr l,a=>(match a with|.xp m=>EO l (KG l m)|_=>False)
 | _,_=>True
def EO:List Sh->List AV->Prop
 | [],m=>(match m with|[]=>True|_=>False)
 | s::l,m=>(match m with|a::m=>D1 s a=true/\BL s a/\EO l m|[]=>False)
end
def MI (e:List Sh) (z:Nat × (Nat->List AV)):Prop:=∀ k,k<z.1->EO e (z.2 k)
mutual
def Q8:Sh->AV->List Cd
 | .slice _ e,a=>(match a with|.slc n _ el=>[⟨MI e,(n.val,el)⟩]|_=>[])
 | .agg l,a=>(match a with|.agg m=>canShL l m|_=>[])
 | .fn _ a b,v=>(match v with|.fn _ l m=>Nf (canShL a l) (canShL b m)|_=>[])
 | .ptr l,a=>(match a with|.xp m=>canShL l (KG l m)|_=>[])
 | _,_=>[]
def canShL:List Sh->List AV->List Cd
 | [],_=>[]
 | s::l,m=>(match m with|a::m=>Nf (Q8 s a) (canShL l m)|[]=>[])
end
mutual
def M3 {β:Type 1}:(s:Sh)->AV->(fj s->β)->β
 | .int _,a,f=>(match a with|.li _ n=>f n|.si _ n=>f n|_=>f 0)
 | .bool,a,f=>(match a with|.lb b=>f b|.sb b=>f b|_=>f false)
 | .slice _ e,a,f=>(match a with|.slc n _ el=>(match n with|.lit n=>f (n,fun k=>DP e (el k))|.sym n=>f (n,fun k=>DP e (el k)))|_=>f (0,fun _=>DP e []))
 | .agg l,a,f=>(match a with|.agg m=>decKL l m f|_=>decKL l [] f)
 | .fn _ a b,v,f=>(match v with|.fn _ l m=>decKL a l fun x=>decKL b m fun y=>f (x,y)|_=>decKL a [] fun x=>decKL b [] fun y=>f (x,y))
 | .ptr l,a,f=>(match a with|.xp m=>decKL l (KG l m) f|_=>decKL l [] f)
 | .own _ _,_,f=>f ()
 | .rowr _,_,f=>f ()
 | .mpr _,_,f=>f ()
 | .any,a,f=>f a
def decKL {β:Type 1}:(l:List Sh)->List AV->(Ad l->β)->β
 | [],_,f=>f ()
 | s::l,m,f=>(match m with|a::m=>M3 s a fun x=>decKL l m fun y=>f (x,y)|[]=>M3 s .top fun x=>decKL l [] fun y=>f (x,y))
end
noncomputable section
def okShLP:{g:List Sh->List AV->Bool // okShL=g}:=⟨_,by delta okShL;rfl⟩
def Kc:List Sh->List AV->Bool:=okShLP.1
theorem Gc:Kc=okShL:=okShLP.2.symm
def canShLP:{g:List Sh->List AV->List Cd // canShL=g}:=⟨_,by delta canShL;rfl⟩
def Iv:List Sh->List AV->List Cd:=canShLP.1
theorem HB:Iv=canShL:=canShLP.2.symm
def decKLP:{g:(β:Type 1)->(l:List Sh)->List AV->(Ad l->β)->β // (fun β=>@decKL β)=g}:=⟨_,by delta decKL;rfl⟩
def Jm {β:Type 1} (l:List Sh) (m:List AV) (f:Ad l->β):β:=decKLP.1 β l m f
theorem IF {β:Type 1} (l:List Sh) (m:List AV) (f:Ad l->β):Jm l m f=decKL l m f:=by unfold Jm;rw [<- decKLP.2]
end
end Abs
end Go.Proofs.YtccgngldoinokaaGreat

namespace Go.Proofs.YtccgngldoinokaaGreat
namespace Abs
open Go Go.RowKit
inductive Pl where
 | nil
 | at (b cap n:Nat)
structure Cx where
 ρ:Nat->Option Pl
 I:Nat->Prop
 O:Nat->Option (Nat × Nat)
mutual
inductive Rel (C:Cx) (w:World):AV->Value->Prop
 | top (v:Value):Rel C w .top v
 | gd (k:Nat) (a:AV) (v:Value):Rel C w (.gd k a) v
 | li (k:IntKind) (n:Int):Rel C w (.li k n) (.int k n)
 | si (k:IntKind) (n:Int):Rel C w (.si k n) (.int k n)
 | lb (b:Bool):Rel C w (.lb b) (.bool b)
 | sb (b:Bool):Rel C w (.sb b) (.bool b)
 | v (x:Value):Rel C w (.v x) x
 | agg (l:List AV) (vs:List Value) (h:RelL C w l vs):Rel C w (.agg l) (.agg ⟨vs⟩)
 | tup (l:List AV) (vs:List Value) (h:RelL C w l vs):Rel C w (.tup l) (.tuple ⟨vs⟩)
 | own (i off b c n:Nat) (h:C.ρ i=some (.at b c n)):Rel C w (.own i off) (.pointer (some ⟨b,off,none⟩))
 | elt (i sz k off b c n:Nat) (h:C.ρ i=some (.at b c n)) (hk:k<n):Rel C w (.elt i sz k off) (.pointer (some ⟨b,k*sz+off,none⟩))
 | row (i b c n:Nat) (h:C.ρ i=some (.at b c n)):Rel C w (.row i) (.slice (some ⟨b,0,none⟩) n c)
 | lsl (i n sz b c m:Nat) (h:C.ρ i=some (.at b c m)):Rel C w (.lsl i n sz) (.slice (some ⟨b,0,none⟩) n n)
 | rown (i:Nat) (h:C.ρ i=some .nil):Rel C w (.row i) (.slice none 0 0)
 | slc (n:LN) (sz:Nat) (el:Nat->List AV) (A:Option Addr) (cap:Nat) (vs:Nat->List Value) (hcap:n.val<=cap)
   (hA:0<n.val->∃ ad,A=some ad/\C.I ad.block/\∀ k,k<n.val->∀ j,j<sz->w.cell? (ad.add (k*sz+j))=(vs k)[j]?)
   (hr:∀ k,k<n.val->RelL C w (el k) (vs k)) (hl:∀ k,k<n.val->(vs k).length=sz) (hn:∀ k,k<n.val->DV (el k)=true):Rel C w (.slc n sz el) (.slice A n.val cap)
 | xp (l:List AV) (ad:Addr) (vs:List Value) (hr:RelL C w l vs) (hI:l≠[]->C.I ad.block) (hc:∀ j,j<l.length->w.cell? (ad.add j)=vs[j]?)
   (hn:ownIn.ownInL l=false):Rel C w (.xp l) (.pointer (some ad))
 | fn (f:Fn) (l m:List AV) (vs ws:List Value) (h:RelL C w l vs) (h':RelL C w m ws):Rel C w (.fn f l m) (.func f ⟨vs⟩ ⟨ws⟩)
 | pa (n sz:Nat) (el:Nat->List AV) (A:Option Addr) (vs:Nat->List Value) (hI:(n=0↔A=none)/\∀ ad,A=some ad->C.I ad.block) (hc:∀ ad,A=some ad->∀ k,k<n->∀ j,j<sz->w.cell? (ad.add (k*sz+j))=(vs k)[j]?)
   (hr:∀ k,k<n->RelL C w (el k) (vs k)) (hl:∀ k,k<n->(vs k).length=sz) (hn:∀ k,k<n->DV (el k)=true):Rel C w (.pa n sz el) (.pointer A)
 | mp (i b c n:Nat) (h:C.ρ i=some (.at b c n)):Rel C w (.mp i) (.map (some b))
inductive RelL (C:Cx) (w:World):List AV->List Value->Prop
 | nil:RelL C w [] []
 | cons (a:AV) (l:List AV) (v:Value) (vs:List Value) (h:Rel C w a v) (h':RelL C w l vs):RelL C w (a::l) (v::vs)
end
structure Cext (C:Cx) (w:World) (C':Cx) (w':World):Prop where
 rho:∀ i p,C.ρ i=some p->C'.ρ i=some p
 imm:∀ b,C.I b->C'.I b
 blk:∀ b,C.I b->w'.heap[b]? = w.heap[b]?
theorem Cext.refl (C:Cx) (w:World):Cext C w C w:=⟨fun _ _ h=>h,fun _ h=>h,fun _ _=>rfl⟩
theorem Cext.trans {C C' C'':Cx} {w w' w'':World} (h:Cext C w C' w') (k:Cext C' w' C'' w''):Cext C w C'' w'' :=
 ⟨fun i p hp=>k.rho i p (h.rho i p hp),fun b hb=>k.imm b (h.imm b hb),fun b hb=>(k.blk b (h.imm b hb)).trans (h.blk b hb)⟩
theorem G8 {w w':World} {a:Addr} (h:w'.heap[a.block]? = w.heap[a.block]?):w'.cell? a=w.cell? a:=by
 unfold World.cell?;rw [h]
theorem BH (a:Addr) (n:Nat):(a.add n).block=a.block:=by unfold Addr.add;split<;>rfl
theorem HW (a:Addr) (i j:Nat):(a.add i).add j=a.add (i+j):=by
 unfold Addr.add
 by_cases hi:i=0<;>by_cases hj:j=0<;>simp [hi,hj,Nat.add_assoc]
section
variable {C C':Cx} {w w':World}
theorem Rel.mono (hx:Cext C w C' w') {a:AV} {v:Value} (h:Rel C w a v):Rel C' w' a v:=by
 refine Rel.rec (C:=C) (w:=w) (motive_1:=fun a v _=>Rel C' w' a v) (motive_2:=fun l vs _=>RelL C' w' l vs)
  ?_ ?_ ?_ ?_ ?_ ?_ ?_ ?_ ?_ ?_ ?_ ?_ ?_ ?_ ?_ ?_ ?_ ?_ ?_ ?_ ?_ h
 ·exact fun v=>.top v
 ·exact fun k a v=>.gd k a v
 ·exact fun k n=>.li k n
 ·exact fun k n=>.si k n
 ·exact fun b=>.lb b
 ·exact fun b=>.sb b
 ·exact fun x=>.v x
 ·exact fun l vs _ h=>.agg l vs h
 ·exact fun l vs _ h=>.tup l vs h
 ·exact fun i off b c n h=>.own i off b c n (hx.rho _ _ h)
 ·exact fun i sz k off b c n h hk=>.elt i sz k off b c n (hx.rho _ _ h) hk
 ·exact fun i b c n h=>.row i b c n (hx.rho _ _ h)
 ·exact fun i n sz b c m h=>.lsl i n sz b c m (hx.rho _ _ h)
 ·exact fun i h=>.rown i (hx.rho _ _ h)
 ·intro n sz el A cap vs hcap hA _ hl hn ih
  refine .slc n sz el A cap vs hcap (fun h0=>?_) ih hl hn
  obtain ⟨ad,rfl,hI,hc⟩:=hA h0
  refine ⟨ad,rfl,hx.imm _ hI,fun k hk j hj=>?_⟩
  exact (G8 (by simpa [BH] using hx.blk _ hI)).trans (hc k hk j hj)
 ·intro l ad vs _ hI hc hn ih
  refine .xp l ad vs ih (fun h=>hx.imm _ (hI h)) (fun j hj=>?_) hn
  have hl:l≠[]:=by rintro rfl;simp at hj
  exact (G8 (by simpa [BH] using hx.blk _ (hI hl))).trans (hc j hj)
 ·exact fun f l m vs ws _ _ h h'=>.fn f l m vs ws h h'
 ·intro n sz el A vs hI hc _ hl hn ih
  exact .pa n sz el A vs ⟨hI.1,fun ad e=>hx.imm _ (hI.2 ad e)⟩ (fun ad e k hk j hj=>(G8 (by simpa [BH] using hx.blk _ (hI.2 ad e))).trans (hc ad e k hk j hj)) ih hl hn
 ·exact fun i b c n h=>.mp i b c n (hx.rho _ _ h)
 ·exact .nil
 ·exact fun a l v vs _ _ h h'=>.cons a l v vs h h'
theorem RelL.mono (hx:Cext C w C' w'):∀ {l:List AV} {vs:List Value},RelL C w l vs->RelL C' w' l vs
 | _,_,.nil=>.nil
 | _,_,.cons a l v vs h h'=>.cons a l v vs (Rel.mono hx h) (RelL.mono hx h')
theorem RelL.len:∀ {l:List AV} {vs:List Value},RelL C w l vs->l.length=vs.length
 | _,_,.nil=>rfl
 | _,_,.cons _ _ _ _ _ h=>by simp [RelL.len h]
theorem RelL.get:∀ {l:List AV} {vs:List Value} {i:Nat} {a:AV},RelL C w l vs->l[i]? = some a->∃ v,vs[i]? = some v/\Rel C w a v
 | _,_,0,_,.cons _ _ v _ h _,e=>by simp at e;subst e;exact ⟨v,rfl,h⟩
 | _,_,i+1,_,.cons _ _ _ _ _ h',e=>by simpa using RelL.get (i:=i) h' (by simpa using e)
theorem RelL.append {l m:List AV} {vs ws:List Value} (h:RelL C w l vs) (h':RelL C w m ws):RelL C w (l++m) (vs++ws):=by
 induction l generalizing vs with
 | nil=>cases h;exact h'
 | cons a l ih=>cases h with|cons _ _ v vs h0 h1=>exact .cons _ _ _ _ h0 (ih h1)
theorem RelL.drop (n:Nat):∀ {l:List AV} {vs:List Value},RelL C w l vs->RelL C w (l.drop n) (vs.drop n):=by
 induction n with
 | zero=>intro l vs h;simpa using h
 | succ n ih=>intro l vs h;cases h with
   | nil=>simp;exact .nil
   | cons _ _ _ _ _ h=>simpa using ih h
theorem RelL.take (n:Nat):∀ {l:List AV} {vs:List Value},RelL C w l vs->RelL C w (l.take n) (vs.take n):=by
 induction n with
 | zero=>intro l vs h;simp;exact .nil
 | succ n ih=>intro l vs h;cases h with
   | nil=>simp;exact .nil
   | cons _ _ _ _ h0 h=>simpa using RelL.cons _ _ _ _ h0 (ih h)
end
theorem Aa:∀ (l:List AV) (n:Nat),AO l n=l.drop n
 | [],0=>rfl
 | _::_,0=>rfl
 | [],n+1=>by simp [AO]
 | _::l,n+1=>by simp [AO,Aa l n]
theorem CS:∀ (l:List AV) (n:Nat),AW l n=l.take n
 | [],0=>rfl
 | _::_,0=>rfl
 | [],n+1=>by simp [AW]
 | _::l,n+1=>by simp [AW,CS l n]
theorem F2:∀ (l m:List AV),Es l m=l++m
 | [],_=>rfl
 | _::l,m=>by simp [Es,F2 l m]
theorem GW:∀ (l m:A0),HC l m=l++m
 | [],_=>rfl
 | _::l,m=>by simp [HC,GW l m]
theorem DX:∀ (l:List AV) (n:Nat),A4 l n=l.getD n (.tup [])
 | [],_=>rfl
 | _::_,0=>rfl
 | _::l,n+1=>by rw [CO,DX l n];simp
theorem IT:∀ (l:List AV) (n:Nat) (a:AV),Ay l n a=l.set n a
 | [],_,_=>rfl
 | _::_,0,_=>rfl
 | _::l,n+1,a=>by simp [Ay,IT l n a]
theorem Ds:∀ (l:A0) (n:Nat),A3 l n=l.getD n .dead
 | [],_=>rfl
 | _::_,0=>rfl
 | _::l,n+1=>by simp [A3,Ds l n]
theorem IU:∀ (l:A0) (n:Nat) (a:Blk),AM l n a=l.set n a
 | [],_,_=>rfl
 | _::_,0,_=>rfl
 | _::l,n+1,a=>by simp [AM,IU l n a]
theorem Dz (a:AV) (k:AV->VC):Ec a k=k a:=by cases a<;>rfl
theorem Ae:∀ (l:List AV) (k:List AV->VC),Av l k=k l
 | [],_=>rfl
 | a::l,k=>by rw [X4,Dz,Ae l]
theorem AT (a:AV) (k:AV->VC):Ct a k=k a:=by cases a<;>simp [Ct,Dz,Ae]
theorem AK:∀ (l:List AV) (k:List AV->VC),forceLD l k=k l
 | [],_=>rfl
 | a::l,k=>by simp [forceLD,AT,AK l]
theorem ez (a:Blk) (k:Blk->VC):Yt a k=k a:=by cases a<;>simp [Yt,Ae]
theorem A8:∀ (l:A0) (k:A0->VC),forceH l k=k l
 | [],_=>rfl
 | a::l,k=>by simp [forceH,ez,A8 l]
def GM (ho:Option (Nat × Option Nat)) (k:Nat):Prop:=∃ x,ho=some (k,x)
def SubOwn (C:Cx) (w:World) (b k:Nat) (e':TypeId) (sz n:Nat) (el:Nat->List AV) (v:Value):Prop :=
 (n=0/\v=.slice none 0 0)\/∃ (b' c':Nat) (cs:Array Value) (vs:Nat->List Value),v=.slice (some ⟨b',0,none⟩) n c'/\C.O b'=some (b,k)/\n<=c'/\c'<=maxLen/\w.heap[b']? = some (.cells cs e' (0,0))/\cs.size=c'*sz /\
  ∀ q,q<n->RelL C w (el q) (vs q)/\DV (el q)=true/\(vs q).length=sz/\∀ j,j<sz->cs[q*sz+j]? = (vs q)[j]?
def BRel (C:Cx) (w:World):Pl->Blk->Prop
 | .at b _ _,.cells t l=>∃ vs,RelL C w l vs/\w.heap[b]? = some (.cells ⟨vs⟩ t (0,0))
 | .at b cap n,.row e sz m el=>m.val=n/\n<=cap/\(0<sz/\cap<=maxLen)/\∃ (cs:Array Value) (vs:Nat->List Value),w.heap[b]? = some (.cells cs e (0,0))/\cs.size=cap*sz /\
   ∀ k,k<n->RelL C w (el k) (vs k)/\DV (el k)=true/\(vs k).length=sz/\∀ j,j<sz->cs[k*sz+j]? = (vs k)[j]?
 | .nil,.row _ sz m _=>m.val=0/\0<sz
 | .at b cap n,.mat t wd m f=>m.val=n/\n<=cap/\(0<wd/\cap<=maxLen)/\∃ cs:Array Value,w.heap[b]? = some (.cells cs t (0,0))/\cs.size=cap*wd /\
   ∀ k,k<n->∀ j,j<wd->LX (f k j)=true/\∃ v,cs[k*wd+j]? = some v/\Rel C w (f k j) v
 | .at b cap n,.rows e e' sz m fz ln el ho=>m.val=n/\n<=cap/\(0<sz/\cap<=maxLen)/\∃ cs:Array Value,w.heap[b]? = some (.cells cs e (0,0))/\cs.size=cap /\
   ∀ k,k<n->∃ v,cs[k]? = some v/\(∀ h,ho=some (k,some h)->Rel C w (.row h) v)/\(¬ GM ho k->(fz k=true->Rel C w (.slc (.sym (ln k)) sz (el k)) v)/\(fz k=false->SubOwn C w b k e' sz (ln k) (el k) v))
 | .at b _ _,.tab m sz el=>∃ (es:Array MapEntry) (clock:Nat) (vs:Nat->List Value),w.heap[b]? = some (.map es clock)/\es.size=m.val /\
   ∀ k,k<m.val->RelL C w (el k) (vs k)/\DV (el k)=true/\(vs k).length=sz+1/\∃ e,es[k]? = some e/\e.key=.agg ⟨(vs k).take sz⟩/\(vs k)[sz]? = some e.val
 | _,_=>False
def CellB (w:World) (b:Nat):Prop:=∃ cs t fz,w.heap[b]? = some (.cells cs t fz)
theorem CellB.keep {w w':World} {b:Nat} (h:CellB w b) (e:w'.heap[b]? = w.heap[b]?):CellB w' b:=by
 obtain ⟨cs,t,fz,h1⟩:=h
 exact ⟨cs,t,fz,e.trans h1⟩
structure HR (C:Cx) (H:A0) (w:World):Prop where
 live:∀ i p,C.ρ i=some p->BRel C w p (A3 H i)
 inj:∀ i j b c n b' c' n',C.ρ i=some (.at b c n)->C.ρ j=some (.at b' c' n')->i≠j->b≠b'
 fresh:∀ i b c n,C.ρ i=some (.at b c n)->b<w.heap.size/\¬ C.I b
 ilt:∀ b,C.I b->b<w.heap.size
 sub:∀ b x,C.O b=some x->b<w.heap.size/\¬ C.I b/\(∀ i b' c n,C.ρ i=some (.at b' c n)->b'≠b)/\CellB w b
structure Since (h:Nat) (C0:Cx) (w0:World) (C:Cx) (w:World):Prop where
 os:w.os=w0.os
 tape:w.tape=w0.tape
 output:w.output=w0.output
 size:w0.heap.size<=w.heap.size
 keep:∀ k,k<w0.heap.size->(∀ i b c n,i<h->C0.ρ i=some (.at b c n)->b≠k)->w.heap[k]? = w0.heap[k]?
 imm:∀ b,C0.I b->C.I b
 imm':∀ b,C.I b->C0.I b\/w0.heap.size<=b
 rho:∀ i,i<h->C.ρ i=C0.ρ i
 own:∀ i b c n,h<=i->C.ρ i=some (.at b c n)->w0.heap.size<=b
 sub:∀ b x,C.O b=some x->w0.heap.size<=b
def Fn (P:Program) (f:FuncId) (args:List AV) (H:A0) (r:AV) (H':A0):Prop :=
 ∀ (C:Cx) (w:World) (vs:List Value),(∀ b,C.O b=none)->HR C H w->RelL C w args vs ->
   Calls P f ⟨vs⟩ w fun e w'=>∃ v C',e=.returned v/\HR C' H' w'/\Rel C' w' r v/\Since H.length C w C' w'
structure SinceJ (j h:Nat) (C0:Cx) (w0:World) (C:Cx) (w:World):Prop where
 jlt:j<h
 os:w.os=w0.os
 tape:w.tape=w0.tape
 output:w.output=w0.output
 size:w0.heap.size<=w.heap.size
 keep:∀ k,k<w0.heap.size->(∀ i b c n,C0.ρ i=some (.at b c n)->b≠k)->w.heap[k]? = w0.heap[k]?
 imm:∀ b,C0.I b->C.I b
 imm':∀ b,C.I b->C0.I b\/w0.heap.size<=b\/∃ c n,C0.ρ j=some (.at b c n)
 rho:∀ i,i<h->i≠j->C.ρ i=C0.ρ i
 own:∀ i b c n,(i=j\/h<=i)->C.ρ i=some (.at b c n)->(∃ c' n',C0.ρ j=some (.at b c' n'))\/w0.heap.size<=b
 sub:∀ b x,C.O b=some x->w0.heap.size<=b\/∃ c n,C0.ρ j=some (.at b c n)
def FnJ (P:Program) (f:FuncId) (args:List AV) (H:A0) (r:AV) (H':A0) (j:Nat):Prop :=
 ∀ (C:Cx) (w:World) (vs:List Value),(∀ b,C.O b=none)->HR C H w->RelL C w args vs ->
   Calls P f ⟨vs⟩ w fun e w'=>∃ v C',e=.returned v/\HR C' H' w'/\Rel C' w' r v/\SinceJ j H.length C w C' w'
def FnM (P:Program) (f:FuncId) (args:List AV) (H:A0) (r:AV) (H':A0):Option Nat->Prop
 | none=>Fn P f args H r H'
 | some j=>FnJ P f args H r H' j
end Abs
end Go.Proofs.YtccgngldoinokaaGreat

namespace Go.Proofs.YtccgngldoinokaaGreat
namespace Abs
open Go Go.RowKit
structure Grow (base n:Nat) (C:Cx) (w:World) (C':Cx) (w':World):Prop where
 os:w'.os=w.os
 tape:w'.tape=w.tape
 output:w'.output=w.output
 size:w.heap.size<=w'.heap.size
 keep:∀ k,k<w.heap.size->w'.heap[k]? = w.heap[k]?
 imm:∀ b,C.I b->C'.I b
 imm':∀ b,C'.I b->C.I b\/w.heap.size<=b
 rho:∀ i,(i<base\/base+n<=i)->C'.ρ i=C.ρ i
 own:∀ i b c m,base<=i->i<base+n->C'.ρ i=some (.at b c m)->w.heap.size<=b
 sub:∀ b,C'.O b=C.O b
theorem Grow.refl (base:Nat) (C:Cx) (w:World):Grow base 0 C w C w :=
 ⟨rfl,rfl,rfl,Nat.le_refl _,fun _ _=>rfl,fun _ h=>h,fun _ h=>.inl h,fun _ _=>rfl,fun _ _ _ _ h h'=>by omega,fun _=>rfl⟩
section
variable {C C':Cx} {w w':World} {H:A0} {base n:Nat}
theorem Grow.cext (h:Grow base n C w C' w') (hn:∀ i,base<=i->i<base+n->C.ρ i=none) (hi:∀ b,C.I b->b<w.heap.size):Cext C w C' w':=by
 refine ⟨fun i p hp=>?_,h.imm,fun b hb=>h.keep b (hi b hb)⟩
 by_cases hr:i<base\/base+n<=i
 ·rw [h.rho i hr,hp]
 ·rw [hn i (by omega) (by omega)] at hp;cases hp
def KE (C:Cx) (w:World) (C':Cx) (w':World):Prop:=∀ b x,C.O b=some x->C'.O b=some x/\w'.heap[b]? = w.heap[b]?
theorem SubOwn.mono {b k:Nat} {e':TypeId} {sz n:Nat} {el:Nat->List AV} {v:Value} (hs:KE C w C' w') (hx:∀ {l:List AV} {vs:List Value},DV l=true->RelL C w l vs->RelL C' w' l vs) (h:SubOwn C w b k e' sz n el v):SubOwn C' w' b k e' sz n el v:=by
 rcases h with h|⟨b',c',cs,vs,h1,h2,h3,h4,h5,h6,h7⟩
 ·exact .inl h
 ·exact .inr ⟨b',c',cs,vs,h1,(hs _ _ h2).1,h3,h4,(hs _ _ h2).2.trans h5,h6,fun q hq=>⟨hx (h7 q hq).2.1 (h7 q hq).1,(h7 q hq).2⟩⟩
theorem BRel.mono (hx:Cext C w C' w') {p:Pl} {b:Blk} (hb:∀ q c m,p=.at q c m->w'.heap[q]? = w.heap[q]?) (hs:KE C w C' w') (h:BRel C w p b):BRel C' w' p b:=by
 match p,b,h with
 | .at q c m,.mat t wd k f,h =>
   obtain ⟨h1,h2,h3,cs,hh,hs,hc⟩:=h
   exact ⟨h1,h2,h3,cs,(hb q c m rfl).trans hh,hs,fun k hk j hj=>by
    obtain ⟨ho,v,hv,hr⟩:=hc k hk j hj
    exact ⟨ho,v,hv,hr.mono hx⟩⟩
 | .at q c m,.rows e e' sz k fz ln el ho,h =>
   obtain ⟨h1,h2,h3,cs,hh,hz,hc⟩:=h
   exact ⟨h1,h2,h3,cs,(hb q c m rfl).trans hh,hz,fun k hk=>by
    obtain ⟨v,hv,hr,hn⟩:=hc k hk
    exact ⟨v,hv,fun h e=>(hr h e).mono hx,fun hno=>⟨fun hf=>((hn hno).1 hf).mono hx,fun hf=>((hn hno).2 hf).mono hs fun _ h=>h.mono hx⟩⟩⟩
 | .at q c m,.cells t l,h =>
   obtain ⟨vs,hr,hh⟩:=h
   exact ⟨vs,hr.mono hx,(hb q c m rfl).trans hh⟩
 | .at q c m,.row e sz k el,h =>
   obtain ⟨h1,h2,h3,cs,vs,hh,hs,hc⟩:=h
   exact ⟨h1,h2,h3,cs,vs,(hb q c m rfl).trans hh,hs,fun k hk=>⟨(hc k hk).1.mono hx,(hc k hk).2⟩⟩
 | .at q c m,.tab k sz el,h =>
   obtain ⟨es,ck,vs,hh,hs,hc⟩:=h
   exact ⟨es,ck,vs,(hb q c m rfl).trans hh,hs,fun k hk=>⟨(hc k hk).1.mono hx,(hc k hk).2⟩⟩
 | .nil,.row e sz k el,h=>exact h
theorem heap_alloc (w:World) (o:Obj) (k:Nat) (hk:k<w.heap.size):(w.alloc o).heap[k]? = w.heap[k]?:=by
 show (w.heap.push o)[k]? = _
 rw [Array.getElem?_push,if_neg (by omega)]
theorem J0 (w:World) (o:Obj):(w.alloc o).heap[w.heap.size]? = some o:=by
 show (w.heap.push o)[w.heap.size]? = _
 simp
def Cx.put (C:Cx) (j:Nat) (p:Pl):Cx:={ C with ρ:=fun i=>if i=j then some p else C.ρ i }
theorem Cx.put_ne {j i:Nat} {p:Pl} (h:i≠j):(C.put j p).ρ i=C.ρ i:=by simp [Cx.put,h]
theorem Cx.put_eq {j:Nat} {p:Pl}:(C.put j p).ρ j=some p:=by simp [Cx.put]
theorem Grow.new (C:Cx) (w:World) (j cap n:Nat) (o:Obj):Grow j 1 C w (C.put j (.at w.heap.size cap n)) (w.alloc o) :=
 ⟨rfl,rfl,rfl,by simp,fun k hk=>heap_alloc w o k hk,fun _ h=>h,fun _ h=>.inl h,fun i hi=>Cx.put_ne (by omega),
  fun i b c m h1 h2 h=>(by
   obtain rfl:i=j:=by omega
   rw [Cx.put_eq] at h;injection h with h;injection h with h;omega),fun _=>rfl⟩
theorem Grow.newNil (C:Cx) (w:World) (j:Nat):Grow j 1 C w (C.put j .nil) w :=
 ⟨rfl,rfl,rfl,Nat.le_refl _,fun k hk=>rfl,fun _ h=>h,fun _ h=>.inl h,fun i hi=>Cx.put_ne (by omega),
  fun i b c m h1 h2 h=>(by
   obtain rfl:i=j:=by omega
   rw [Cx.put_eq] at h;injection h with h;cases h),fun _=>rfl⟩
theorem HR.new (h:HR C H w) {j cap n:Nat} (hj:C.ρ j=none) {o:Obj} (hb:BRel (C.put j (.at w.heap.size cap n)) (w.alloc o) (.at w.heap.size cap n) (A3 H j)) :
  HR (C.put j (.at w.heap.size cap n)) H (w.alloc o):=by
 have hx:Cext C w (C.put j (.at w.heap.size cap n)) (w.alloc o):=(Grow.new C w j cap n o).cext (fun i h1 h2=>(show i=j by omega)▸hj) h.ilt
 refine ⟨fun i p hp=>?_,fun i i' b c m b' c' m' hp hp' hne=>?_,fun i b c m hp=>?_,fun b hb=>Nat.lt_of_lt_of_le (h.ilt b hb) (by simp),fun b x hb=>?_⟩
 ·by_cases hi:i=j
  ·subst hi;rw [Cx.put_eq] at hp;injection hp with hp;subst hp;exact hb
  ·rw [Cx.put_ne hi] at hp
   refine (h.live i p hp).mono hx (fun q c m hq=>heap_alloc w o q ?_) fun b x hb=>⟨hb,heap_alloc w o b (h.sub b x hb).1⟩
   subst hq;exact (h.fresh i q c m hp).1
 ·by_cases hi:i=j
  ·by_cases hi':i'=j
   ·omega
   ·subst hi;rw [Cx.put_eq] at hp;rw [Cx.put_ne hi'] at hp'
    injection hp with hp;injection hp with hp _ _
    have:=(h.fresh _ _ _ _ hp').1;omega
  ·rw [Cx.put_ne hi] at hp
   by_cases hi':i'=j
   ·subst hi';rw [Cx.put_eq] at hp'
    injection hp' with hp';injection hp' with hp' _ _
    have:=(h.fresh _ _ _ _ hp).1;omega
   ·rw [Cx.put_ne hi'] at hp';exact h.inj _ _ _ _ _ _ _ _ hp hp' hne
 ·by_cases hi:i=j
  ·subst hi;rw [Cx.put_eq] at hp;injection hp with hp;injection hp with hp _ _
   subst hp
   exact ⟨by simp,fun hI=>by have:=h.ilt _ hI;omega⟩
  ·rw [Cx.put_ne hi] at hp
   exact ⟨Nat.lt_of_lt_of_le (h.fresh _ _ _ _ hp).1 (by simp),(h.fresh _ _ _ _ hp).2⟩
 ·obtain ⟨s1,s2,s3,s4⟩:=h.sub b x hb
  refine ⟨Nat.lt_of_lt_of_le s1 (by simp),s2,fun i b' c m hp=>?_,s4.keep (heap_alloc w o b s1)⟩
  by_cases hi:i=j
  ·subst hi;rw [Cx.put_eq] at hp;injection hp with hp;injection hp with hp _ _
   omega
  ·rw [Cx.put_ne hi] at hp;exact s3 i b' c m hp
theorem HR.newNil (h:HR C H w) {j:Nat} (hj:C.ρ j=none) (hb:BRel (C.put j .nil) w .nil (A3 H j)):HR (C.put j .nil) H w:=by
 have hx:Cext C w (C.put j .nil) w:=(Grow.newNil C w j).cext (fun i h1 h2=>(show i=j by omega)▸hj) h.ilt
 have key:∀ i b c m,(C.put j .nil).ρ i=some (.at b c m)->C.ρ i=some (.at b c m):=fun i b c m hp=>by
  by_cases hi:i=j
  ·subst hi;rw [Cx.put_eq] at hp;injection hp with hp;cases hp
  ·rwa [Cx.put_ne hi] at hp
 refine ⟨fun i p hp=>?_,fun i i' b c m b' c' m' hp hp' hne=>h.inj _ _ _ _ _ _ _ _ (key _ _ _ _ hp) (key _ _ _ _ hp') hne,fun i b c m hp=>h.fresh _ _ _ _ (key _ _ _ _ hp),h.ilt,fun b x hb=>⟨(h.sub b x hb).1,(h.sub b x hb).2.1,fun i b' c m hp=>(h.sub b x hb).2.2.1 i b' c m (key _ _ _ _ hp),(h.sub b x hb).2.2.2⟩⟩
 by_cases hi:i=j
 ·subst hi;rw [Cx.put_eq] at hp;injection hp with hp;subst hp;exact hb
 ·rw [Cx.put_ne hi] at hp
  exact (h.live i p hp).mono hx (fun q c m hq=>rfl) fun b x hb=>⟨hb,rfl⟩
end
inductive PO (S:Sums) (hp:A0):AR->AV->A0->Prop
 | val (a:AV):PO S hp (.val a) a []
 | need (p:Cd) (r:AR) (a:AV) (new:A0) (h:p.ok) (h':PO S hp r a new):PO S hp (.need p r) a new
 | brt (t e:AR) (a:AV) (new:A0) (h:PO S hp t a new):PO S hp (.br true t e) a new
 | brf (t e:AR) (a:AV) (new:A0) (h:PO S hp e a new):PO S hp (.br false t e) a new
 | blk (b:Blk) (mk:Nat->AV):PO S hp (.blk b mk) (mk hp.length) [b]
 | call (f:FuncId) (args:List AV) (s1:Kz) (pre:List Cd) (res:AV) (new:A0) (h2:AL S.two f=none) (h1:AL S.one f=some s1)
   (hs:s1 (args.map (GC 5 hp))=some ⟨pre,res,new⟩) (hg:Kx args res new=true) (hpre:∀ p∈pre,p.ok) (hcn:∀ p∈Gk args new,p.ok) :
   PO S hp (.call f args) (shiftA hp.length res) (EE hp.length new)
end Abs
end Go.Proofs.YtccgngldoinokaaGreat

namespace Go.Proofs.YtccgngldoinokaaGreat
namespace Abs
open Go Go.RowKit
section
variable {P:Program} {C C':Cx} {w w':World} {H:A0}
theorem DH {t:TypeId} {d:TypeDesc} (h:P.underlying t=some d):∃ i,P.info? t=some i:=by
 unfold Program.underlying at h
 cases hi:P.info? t with
 | none=>simp [hi] at h
 | some i=>exact ⟨i,rfl⟩
theorem BP {t:TypeId} {i:TypeInfo} (h:P.info? t=some i) (w:World):(sizeOf t).run P w=.ok (A9 P t) w:=by
 simp [sizeOf,typeInfo,h,A9]
theorem Eg {t:TypeId} {b:Bool} (h:isAgg P t=some b) (w:World):(Go.isAgg t).run P w=.ok b w:=by
 unfold isAgg at h
 cases hd:P.underlying t with
 | none=>simp [hd] at h
 | some d=>cases d<;>simp [hd] at h<;>subst h<;>simp [Go.isAgg,run_underlying hd]
theorem Kn {t:TypeId} {b:Bool} (h:isAgg P t=some b):∃ i,P.info? t=some i:=by
 unfold isAgg at h
 cases hd:P.underlying t with
 | none=>simp [hd] at h
 | some d=>exact DH hd
theorem Fv {t:TypeId} {ad:Addr} {l:List AV} {vs:List Value} {a:AV} (hr:RelL C w l vs) (hc:∀ j,j<l.length->w.cell? (ad.add j)=vs[j]?)
  (hp:Ev P t l=.val a):∃ v,(loadVar t ad).run P w=.ok v w/\Rel C w a v:=by
 have hlen:=hr.len
 unfold Ev at hp
 cases hg:isAgg P t with
 | none=>simp [hg] at hp
 | some b =>
   obtain ⟨i,hi⟩:=Kn hg
   cases b with
   | true =>
     simp only [hg] at hp
     by_cases hs:A9 P t<=l.length
     ·simp [hs,CS] at hp
      subst hp
      refine ⟨.agg ⟨vs.take (A9 P t)⟩,?_,.agg _ _ (hr.take _)⟩
      have hrun:=run_loadCells_list (P:=P) (w:=w) ad (vs.take (A9 P t)) (fun j v hj=>by
       have hj':=hj
       rw [List.getElem?_take] at hj
       split at hj
       ·rename_i hlt
        have:j<l.length:=by omega
        rw [hc j this,hj]
       ·cases hj)
      have hl2:(vs.take (A9 P t)).length=A9 P t:=by rw [List.length_take];omega
      rw [hl2] at hrun
      simp [loadVar,Eg hg,BP hi,hrun]
     ·simp [hs] at hp
   | false =>
     simp only [hg] at hp
     match l,vs,hr,hp with
     | a'::l',v::vs',.cons _ _ _ _ h0 h1,hp =>
       simp at hp;subst hp
       refine ⟨v,?_,h0⟩
       have:=hc 0 (by simp)
       simp [Addr.add] at this
       simp [loadVar,Eg hg,load,Sem.run,this]
theorem TU {t:TypeId} {ad:Addr} {l:List AV} {vs:List Value} {a:AV} (hr:RelL C w l vs) (hp:Ev P t l=.val a) :
  ∃ v,Rel C w a v/\∀ w':World,(∀ j,j<l.length->w'.cell? (ad.add j)=vs[j]?)->(loadVar t ad).run P w'=.ok v w':=by
 have hlen:=hr.len
 unfold Ev at hp
 cases hg:isAgg P t with
 | none=>simp [hg] at hp
 | some b =>
   obtain ⟨i,hi⟩:=Kn hg
   cases b with
   | true =>
     simp only [hg] at hp
     by_cases hs:A9 P t<=l.length
     ·simp [hs,CS] at hp
      subst hp
      refine ⟨.agg ⟨vs.take (A9 P t)⟩,.agg _ _ (hr.take _),fun w' hc=>?_⟩
      have hrun:=run_loadCells_list (P:=P) (w:=w') ad (vs.take (A9 P t)) (fun j v hj=>by
       have hj':=hj
       rw [List.getElem?_take] at hj
       split at hj
       ·rename_i hlt
        have:j<l.length:=by omega
        rw [hc j this,hj]
       ·cases hj)
      have hl2:(vs.take (A9 P t)).length=A9 P t:=by rw [List.length_take];omega
      rw [hl2] at hrun
      simp [loadVar,Eg hg,BP hi,hrun]
     ·simp [hs] at hp
   | false =>
     simp only [hg] at hp
     match l,vs,hr,hp with
     | a'::l',v::vs',.cons _ _ _ _ h0 h1,hp =>
       simp at hp;subst hp
       refine ⟨v,h0,fun w' hc=>?_⟩
       have:=hc 0 (by simp)
       simp [Addr.add] at this
       simp [loadVar,Eg hg,load,Sem.run,this]
theorem VG {t:TypeId} {cs:List Value} {off:Nat} {l:List AV} {a:AV} (hr:RelL C w l (cs.drop off)) (hp:Ev P t l=.val a) :
  ∃ v,(part t ⟨cs⟩ off).run P w=.ok v w/\Rel C w a v:=by
 have hlen:=hr.len
 unfold Ev at hp
 cases hg:isAgg P t with
 | none=>simp [hg] at hp
 | some b =>
   obtain ⟨i,hi⟩:=Kn hg
   cases b with
   | true =>
     simp only [hg] at hp
     by_cases hs:A9 P t<=l.length
     ·simp [hs,CS] at hp
      subst hp
      refine ⟨.agg ⟨(cs.drop off).take (A9 P t)⟩,?_,.agg _ _ (hr.take _)⟩
      simp [part,Eg hg,BP hi]
     ·simp [hs] at hp
   | false =>
     simp only [hg] at hp
     match l,hd:cs.drop off,hr,hp with
     | a'::l',v::vs',.cons _ _ _ _ h0 h1,hp =>
       simp at hp;subst hp
       refine ⟨v,?_,h0⟩
       have hv:cs[off]? = some v:=by
        have:=congrArg (fun l=>l[0]?) hd
        simpa using this
       simp [part,Eg hg,hv]
theorem G9 {b:Nat} {cs:Array Value} {t:TypeId} {fr:Nat × Nat} (h:w.heap[b]? = some (.cells cs t fr)) (off j:Nat) :
  w.cell? ((⟨b,off,none⟩:Addr).add j)=cs[off+j]?:=by
 unfold Addr.add
 by_cases hj:j=0<;>simp [hj,World.cell?,h]
theorem LQ (n:Nat):∀ {l:List AV},ownIn.ownInL l=false->ownIn.ownInL (l.drop n)=false:=by
 induction n with
 | zero=>intro l h;simpa using h
 | succ n ih=>intro l h;cases l with
   | nil=>simpa using h
   | cons a l=>simp [ownIn.ownInL] at h;simpa using ih h.2
theorem VH {hp:A0} {t:TypeId} {x a:AV} {v:Value} (hH:HR C H w) (hpre:∀ i,i<hp.length->A3 H i=A3 hp i) (hx:Rel C w x v) (h:Fe P hp t x=.val a) :
  ∃ u,(Instr.loadAt t v).run P w=.ok u w/\Rel C w a u:=by
 have old:∀ i b,A3 hp i=b->b≠.dead->A3 H i=b:=fun i b hb hne=>by
  rw [hpre i,hb]
  rcases Nat.lt_or_ge i hp.length with hlt|hge
  ·exact hlt
  ·rw [Ds,List.getD_eq_getElem?_getD,List.getElem?_eq_none hge,Option.getD_none] at hb;exact absurd hb.symm hne
 cases hx with
 | own i off b c n hρ =>
   simp only [Fe] at h
   cases hb:A3 hp i with
   | cells t' l =>
     simp only [hb] at h
     have hl:=hH.live i _ hρ
     rw [old i _ hb (by simp)] at hl
     obtain ⟨vs,hr,hh⟩:=hl
     rw [Aa] at h
     have:=Fv (P:=P) (t:=t) (ad:=⟨b,off,none⟩) (hr.drop off) (fun j hj=>by
      rw [G9 hh];simp [List.getElem?_drop]) h
     simpa [Instr.loadAt,Instr.sureAddr] using this
   | _=>simp [hb] at h
 | elt i sz k off b c n hρ hk =>
   simp only [Fe] at h
   cases hb:A3 hp i with
   | row e sz' m el =>
     simp only [hb] at h
     have hl:=hH.live i _ hρ
     rw [old i _ hb (by simp)] at hl
     obtain ⟨hm,hcap,hs0,cs,vs,hh,hsz,hcell⟩:=hl
     obtain ⟨hr,hno,hlv,hc⟩:=hcell k hk
     by_cases hq:Nat.beq sz sz'=true
     ·have e:sz=sz':=Nat.eq_of_beq_eq_true hq
      subst e
      simp only [hq] at h
      rw [Aa] at h
      have:=Fv (P:=P) (t:=t) (ad:=⟨b,k*sz+off,none⟩) (hr.drop off) (fun j hj=>by
       have hlen:=hr.len
       simp at hj
       rw [G9 hh,Nat.add_assoc,hc (off+j) (by omega)];simp [List.getElem?_drop]) h
      simpa [Instr.loadAt,Instr.sureAddr] using this
     ·simp [hq] at h
   | mat t' w' m f =>
     simp only [hb] at h
     exfalso
     revert h
     split<;>simp
   | rows e e' sz2 m fz ln el ho =>
     simp only [hb] at h
     exfalso
     revert h
     split<;>simp
   | _=>simp [hb] at h
 | xp l ad vs hr hI hc hn =>
   simp only [Fe] at h
   have:=Fv (P:=P) (t:=t) (ad:=ad) hr hc h
   simpa [Instr.loadAt,Instr.sureAddr] using this
 | pa n sz el A vs hI hc hr hl hn =>
   simp only [Fe] at h
   exfalso
   revert h
   split<;>simp
 | _=>simp [Fe] at h
theorem TV {t:TypeId} {ad:Addr} {v:Value} (hg:isAgg P t=some false) (h:w.cell? ad=some v):(Instr.loadAt t (.pointer (some ad))).run P w=.ok v w:=by
 simp [Instr.loadAt,Instr.sureAddr,loadVar,Eg hg,load,Sem.run,h]
theorem dS {hp:A0} {t:TypeId} {x:AV} {v:Value} {p:Cd} {r:AR} (hH:HR C H w) (hpre:∀ i,i<hp.length->A3 H i=A3 hp i) (hx:Rel C w x v) (h:Fe P hp t x=.need p r) (hp':p.ok) :
  ∃ a u,r=.val a/\(Instr.loadAt t v).run P w=.ok u w/\Rel C w a u:=by
 have part:∀ l,Ev P t l=.need p r->False:=fun l h=>by
  unfold Ev at h
  split at h
  ·split at h<;>cases h
  ·split at h<;>cases h
  ·cases h
 cases hx with
 | own i off b c n hρ =>
   simp only [Fe] at h
   split at h
   ·exact (part _ h).elim
   ·cases h
 | xp l ad vs hr hI hc hn=>exact (part _ h).elim
 | elt i sz k off b c n hρ hk =>
   simp only [Fe] at h
   have old:∀ b,A3 hp i=b->b≠.dead->A3 H i=b:=fun b hb hne=>by
    rw [hpre i,hb]
    rcases Nat.lt_or_ge i hp.length with hlt|hge
    ·exact hlt
    ·rw [Ds,List.getD_eq_getElem?_getD,List.getElem?_eq_none hge,Option.getD_none] at hb;exact absurd hb.symm hne
   split at h
   ·split at h
    ·exact (part _ h).elim
    ·cases h
   ·rename_i t' wd m f hb
    split at h
    ·rename_i hq hg
     obtain rfl:sz=wd:=Nat.eq_of_beq_eq_true hq
     injection h with h1 h2
     subst h1 h2
     have hl:=hH.live i _ hρ
     rw [old _ hb (by simp)] at hl
     obtain ⟨hm,hcap,hs0,cs,hh,hsz,hcell⟩:=hl
     have hoff:off<sz:=hp'
     obtain ⟨_,v,hv,hr⟩:=hcell k hk off hoff
     exact ⟨_,v,rfl,TV hg (by simp [World.cell?,hh,hv]),hr⟩
    ·cases h
   ·rename_i e e' sz2 m fz ln el ho hb
    have hl:=hH.live i _ hρ
    rw [old _ hb (by simp)] at hl
    obtain ⟨hm,hcap,hs0,cs,hh,hsz,hcell⟩:=hl
    obtain ⟨v,hv,hr,hn⟩:=hcell k hk
    split at h
    ·rename_i k0 hh0 hq hg
     simp only [Bool.and_eq_true] at hq
     obtain rfl:sz=1:=Nat.eq_of_beq_eq_true hq.1
     obtain rfl:off=0:=Nat.eq_of_beq_eq_true hq.2
     injection h with h1 h2
     subst h1 h2
     have hk0:k=k0:=hp'
     subst hk0
     exact ⟨_,v,rfl,TV hg (by simp [World.cell?,hh,hv]),hr _ rfl⟩
    ·rename_i hq hg
     simp only [Bool.and_eq_true] at hq
     obtain rfl:sz=1:=Nat.eq_of_beq_eq_true hq.1
     obtain rfl:off=0:=Nat.eq_of_beq_eq_true hq.2
     injection h with h1 h2
     subst h1 h2
     have hf:fz k=true:=hp'
     exact ⟨_,v,rfl,TV hg (by simp [World.cell?,hh,hv]),(hn (fun ⟨x,hx⟩=>by cases hx)).1 hf⟩
    ·cases h
   ·cases h
 | pa n sz el A vs hI hc hr hl hn =>
   simp only [Fe] at h
   split at h
   ·rename_i a ha
    injection h with h1 h2
    subst h1 h2
    have hn0:0<n:=hp'
    cases A with
    | none=>have:=hI.1.2 rfl;omega
    | some ad =>
      have hlen:=(hr 0 hn0).len
      have:=Fv (P:=P) (t:=t) (ad:=ad) (hr 0 hn0) (fun j hj=>by
       have:=hc ad rfl 0 hn0 j (by rw [<- hl 0 hn0];omega)
       simpa using this) ha
      obtain ⟨u,hu,hr⟩:=this
      exact ⟨_,u,rfl,by simpa [Instr.loadAt,Instr.sureAddr] using hu,hr⟩
   ·cases h
 | _=>simp [Fe] at h
end
end Abs
end Go.Proofs.YtccgngldoinokaaGreat

namespace Go.Proofs.YtccgngldoinokaaGreat
namespace Abs
open Go Go.RowKit
section
variable {P:Program} {S:Sums} {C:Cx} {w:World} {H hp:A0}
theorem PO.val_inv {x a:AV} {new:A0} (h:PO S hp (.val x) a new):a=x/\new=[]:=by cases h;exact ⟨rfl,rfl⟩
theorem PO.need_inv {p:Cd} {r:AR} {a:AV} {new:A0} (h:PO S hp (.need p r) a new):p.ok/\PO S hp r a new:=by cases h;exact ⟨‹_›,‹_›⟩
theorem PO.fail_inv {a:AV} {new:A0} (h:PO S hp .fail a new):False:=by cases h
def Vd (P:Program) (S:Sums) (C:Cx) (w:World) (hp:A0) (m:Sem Value) (r:AR):Prop :=
 ∀ a new,PO S hp r a new->new=[]/\∃ v,m.run P w=.ok v w/\Rel C w a v
theorem Vd.fail (m:Sem Value):Vd P S C w hp m .fail:=fun _ _ h=>h.fail_inv.elim
theorem Vd.val {m:Sem Value} {x:AV} {v:Value} (hr:m.run P w=.ok v w) (h:Rel C w x v):Vd P S C w hp m (.val x):=fun a new hp=>by
 obtain ⟨rfl,rfl⟩:=hp.val_inv;exact ⟨rfl,v,hr,h⟩
theorem Vd.need {m:Sem Value} {p:Cd} {r:AR} (h:p.ok->Vd P S C w hp m r):Vd P S C w hp m (.need p r):=fun a new hq=>h hq.need_inv.1 a new hq.need_inv.2
theorem PO.br_inv {b:Bool} {t e:AR} {a:AV} {new:A0} (h:PO S hp (.br b t e) a new):(b=true/\PO S hp t a new)\/(b=false/\PO S hp e a new):=by
 cases h with
 | brt _ _ _ _ h=>exact .inl ⟨rfl,h⟩
 | brf _ _ _ _ h=>exact .inr ⟨rfl,h⟩
theorem Vd.br {m:Sem Value} {b:Bool} {t e:AR} (h1:b=true->Vd P S C w hp m t) (h2:b=false->Vd P S C w hp m e):Vd P S C w hp m (.br b t e):=fun a new hq=>by
 rcases hq.br_inv with ⟨hb,h⟩|⟨hb,h⟩
 ·exact h1 hb a new h
 ·exact h2 hb a new h
theorem Vd.idx {m:Sem Value} {x:Int} {k:Nat->AR} (h:∀ j:Nat,x=(j:Int)->Vd P S C w hp m (k j)):∀ n:Nat,0<=x->x<(n:Int)->Vd P S C w hp m (XQ x k n)
 | 0,_,_=>.fail _
 | 1,h0,h1=>h 0 (by omega)
 | n+2,h0,h1=>by
   unfold XQ
   refine .br (fun hb=>h (n+1) ?_) (fun hb=>Vd.idx h (n+1) h0 ?_)
   ·unfold Yl at hb;simpa using hb
   ·unfold Yl at hb
    have:x≠((n+1:Nat):Int):=by simpa using hb
    omega
theorem AJ {a:AV} {v:Value} {k:IntKind} (h:Rel C w a v) (hk:AD a=some k):v=.int k (AA a):=by
 cases h<;>simp [AD] at hk<;>subst hk<;>rfl
theorem Ln {k:IntKind} {n:Int} (h:O2 k n):k.wrap n=n:=by
 unfold O2 at h
 cases k<;>simp [IntKind.min,IntKind.max,IntKind.signed,IntKind.bits] at h<;>simp [IntKind.wrap,IntKind.signed,IntKind.bits]<;>omega
theorem ec {k:IntKind} {n:Int} (h:vn k n=true):k.wrap n=n:=Ln (by simpa [vn,O2] using h)
theorem Gn {m:Sem Value} {k:IntKind} {lit:Bool} {x y:Int} (hr:m.run P w=.ok (.int k (k.wrap (if lit then x else y))) w):Vd P S C w hp m (KW k lit x y):=by
 unfold KW
 cases lit with
 | true =>
   simp only at hr ⊢
   split
   ·rename_i hb;exact .val (by simpa [ec hb] using hr) (.li _ _)
   ·exact .val (by simpa using hr) (.li _ _)
 | false =>
   simp only at hr ⊢
   split
   ·exact .need fun (hb:O2 k y)=>.val (by simpa [Ln hb] using hr) (.si _ _)
   ·exact .val (by simpa [NJ] using hr) (.si _ _)
theorem ML {m:Sem Value} {lit x y:Bool} (hr:m.run P w=.ok (.bool x) w) (hy:y=x):Vd P S C w hp m (XK lit x y):=by
 subst hy
 unfold XK;cases lit
 ·exact .val hr (.sb _)
 ·exact .val hr (.lb _)
theorem gP {op:BinOp} {k:IntKind} {lit bl:Bool} {a b:Int} {t:TypeId} (hop:FI op=false) :
  Vd P S C w hp (binOp op t (.int k a) (.int k b)) (lm op k lit a b bl):=by
 cases op<;>simp [FI] at hop<;>unfold lm<;>simp only
 case add=>exact Gn (by cases lit<;>simp [go_sem,Op.intArith,k_])
 case sub=>exact Gn (by cases lit<;>simp [go_sem,Op.intArith,UC])
 case mul=>exact Gn (by cases lit<;>simp [go_sem,Op.intArith,po])
 case quo =>
  have key:b≠0->(binOp .quo t (.int k a) (.int k b)).run P w=.ok (.int k (k.wrap (a.tdiv b))) w:=fun hb=>by simp [binOp,Op.intDiv,hb]
  cases lit<;>simp only
  ·cases bl<;>simp only
   ·exact .need fun (hb:b≠0)=>Gn (by simpa [eY] using key hb)
   ·by_cases hb:b=0
    ·simp [hb];exact .fail _
    ·simp [hb];exact Gn (by simpa [eY] using key hb)
  ·by_cases hb:b=0
   ·simp [hb];exact .fail _
   ·simp [hb];exact Gn (by simpa using key hb)
 case rem =>
  have key:b≠0->(binOp .rem t (.int k a) (.int k b)).run P w=.ok (.int k (a.tmod b)) w:=fun hb=>by simp [binOp,Op.intDiv,hb]
  cases lit<;>simp only
  ·cases bl<;>simp only
   ·exact .need fun (hb:b≠0)=>.val (by simpa [Yi] using key hb) (.si _ _)
   ·by_cases hb:b=0
    ·simp [hb];exact .fail _
    ·simp [hb];exact .val (by simpa [Yi] using key hb) (.si _ _)
  ·by_cases hb:b=0
   ·simp [hb];exact .fail _
   ·simp [hb];exact .val (by simpa using key hb) (.li _ _)
 case eql=>exact ML (by simp [go_sem]) (by simp [Yl])
 case neq=>exact ML (by simp [go_sem]) (by simp [Yl,MA,bne])
 case lss=>exact ML (by simp [go_sem]) (by simp [ilt])
 case leq=>exact ML (by simp [go_sem]) (by simp [Mi])
 case gtr=>exact ML (by simp [go_sem]) (by simp [ilt])
 case geq=>exact ML (by simp [go_sem]) (by simp [Mi])
 case and=>exact .val (by simp [go_sem,KL]) (.si _ _)
 case or=>exact .val (by simp [go_sem,KL]) (.si _ _)
 case xor=>exact .val (by simp [go_sem,KL]) (.si _ _)
 all_goals exact .fail _
theorem TT {k yk:IntKind} {x y:Int} {t:TypeId} (h0:0<=y) (h1:y<k.bits):(binOp .shl t (.int k x) (.int yk y)).run P w=.ok (.int k (k.wrap (x*2 ^ y.toNat))) w:=by
 have hm:min y.toNat k.bits=y.toNat:=by omega
 simp [binOp,Op.shift,show ¬ y<0 by omega,hm]
theorem Zt {k yk:IntKind} {x y:Int} {t:TypeId} (h0:0<=y) (h1:y<k.bits):(binOp .shr t (.int k x) (.int yk y)).run P w=.ok (.int k (x.fdiv (2 ^ y.toNat))) w:=by
 have hm:min y.toNat k.bits=y.toNat:=by omega
 simp [binOp,Op.shift,show ¬ y<0 by omega,hm]
theorem gK {op:BinOp} {t:TypeId} {a b:AV} {x y:Value} (ha:Rel C w a x) (hb:Rel C w b y) (hop:FI op=true) :
  Vd P S C w hp (binOp op t x y) (TO op a b):=by
 unfold TO
 cases hk:AD a with
 | none=>exact .fail _
 | some k =>
   cases hk':AD b with
   | none=>exact .fail _
   | some k' =>
     rw [AJ ha hk,AJ hb hk']
     simp only
     split
     ·by_cases hr:0<=AA b/\AA b<k.bits
      ·cases op<;>simp [FI] at hop<;>simp [hr]
       ·exact .val (TT hr.1 hr.2) (.li _ _)
       ·exact .val (Zt hr.1 hr.2) (.li _ _)
      ·simp [hr];exact .fail _
     ·cases op<;>simp [FI] at hop<;>simp only [ci]
      ·refine .need fun hr=>?_
       cases hs:k.signed
       ·simp only;exact .val (by simpa [NJ,eU] using TT hr.1 hr.2) (.si _ _)
       ·simp only;exact .need fun hb=>.val (by rw [TT hr.1 hr.2];rw [show AA a*2 ^ (AA b).toNat=eU (AA a) (AA b) by simp [eU],Ln hb]) (.si _ _)
      ·exact .need fun hr=>.val (by simpa [pi] using Zt hr.1 hr.2) (.si _ _)
theorem tM {a:AV} {v:Value} (h:Rel C w a v):Vd P S C w hp (Op.unary .not v) (YP a):=by
 cases h<;>simp only [YP]<;>first|exact .fail _|skip
 ·exact .val (by simp [Op.unary]) (.lb _)
 ·exact .val (by simp [Op.unary,MA]) (.sb _)
end
end Abs
end Go.Proofs.YtccgngldoinokaaGreat

namespace Go.Proofs.YtccgngldoinokaaGreat
namespace Abs
open Go Go.RowKit
def EqOK (P:Program) (t:TypeId) (ks:List (Option IntKind)):Prop :=
 (t<1048576->P.eqGuardType P.depth t=false/\∀ (C:Cx) (w:World) (l m:List AV) (vs ws:List Value) (r:Bool),Dv ks l=true->Dv ks m=true->RelL C w l vs->RelL C w m ws->F0 l m=some r ->
  (Op.equalIn 10000 t (.agg ⟨vs⟩) (.agg ⟨ws⟩)).run P w=.ok r w) /\
 (1048576<=t->∀ n z,UV P (t-1048576)=some (n,z)->ZeroIs P (t-1048576,n,z)) /\
 (t<1048576->∀ (em:Bool) (C:Cx) (w:World) (l:List AV) (vs:List Value),Dv ks l=true->RelL C w l vs->(Instr.checkKey em 10000 t (.agg ⟨vs⟩)).run P w=.ok () w)
theorem cE {P:Program} {S:Sums} (hS:∀ t ks,AL S.eqs t=some ks->EqOK P t ks) {t n:Nat} {z:AV} (h:kG S t=true) (hb:UV P t=some (n,z)):ZeroIs P (t,n,z):=by
 unfold kG at h
 split at h
 ·rename_i ks hk
  have:=(hS _ ks hk).2.1 (Nat.le_add_left _ _) n z
  rw [Nat.add_sub_cancel] at this
  exact this hb
 ·cases h
section
variable {P:Program} {S:Sums} {C:Cx} {w:World} {H hp:A0}
theorem cT {a b r:AV} {x y:Value} (ha:Rel C w a x) (hb:Rel C w b y) (h:eqA a b=some r):∃ p q,x=.bool p/\y=.bool q/\Rel C w r (.bool (p == q))/\Fu r=(p == q):=by
 cases ha<;>cases hb<;>simp [eqA] at h<;>subst h<;>refine ⟨_,_,rfl,rfl,?_,?_⟩
 all_goals first|exact .lb _|(simp only [Z9];exact .sb _)|rfl|(simp [Fu,Z9];done)
theorem qP {a b:AV} {x y:Value} {r:Bool} (ha:Rel C w a x) (hb:Rel C w b y) (h:wF a b=some r) :
  (∃ k p q,x=.int k p/\y=.int k q/\r=(p == q))\/(∃ p q,x=.bool p/\y=.bool q/\r=(p == q)):=by
 unfold wF at h
 cases hi:eqI a b with
 | some r' =>
   simp [hi] at h;subst h
   unfold eqI at hi
   cases hk:AD a with
   | none=>simp [hk] at hi
   | some k =>
     cases hk':AD b with
     | none=>simp [hk,hk'] at hi
     | some k' =>
       simp only [hk,hk'] at hi
       by_cases e:k=k'
       ·simp [e] at hi;subst hi;subst e
        exact .inl ⟨k,_,_,AJ ha hk,AJ hb hk',by simp [Yl]⟩
       ·simp [e] at hi
 | none =>
   simp [hi] at h
   cases he:eqA a b with
   | none=>simp [he] at h
   | some r' =>
     simp [he] at h;subst h
     obtain ⟨p,q,rfl,rfl,_,h⟩:=cT ha hb he
     exact .inr ⟨p,q,rfl,rfl,h⟩
theorem MK {op:BinOp} {m:Sem Value} {b:Bool} {r:AV} (h1:op=.eql->m.run P w=.ok (.bool b) w) (h2:op=.neq->m.run P w=.ok (.bool (!b)) w) (hr:Rel C w r (.bool b)):Vd P S C w hp m (sx op r):=by
 unfold sx
 cases op<;>simp only<;>first|exact .fail _|skip
 ·exact .val (h1 rfl) hr
 ·cases hr with
  | top=>simp only [YP];exact .fail _
  | gd=>simp only [YP];exact .fail _
  | lb=>exact .val (h2 rfl) (.lb _)
  | sb=>exact .val (h2 rfl) (by simp [MA];exact .sb _)
  | v=>simp only [YP];exact .fail _
theorem JN {a:AV} {v:Value} (h:Rel C w a v) (hn:pH a=true):v=.pointer none:=by
 unfold pH at hn
 split at hn
 ·cases h;rfl
 ·cases hn
theorem Gg {a:AV} {v:Value} (h:Rel C w a v) (hn:NK a=true):∃ ad,v=.pointer (some ad):=by
 cases h<;>simp [NK] at hn<;>exact ⟨_,rfl⟩
theorem FF {t:TypeId} (ht:UD P t=true) (a b:Option Addr) (h:a=none\/b=none) :
  (binOp .eql t (.pointer a) (.pointer b)).run P w=.ok (.bool (a.isNone&&b.isNone)) w/\(binOp .neq t (.pointer a) (.pointer b)).run P w=.ok (.bool (!(a.isNone&&b.isNone))) w:=by
 unfold UD at ht
 cases hd:P.underlying t with
 | none=>simp [hd] at ht
 | some d =>
   cases d<;>simp [hd] at ht
   have key:∀ d:Nat,(Op.equalIn (d+1) t (.pointer a) (.pointer b)).run P w=.ok (a.isNone&&b.isNone) w:=fun d=>by
    rcases h with rfl|rfl
    ·simp [Op.equalIn,run_underlying hd]
    ·cases a<;>simp [Op.equalIn,run_underlying hd]
   constructor
   ·simp only [binOp];simp [Op.equal,Op.maxDepth,key 9999]
   ·simp only [binOp];simp [Op.equal,Op.maxDepth,key 9999]
theorem VI {t:TypeId} (ht:UE P t=true) (a b:Bool) :
  (binOp .eql t (.bool a) (.bool b)).run P w=.ok (.bool (a == b)) w/\(binOp .neq t (.bool a) (.bool b)).run P w=.ok (.bool (!(a == b))) w:=by
 unfold UE at ht
 cases hd:P.underlying t with
 | none=>simp [hd] at ht
 | some d =>
   cases d<;>simp [hd] at ht
   exact ⟨run_eql_bool w t a b hd,run_neq_bool w t a b hd⟩
theorem uQ {n sz:Nat} {el:Nat->List AV} {v:Value} (h:Rel C w (.pa n sz el) v):∃ A,v=.pointer A/\A.isNone=Xd n:=by
 cases h with
 | pa _ _ _ A vs hI hc hr hl hn =>
   refine ⟨A,rfl,?_⟩
   cases A with
   | none=>rw [zerB_iff.2 (hI.1.2 rfl)];rfl
   | some ad =>
     cases hz:Xd n with
     | false=>rfl
     | true=>have:=hI.1.1 (zerB_iff.1 hz);cases this
theorem gO {op:BinOp} {t:TypeId} {x y:Operand} {a b:AV} {u v:Value} (hS:∀ t ks,AL S.eqs t=some ks->EqOK P t ks) (hu:Rel C w a u) (hv:Rel C w b v) :
  Vd P S C w hp (do eqGuard op t x y u v;binOp op t u v) (lZ P S op t a b):=by
 unfold lZ
 cases hsh:FI op with
 | true =>
   have hg:eqGuard op t x y u v=pure ():=by cases op<;>simp [FI] at hsh<;>rfl
   simp only [hg]
   exact fun r new hq=>by simpa using gK (P:=P) (t:=t) hu hv hsh r new hq
 | false =>
   simp only
   split
   ·rename_i k k' hk hk'
    rw [AJ hu hk,AJ hv hk']
    by_cases e:k=k'
    ·subst e
     simp only [decide_true]
     rw [eqGuard_at_int]
     exact fun r new hq=>by simpa using gP (P:=P) (t:=t) hsh r new hq
    ·simp [e];exact .fail _
   ·split
    ·rename_i l m hkn
     split
     rotate_left
     ·exact .fail _
     rename_i ks hlt hks
     split
     ·rename_i r hc he
      simp only [Bool.and_eq_true] at hc
      obtain ⟨hl,hm⟩:=hc
      obtain ⟨hg,heq⟩:=(hS t ks hks).1 (show t<1048576 from Nat.le_of_ble_eq_true hlt)
      cases hu with|agg _ us hu =>
      cases hv with|agg _ vs hv =>
      have hrun:=heq C w l m us vs r hl hm hu hv he
      have hgr:=run_eqGuard_agg (P:=P) w op t x y ⟨us⟩ ⟨vs⟩ hg
      refine MK (b:=r) (fun ho=>?_) (fun ho=>?_) (.sb r)
      ·subst ho;simp only [Sem.run_bind,hgr,Result.andThen_ok,run_eql_struct,hrun]
      ·subst ho;simp only [Sem.run_bind,hgr,Result.andThen_ok,run_neq_struct,hrun]
     ·exact .fail _
    ·split
     ·rename_i hpt
      split
      ·rename_i h1 h2
       rw [JN hu h1,JN hv h2,eqGuard_at_pointer]
       have:=FF (P:=P) (w:=w) hpt none none (.inl rfl)
       exact MK (b:=true) (fun ho=>by subst ho;simpa using this.1) (fun ho=>by subst ho;simpa using this.2) (.lb _)
      ·rename_i h1 h2
       split
       ·rename_i h3
        obtain ⟨ad,rfl⟩:=Gg hv h3
        rw [JN hu h1,eqGuard_at_pointer]
        have:=FF (P:=P) (w:=w) hpt none (some ad) (.inl rfl)
        exact MK (b:=false) (fun ho=>by subst ho;simpa using this.1) (fun ho=>by subst ho;simpa using this.2) (.lb _)
       ·exact .fail _
      ·rename_i h1 h2
       split
       ·rename_i h3
        obtain ⟨ad,rfl⟩:=Gg hu h3
        rw [JN hv h2,eqGuard_at_pointer]
        have:=FF (P:=P) (w:=w) hpt (some ad) none (.inr rfl)
        exact MK (b:=false) (fun ho=>by subst ho;simpa using this.1) (fun ho=>by subst ho;simpa using this.2) (.lb _)
       ·split
        ·obtain ⟨A,rfl,e⟩:=uQ hu
         rw [JN hv h2,eqGuard_at_pointer]
         have:=FF (P:=P) (w:=w) hpt A none (.inr rfl)
         exact MK (b:=A.isNone) (fun ho=>by subst ho;simpa using this.1) (fun ho=>by subst ho;simpa using this.2) (by rw [e];exact .sb _)
        ·exact .fail _
      ·exact .fail _
     ·split
      ·rename_i r hb he
       obtain ⟨p,q,rfl,rfl,hr,_⟩:=cT hu hv he
       rw [eqGuard_at_bool]
       have:=VI (P:=P) (w:=w) hb p q
       exact MK (b:=(p == q)) (fun ho=>by subst ho;simpa using this.1) (fun ho=>by subst ho;simpa using this.2) hr
      ·exact .fail _
end
end Abs
end Go.Proofs.YtccgngldoinokaaGreat

namespace Go.Proofs.YtccgngldoinokaaGreat
namespace Abs
open Go Go.RowKit
section
variable {P:Program} {S:Sums} {C:Cx} {w:World} {H hp:A0}
def Pre (hp H:A0):Prop:=∀ i,i<hp.length->A3 H i=A3 hp i
theorem Gj {hp:A0} {i:Nat} (h:hp.length<=i):A3 hp i=.dead:=by
 rw [Ds,List.getD_eq_getElem?_getD,List.getElem?_eq_none h,Option.getD_none]
theorem Pre.old (hpre:Pre hp H) {i:Nat} {b:Blk} (hb:A3 hp i=b) (hne:b≠.dead):i<hp.length/\A3 H i=b:=by
 rcases Nat.lt_or_ge i hp.length with hlt|hge
 ·exact ⟨hlt,(hpre i hlt).trans hb⟩
 ·rw [Gj hge] at hb;exact absurd hb.symm hne
theorem Xj {src dst:TypeId} {a:AV} {v:Value} (h:Rel C w a v):Vd P S C w hp (convert src dst v) (lK P src dst a):=by
 unfold lK
 split
 ·rename_i k1 k hs hd
  have key:∀ q n,(convert src dst (.int q n)).run P w=.ok (.int k (k.wrap n)) w:=fun q n=>by
   simp [convert,run_underlying hs,run_underlying hd,Conv.intToInt]
  cases h<;>simp only<;>first|exact .fail _|skip
  ·exact .val (key _ _) (.li _ _)
  ·split
   ·exact .need fun hb=>.val (by rw [key,Ln hb]) (.si _ _)
   ·exact .val (by rw [key];simp [NJ]) (.si _ _)
 ·exact .fail _
theorem tN {a:AV} {v:Value} (h:Rel C w a v) :
  Vd P S C w hp (Op.unary .neg v) (match AD a with|some k=>KW k (KR a) (0-AA a) (UC 0 (AA a))|none=>.fail):=by
 split
 ·rename_i k hk
  rw [AJ h hk]
  exact Gn (by cases KR a<;>simp [Op.unary,Op.intArith,UC])
 ·exact .fail _
theorem Jj {t:TypeId} {f:Nat} {fd:Field} (h:Pq P t f=some fd):∃ fs,P.underlying t=some (.struct fs)/\fs[f]? = some fd:=by
 unfold Pq at h
 split at h
 ·rename_i fs hu;exact ⟨fs,hu,by simpa using h⟩
 ·cases h
theorem B0 {t:TypeId} {n:Nat} (h:A9 P t=n+1):∃ i,P.info? t=some i:=by
 unfold A9 at h
 cases hi:P.info? t with
 | none=>simp [hi] at h
 | some i=>exact ⟨i,rfl⟩
theorem L8 {t:TypeId} {x:AV} {v:Value} {f:Nat} (h:Rel C w x v):Vd P S C w hp (Instr.fieldAt t v f) (Fs P t x f):=by
 unfold Fs
 split
 ·exact .fail _
 ·rename_i fd hf
  obtain ⟨fs,hu,hg⟩:=Jj hf
  split
  ·exact .fail _
  ·rename_i n hz
   obtain ⟨i,hi⟩:=B0 hz
   have key:∀ ad:Addr,(Instr.fieldAt t (.pointer (some ad)) f).run P w=.ok (.pointer (some (ad.add fd.offset))) w:=fun ad=>by
    simp [Instr.fieldAt,run_underlying hu,hg,Instr.sureAddr,fieldPlace,BP hi,hz]
   cases h<;>simp only<;>first|exact .fail _|skip
   case own i off b c n h =>
    refine .val (key _) ?_
    have:(⟨b,off,none⟩:Addr).add fd.offset=⟨b,off+fd.offset,none⟩:=by unfold Addr.add;split<;>simp [*]
    rw [this];exact .own _ _ _ _ _ h
   case elt i sz k off b c n h hk =>
    refine .val (key _) ?_
    have:(⟨b,k*sz+off,none⟩:Addr).add fd.offset=⟨b,k*sz+(off+fd.offset),none⟩:=by unfold Addr.add;split<;>simp [*,Nat.add_assoc]
    rw [this];exact .elt _ _ _ _ _ _ _ h hk
   case xp l ad vs hr hI hc hn =>
    refine .val (key _) ?_
    rw [Aa]
    refine .xp _ _ (vs.drop fd.offset) (hr.drop _) (fun hne=>?_) (fun j hj=>?_) (LQ _ hn)
    ·rw [BH];exact hI (fun h0=>hne (by rw [h0];simp))
    ·simp at hj
     rw [HW,hc _ (by omega),List.getElem?_drop]
theorem gM {t:TypeId} {v:Value} {f:Nat}:∀ {x:AV},Rel C w x v ->
  Vd P S C w hp (Instr.field t v f) (match Pq P t f,x with|some fd,.agg l=>Ev P fd.type (AO l fd.offset)|_,_=>.fail):=by
 intro x h
 revert h
 split<;>intro h
 ·rename_i fd l hf
  obtain ⟨fs,hu,hg⟩:=Jj hf
  cases h with
  | agg _ vs hr =>
    intro a new hq
    cases hp':Ev P fd.type (AO l fd.offset) with
    | val a' =>
      rw [hp'] at hq;obtain ⟨rfl,rfl⟩:=hq.val_inv
      rw [Aa] at hp'
      obtain ⟨u,hu',hr'⟩:=VG (P:=P) (hr.drop fd.offset) hp'
      exact ⟨rfl,u,by simp [Instr.field,run_underlying hu,hg,asAgg,hu'],hr'⟩
    | fail=>rw [hp'] at hq;exact hq.fail_inv.elim
    | _ =>
      exfalso;revert hp';unfold Ev
      repeat' split
      all_goals (intro hc;cases hc)
 ·exact .fail _
theorem gL {t:TypeId} {v u:Value} {x i:AV} (hx:Rel C w x v) (hi:Rel C w i u):Vd P S C w hp (Instr.index t v u) (Yj P t x i):=by
 unfold Yj
 split
 ·rename_i n e l q j hu
  split
  ·rename_i s hd hs
   have hd:=of_decide_eq_true hd
   cases hi
   cases hx with
   | agg _ vs hr =>
     intro a new hq
     obtain ⟨inf,hinf⟩:=B0 hs
     cases hp':Ev P e (AO l (j.toNat*(s+1))) with
     | val a' =>
       rw [hp'] at hq;obtain ⟨rfl,rfl⟩:=hq.val_inv
       rw [Aa] at hp'
       obtain ⟨z,hz,hr'⟩:=VG (P:=P) (hr.drop (j.toNat*(s+1))) hp'
       have hsz:=BP (P:=P) hinf w
       rw [hs] at hsz
       exact ⟨rfl,z,by simp [Instr.index,asIntOf,run_underlying hu,hd,hsz,hz],hr'⟩
     | fail=>rw [hp'] at hq;exact hq.fail_inv.elim
     | _ =>
       exfalso;revert hp';unfold Ev
       repeat' split
       all_goals (intro hc;cases hc)
  ·exact .fail _
 ·exact .fail _
theorem KY {m:Sem Value} {k:Nat->AR} {i:AV} {n:LN} {v:Value} (h:Rel C w i v) (hk:∀ q j,v=.int q (j:Nat)->j<n.val->Vd P S C w hp m (k j)):Vd P S C w hp m (idx i n k):=by
 unfold idx
 cases h<;>simp only<;>first|exact .fail _|skip
 case li q x =>
  split
  ·rename_i h0
   have h0':0<=x:=by simpa using h0
   have e:((x.toNat:Nat):Int)=x:=Int.toNat_of_nonneg h0'
   split
   ·split
    ·rename_i hlt;exact hk q _ (by rw [e]) (by simpa [LN.val] using hlt)
    ·exact .fail _
   ·exact .need fun hlt=>hk q _ (by rw [e]) hlt
  ·exact .fail _
 case si q x =>
  refine .need fun hb=>hk q _ ?_ ?_
  ·simp [Iz];omega
  ·simp [Iz];omega
theorem LP {a:AV} (h:LX a=true):ownIn a=false:=by cases a<;>simp [LX] at h<;>rfl
theorem Ca:∀ {l:List AV},DV l=true->ownIn.ownInL l=false
 | [],_=>rfl
 | a::l,h=>by
   simp [DV] at h
   simp only [ownIn.ownInL,Ca h.2,Bool.or_false]
   cases a<;>simp [LX] at h<;>rfl
theorem Dt (b o n:Nat):(⟨b,o,none⟩:Addr).add n=⟨b,o+n,none⟩:=by unfold Addr.add;split<;>simp [*]
theorem TB {t:TypeId} {x i:AV} {u v:Value} (hH:HR C H w) (hpre:Pre hp H) (hx:Rel C w x u) (hi:Rel C w i v) :
  Vd P S C w hp (Instr.indexAt t u v) (H6 P hp t x i):=by
 unfold H6
 split
 ·rename_i n e hu
  split
  ·exact .fail _
  ·rename_i s hs
   obtain ⟨ie,hie⟩:=B0 hs
   have hsz:=BP hie w
   rw [hs] at hsz
   have key:∀ q (j:Int),0<=j/\j<n->∀ ad:Addr,(Instr.indexAt t (.pointer (some ad)) (.int q j)).run P w=.ok (.pointer (some (ad.add (j.toNat*(s+1))))) w:=fun q j hb ad=>by
    simp [Instr.indexAt,run_underlying hu,Instr.sureAddr,asIntOf,hb,hsz]
   have drp:∀ {l:List AV} {ad:Addr} {vs:List Value} (k:Nat),RelL C w l vs->(l≠[]->C.I ad.block)->(∀ j,j<l.length->w.cell? (ad.add j)=vs[j]?)->ownIn.ownInL l=false ->
     Rel C w (.xp (AO l (k*(s+1)))) (.pointer (some (ad.add (k*(s+1))))):=fun {l ad vs} k hr hI hc hn=>by
    rw [Aa]
    refine .xp _ _ (vs.drop _) (hr.drop _) (fun hne=>?_) (fun j' hj=>?_) (LQ _ hn)
    ·rw [BH];exact hI (fun h0=>hne (by rw [h0];simp))
    ·simp at hj
     rw [HW,hc _ (by omega),List.getElem?_drop]
   split
   ·rename_i r har
    unfold xH at har
    split at har
    ·rename_i b wd k off
     split at har
     ·rename_i t' w' m' f' hb
      split at har
      ·rename_i hq
       injection har with har;subst har
       simp only [Bool.and_eq_true] at hq
       obtain ⟨⟨⟨q1,q2⟩,q3⟩,q4⟩:=hq
       obtain rfl:=Nat.eq_of_beq_eq_true q1
       obtain rfl:=Nat.eq_of_beq_eq_true q2
       obtain rfl:=Nat.eq_of_beq_eq_true q3
       obtain rfl:=Nat.eq_of_beq_eq_true q4
       cases hx with|elt _ _ _ _ bl c m hρ hk =>
       refine KY hi fun q j hv hj=>?_
       subst hv
       have hj':j<n:=hj
       refine .val (key q j ⟨by omega,by omega⟩ _) ?_
       rw [Dt];simpa using Rel.elt b n k j bl c m hρ hk
      ·injection har with har;subst har;exact .fail _
     ·injection har with har;subst har;exact .fail _
    ·rename_i m sz el
     split at har
     ·rename_i hq
      injection har with har;subst har
      obtain rfl:sz=s+1:=Nat.eq_of_beq_eq_true hq
      refine .need fun hmn=>?_
      have hmn:m=n:=hmn
      subst hmn
      cases hx with|pa _ _ _ A vs hI hc hr hl hn =>
      refine KY hi fun q j hv hj=>?_
      subst hv
      have hj':j<m:=hj
      cases A with|none=>have:=hI.1.2 rfl;omega|some ad =>
      refine .val (key q j ⟨by omega,by omega⟩ _) ?_
      refine .xp _ _ (vs j) (hr j hj') (fun _=>by rw [BH];exact hI.2 ad rfl) (fun j' hj2=>?_) (Ca (hn j hj'))
      have:=(hr j hj').len
      rw [Int.toNat_natCast,HW];exact hc ad rfl j hj' j' (by rw [<- hl j hj'];omega)
     ·injection har with har;subst har;exact .fail _
    ·cases har
   rename_i hnone
   clear hnone
   cases hi<;>simp only<;>first|exact .fail _|skip
   ·rename_i q j
    split
    ·rename_i hb
     have hb':0<=j/\j<n:=by simpa using hb
     cases hx with|own _ _ bl c m hρ =>
     refine .val (key q j hb' _) ?_
     rw [Dt];exact .own _ _ _ _ _ hρ
    ·rename_i hb
     have hb':0<=j/\j<n:=by simpa using hb
     cases hx with|xp l ad vs hr hI hc hn =>
     exact .val (key q j hb' _) (drp _ hr hI hc hn)
    ·exact .fail _
   ·rename_i q j
    split
    ·refine .need fun hb=>Vd.idx (fun k hk=>?_) n hb.1 hb.2
     cases hx with|own _ _ bl c m hρ =>
     refine .val (key q j hb _) ?_
     rw [Dt,hk];exact .own _ _ _ _ _ hρ
    ·refine .need fun hb=>Vd.idx (fun k hk=>?_) n hb.1 hb.2
     cases hx with|xp l ad vs hr hI hc hn =>
     refine .val (key q j hb _) ?_
     rw [hk]
     exact drp _ hr hI hc hn
    ·exact .fail _
 ·rename_i e hu
  split
  ·exact .fail _
  ·rename_i s hs
   obtain ⟨ie,hie⟩:=B0 hs
   have hsz:=BP hie w
   rw [hs] at hsz
   have key:∀ (ad:Addr) (len cap:Nat) q (j:Nat),j<len->(Instr.indexAt t (.slice (some ad) len cap) (.int q j)).run P w=.ok (.pointer (some (ad.add (j*(s+1))))) w:=fun ad len cap q j hb=>by
    have h1:(0:Int)<=(j:Int)/\(j:Int)<(len:Int):=by omega
    simp [Instr.indexAt,run_underlying hu,asIntOf,hsz,hb]
   split
   ·rename_i b
    split
    ·rename_i e' sz n el hb
     obtain ⟨hlt,hB⟩:=hpre.old hb (by simp)
     split
     ·rename_i hq
      obtain rfl:sz=s+1:=Nat.eq_of_beq_eq_true hq
      cases hx with
      | row _ bl c m hρ =>
        have hl:=hH.live _ _ hρ
        rw [hB] at hl
        obtain ⟨hm,hcap,_⟩:=hl
        refine KY hi fun q j hv hj=>?_
        subst hv
        rw [hm] at hj
        refine .val (key _ _ _ _ _ hj) ?_
        rw [Dt];simpa using Rel.elt b (s+1) j 0 bl c m hρ hj
      | rown _ hρ =>
        have hl:=hH.live _ _ hρ
        rw [hB] at hl
        refine KY hi fun q j hv hj=>?_
        have:=hl.1;omega
     ·exact .fail _
    ·rename_i t' wd n f hb
     obtain ⟨hlt,hB⟩:=hpre.old hb (by simp)
     split
     ·rename_i hq
      obtain rfl:wd=s+1:=Nat.eq_of_beq_eq_true hq
      cases hx with
      | row _ bl c m hρ =>
        have hl:=hH.live _ _ hρ
        rw [hB] at hl
        obtain ⟨hm,hcap,_⟩:=hl
        refine KY hi fun q j hv hj=>?_
        subst hv
        rw [hm] at hj
        refine .val (key _ _ _ _ _ hj) ?_
        rw [Dt];simpa using Rel.elt b (s+1) j 0 bl c m hρ hj
      | rown _ hρ =>
        have hl:=hH.live _ _ hρ
        rw [hB] at hl
        exact hl.elim
     ·exact .fail _
    ·rename_i e1 e2 sz2 n fz ln el ho hb
     obtain ⟨hlt,hB⟩:=hpre.old hb (by simp)
     split
     ·rename_i hq
      obtain rfl:s=0:=Nat.eq_of_beq_eq_true hq
      cases hx with
      | row _ bl c m hρ =>
        have hl:=hH.live _ _ hρ
        rw [hB] at hl
        obtain ⟨hm,hcap,_⟩:=hl
        refine KY hi fun q j hv hj=>?_
        subst hv
        rw [hm] at hj
        refine .val (key _ _ _ _ _ hj) ?_
        rw [Dt];simpa using Rel.elt b 1 j 0 bl c m hρ hj
      | rown _ hρ =>
        have hl:=hH.live _ _ hρ
        rw [hB] at hl
        exact hl.elim
     ·exact .fail _
    ·exact .fail _
   ·rename_i n sz el
    split
    ·rename_i hq
     obtain rfl:sz=s+1:=Nat.eq_of_beq_eq_true hq
     cases hx with
     | slc _ _ _ A cap vs hcap hA hr hl hn =>
       refine KY hi fun q j hv hj=>?_
       subst hv
       obtain ⟨ad,rfl,hI,hc⟩:=hA (by omega)
       refine .val (key _ _ _ _ _ hj) ?_
       refine .xp _ _ (vs j) (hr j hj) (fun _=>by rw [BH];exact hI) (fun j' hj'=>?_) (Ca (hn j hj))
       have:=(hr j hj).len
       rw [HW];exact hc j hj j' (by rw [<- hl j hj];omega)
    ·exact .fail _
   ·rename_i b n sz
    split
    ·rename_i q j hq
     split
     ·rename_i hb
      obtain rfl:sz=s+1:=Nat.eq_of_beq_eq_true hq
      have hb':0<=j/\j<(n:Int):=by simpa using hb
      cases hi
      cases hx with
      | lsl _ _ _ bl c m hρ =>
        obtain ⟨jn,rfl⟩:=Int.eq_ofNat_of_zero_le hb'.1
        refine .val (key ⟨bl,0,none⟩ n n q jn (by omega)) ?_
        rw [Dt];simpa using Rel.own b (jn*(s+1)) bl c m hρ
     ·exact .fail _
    ·exact .fail _
   ·exact .fail _
 ·exact .fail _
theorem Xi {v:Value} {i:Nat}:∀ {x:AV},Rel C w x v->Vd P S C w hp (Instr.extract v i) (match x with|.tup l=>(match l[i]? with|some a=>.val a|none=>.fail)|_=>.fail):=by
 intro x h
 cases h<;>simp only<;>first|exact .fail _|skip
 rename_i l vs hr
 split
 ·rename_i a ha
  obtain ⟨u,hu,hrel⟩:=hr.get ha
  exact .val (by simp [Instr.extract,hu]) hrel
 ·exact .fail _
theorem L7 {m:Sem Value} {n:LN} (hr:m.run P w=.ok (.int .i64 n.val) w):Vd P S C w hp m (jl n):=by
 cases n with
 | lit n=>exact .val hr (.li _ _)
 | sym n=>exact .val (by simpa [Em,LN.val] using hr) (.si _ _)
theorem tO {t ty e:TypeId} {x:AV} {v:Value} (ht:P.underlying t=some (.slice e)) (hH:HR C H w) (hpre:Pre hp H) (h:Rel C w x v) :
  Vd P S C w hp (Builtin.len_ #[t] ty #[v]) (vb hp x):=by
 have key:∀ A (n c:Nat),(Builtin.len_ #[t] ty #[.slice A n c]).run P w=.ok (.int .i64 n) w:=fun A n c=>by
  simp [Builtin.len_,run_underlying ht,goInt]
 unfold vb
 split
 ·cases h;exact .val (key _ _ _) (.li _ _)
 ·split
  ·rename_i n el hb
   obtain ⟨hlt,hB⟩:=hpre.old hb (by simp)
   cases h with
   | row _ bl c m hρ =>
     have hl:=hH.live _ _ hρ
     rw [hB] at hl
     exact L7 (by rw [hl.1];exact key _ _ _)
   | rown _ hρ =>
     have hl:=hH.live _ _ hρ
     rw [hB] at hl
     exact L7 (by rw [hl.1];exact key _ _ _)
  ·rename_i n el hb
   obtain ⟨hlt,hB⟩:=hpre.old hb (by simp)
   cases h with
   | row _ bl c m hρ =>
     have hl:=hH.live _ _ hρ
     rw [hB] at hl
     exact L7 (by rw [hl.1];exact key _ _ _)
   | rown _ hρ =>
     have hl:=hH.live _ _ hρ
     rw [hB] at hl
     exact hl.elim
  ·rename_i n fz ln el ho hb
   obtain ⟨hlt,hB⟩:=hpre.old hb (by simp)
   cases h with
   | row _ bl c m hρ =>
     have hl:=hH.live _ _ hρ
     rw [hB] at hl
     exact L7 (by rw [hl.1];exact key _ _ _)
   | rown _ hρ =>
     have hl:=hH.live _ _ hρ
     rw [hB] at hl
     exact hl.elim
  ·exact .fail _
 ·cases h with|slc _ _ _ A cap vs hcap hA hr hl hn=>exact L7 (key _ _ _)
 ·cases h with|lsl _ _ _ bl c m hρ=>exact .val (key _ _ _) (.li _ _)
 ·exact .fail _
end
end Abs
end Go.Proofs.YtccgngldoinokaaGreat

namespace Go.Proofs.YtccgngldoinokaaGreat
namespace Abs
open Go Go.RowKit
section
variable {P:Program} {S:Sums} {C:Cx} {w:World} {H hp:A0}
theorem ov {a:AV} {v:Value} (h:Rel C w a v) (ho:LX a=true):v.oneCell'=true:=by
 cases h<;>simp [LX] at ho<;>first|rfl|exact ho
theorem JL {a:AV} {v:Value} (h:Rel C w a v) (ho:jB a=true):v.oneCell'=true:=by
 cases h<;>simp [jB,LX] at ho<;>first|rfl|exact ho
theorem Nj:∀ {l:List AV} {vs:List Value},RelL C w l vs->DV l=true->∀ u∈vs,u.oneCell'=true
 | _,_,.nil,_,u,hu=>by cases hu
 | _,_,.cons _ _ _ _ h h',ho,u,hu=>by
   simp [DV] at ho
   rcases List.mem_cons.1 hu with rfl|hu
   ·exact ov h ho.1
   ·exact Nj h' ho.2 u hu
theorem Ot:∀ {l:List AV} {vs:List Value},RelL C w l vs->LU l=true->∀ u∈vs,u.oneCell'=true
 | _,_,.nil,_,u,hu=>by cases hu
 | _,_,.cons _ _ _ _ h h',ho,u,hu=>by
   simp [LU] at ho
   rcases List.mem_cons.1 hu with rfl|hu
   ·exact JL h ho.1
   ·exact Ot h' ho.2 u hu
theorem GY (mx:Bool):∀ (l:List AV) (a:AV) (v:Value) (vs:List Value),Rel C w a v->RelL C w l vs ->
  Vd P S C w hp (vs.foldlM (if mx then Builtin.max2 else Builtin.min2) v) (F6 mx a l)
 | [],a,v,_,ha,.nil=>by
   cases mx<;>exact .val (by simp) ha
 | b::l,a,v,_,ha,.cons _ _ u us hb hl=>by
   unfold F6
   cases hk:AD a with
   | none=>exact .fail _
   | some k =>
   cases hk':AD b with
   | none=>exact .fail _
   | some k' =>
     have e1:=AJ ha hk
     have e2:=AJ hb hk'
     subst e1 e2
     simp only
     cases mx with
     | true =>
       simp only [if_true,List.foldlM_cons]
       have key:∀ w,(Builtin.max2 (.int k (AA a)) (.int k' (AA b))).run P w=.ok (.int k (if AA b > AA a then AA b else AA a)) w:=fun w=>by simp [Builtin.max2]
       split
       ·intro x new hq
        obtain ⟨hn,z,hz,hr⟩:=GY true l _ _ us (.li k _) hl x new hq
        exact ⟨hn,z,by simpa [Sem.run_bind,key] using hz,hr⟩
       ·intro x new hq
        obtain ⟨hn,z,hz,hr⟩:=GY true l _ _ us (.si k _) hl x new hq
        exact ⟨hn,z,by simpa [Sem.run_bind,key,k9] using hz,hr⟩
     | false =>
       simp only [Bool.false_eq_true,if_false,List.foldlM_cons]
       have key:∀ w,(Builtin.min2 (.int k (AA a)) (.int k' (AA b))).run P w=.ok (.int k (if AA b<AA a then AA b else AA a)) w:=fun w=>by simp [Builtin.min2]
       split
       ·intro x new hq
        obtain ⟨hn,z,hz,hr⟩:=GY false l _ _ us (.li k _) hl x new hq
        exact ⟨hn,z,by simpa [Sem.run_bind,key] using hz,hr⟩
       ·intro x new hq
        obtain ⟨hn,z,hz,hr⟩:=GY false l _ _ us (.si k _) hl x new hq
        exact ⟨hn,z,by simpa [Sem.run_bind,key,k8] using hz,hr⟩
theorem oJ (v:Value):Rel C w (nA v) v:=by
 cases v<;>simp only [nA]<;>first|exact .v _|exact .li _ _|exact .lb _
theorem Gy:∀ l:List Value,RelL C w (l.map nA) l
 | []=>.nil
 | v::l=>.cons _ _ _ _ (oJ v) (Gy l)
theorem Dc {t:TypeId} {l:List AV} (h:FD P t=some l):∃ i z,P.info? t=some i/\i.zero=some z/\z.cells.size=i.size/\l=z.cells.toList.map nA:=by
 unfold FD at h
 split at h
 ·rename_i i hi
  split at h
  ·rename_i z hz
   split at h
   ·rename_i hd;exact ⟨i,z,hi,hz,by simpa using hd,by simpa using h.symm⟩
   ·cases h
  ·cases h
 ·cases h
theorem Sp {v:Value} (h:v.oneCell'=true):v.cells = #[v]:=by cases v<;>simp [Value.oneCell'] at h<;>rfl
theorem It {a:AV} {v:Value} {l:List AV} (h:Rel C w a v) (hc:Kw a=some l):RelL C w l v.cells.toList:=by
 have one:jB a=true->l=[a]->RelL C w l v.cells.toList:=fun ho e=>by
  subst e;rw [Sp (JL h ho)];exact .cons _ _ _ _ h .nil
 unfold Kw at hc
 split at hc
 ·cases h with|agg _ vs hr=>simp at hc;subst hc;simpa [Value.cells] using hr
 ·split at hc
  ·rename_i ho;exact one ho (by simpa using hc.symm)
  ·cases hc
theorem Fm (l m:List AV) (off:Nat):EH l off m=l.take off++(m++l.drop (off+m.length)):=by simp [EH,F2,CS,Aa]
theorem RelL.paste {l m:List AV} {vs ws:List Value} (off:Nat) (h:RelL C w l vs) (h':RelL C w m ws):RelL C w (EH l off m) (vs.take off++(ws++vs.drop (off+ws.length))):=by
 rw [Fm,h'.len]
 exact (h.take _).append (h'.append (h.drop _))
theorem Pg (off:Nat):∀ (ws:List Value) (vs:Array Value) (n:Nat),off+n+ws.length<=vs.size ->
  (ws.zipIdx n).foldl (fun cs (c,j)=>cs.setIfInBounds (off+j) c) vs=⟨vs.toList.take (off+n)++(ws++vs.toList.drop (off+n+ws.length))⟩
 | [],vs,n,_=>by simp
 | u::ws,vs,n,h=>by
   simp only [List.zipIdx_cons,List.foldl_cons]
   simp at h
   rw [Pg off ws _ (n+1) (by simp;omega)]
   congr 1
   have hlt:off+n<vs.toList.length:=by simp;omega
   have e1:(vs.toList.set (off+n) u).take (off+(n+1))=vs.toList.take (off+n)++[u]:=by
    rw [show off+(n+1)=off+n+1 by omega,List.take_add_one,List.take_set_of_le (Nat.le_refl _),List.getElem?_set_self hlt];rfl
   have e2:(vs.toList.set (off+n) u).drop (off+(n+1)+ws.length)=vs.toList.drop (off+n+(ws.length+1)):=by
    rw [List.drop_set,if_pos (by omega)];congr 1;omega
   simp only [Array.toList_setIfInBounds,e1,e2,List.length_cons,List.append_assoc,List.cons_append,List.nil_append]
theorem Po {place:Nat->Option (Nat × Nat)} {cells:Array Value} {i off size:Nat} {v:Value} {rest:List (Nat × Value)} (hp:place i=some (off,size)) (hs:v.cells.size=size) (hl:off+size<=cells.size) :
  Instr.fill place cells ((i,v)::rest)=Instr.fill place ⟨cells.toList.take off++(v.cells.toList++cells.toList.drop (off+size))⟩ rest:=by
 have h:=Pg off v.cells.toList cells 0 (by simp;omega)
 have e:v.cells.zipIdx.foldl (fun cs (c,j)=>cs.setIfInBounds (off+j) c) cells=⟨cells.toList.take off++(v.cells.toList++cells.toList.drop (off+size))⟩:=by
  rw [<- Array.foldl_toList,Array.toList_zipIdx,h]
  simp [hs]
 rw [Instr.fill]
 simp only [hp,hs,ne_eq,not_true_eq_false,decide_false,Bool.false_or,decide_eq_true_eq]
 rw [if_neg (by omega),e]
inductive PRel (C:Cx) (w:World):List (Nat × AV)->List (Nat × Value)->Prop
 | nil:PRel C w [] []
 | cons (i:Nat) (a:AV) (v:Value) (l:List (Nat × AV)) (m:List (Nat × Value)) (h:Rel C w a v) (h':PRel C w l m):PRel C w ((i,a)::l) ((i,v)::m)
theorem Mp {size:Nat} {place:Nat->Option (Nat × Nat)} (hpl:∀ i,place i=some (i*size,size)):∀ (parts:List (Nat × AV)) (ps:List (Nat × Value)) (cs l:List AV) (vs:List Value),
  PRel C w parts ps->RelL C w cs vs->KV size cs parts=some l->∃ us,Instr.fill place ⟨vs⟩ ps=some ⟨us⟩/\RelL C w l us
 | [],_,cs,l,vs,.nil,hr,h=>by
   simp [KV] at h;subst h;exact ⟨vs,rfl,hr⟩
 | (i,a)::parts,(_,v)::ps,cs,l,vs,.cons _ _ _ _ _ ha hps,hr,h=>by
   simp only [KV,MN] at h
   split at h
   ·cases h
   ·rename_i m hm
    split at h
    ·rename_i hd
     simp at hd
     have hcr:=It ha hm
     have hlen:=hcr.len
     have hlen2:=hr.len
     obtain ⟨us,hf,hu⟩:=Mp hpl parts ps _ l _ hps (RelL.paste (i*size) hr hcr) h
     refine ⟨us,?_,hu⟩
     have hsz:v.cells.size=size:=by simp at hlen;omega
     rw [Po (hpl i) hsz (by simp;omega)]
     simpa [hsz] using hf
    ·cases h
theorem Sb {fs:List Field} {place:Nat->Option (Nat × Nat)} (hpl:∀ (i:Nat) (f:Field),fs[i]? = some f->place i=some (f.offset,A9 P f.type)):∀ (parts:List (Nat × AV)) (ps:List (Nat × Value)) (cs l:List AV) (vs:List Value),
  PRel C w parts ps->RelL C w cs vs->X_ P fs cs parts=some l->∃ us,Instr.fill place ⟨vs⟩ ps=some ⟨us⟩/\RelL C w l us
 | [],_,cs,l,vs,.nil,hr,h=>by
   simp [X_] at h;subst h;exact ⟨vs,rfl,hr⟩
 | (i,a)::parts,(_,v)::ps,cs,l,vs,.cons _ _ _ _ _ ha hps,hr,h=>by
   simp only [X_,MN] at h
   split at h
   ·cases h
   ·rename_i f hf
    split at h
    ·cases h
    ·rename_i m hm
     split at h
     ·rename_i hd _
      simp at hd
      have hcr:=It ha hm
      have hlen:=hcr.len
      have hlen2:=hr.len
      obtain ⟨us,hfl,hu⟩:=Sb hpl parts ps _ l _ hps (RelL.paste f.offset hr hcr) h
      refine ⟨us,?_,hu⟩
      have hsz:v.cells.size=A9 P f.type:=by simp at hlen;omega
      rw [Po (hpl i f hf) hsz (by simp;omega)]
      rw [<- hsz]
      simpa using hfl
     ·cases h
end
end Abs
end Go.Proofs.YtccgngldoinokaaGreat

namespace Go.Proofs.YtccgngldoinokaaGreat
namespace Abs
open Go Go.RowKit
section
variable {P:Program} {S:Sums} {C:Cx} {w:World} {H hp:A0}
def Free (C:Cx) (H hp new:A0):Prop:=∀ t,t<new.length->A3 H (hp.length+t)=A3 new t/\C.ρ (hp.length+t)=none
def Md (P:Program) (S:Sums) (C:Cx) (w:World) (H hp:A0) (m:Sem Value) (r:AR):Prop :=
 ∀ a new,PO S hp r a new->Free C H hp new->∃ v w' C',m.run P w=.ok v w'/\HR C' H w'/\Rel C' w' a v/\Grow hp.length new.length C w C' w'
theorem OZ (sz:Nat):∀ (k:Nat) (l:List AV),AZ sz l k=AW (AO l (k*sz)) sz
 | 0,l=>by simp [AZ,AO]
 | k+1,l=>by
   rw [AZ,OZ sz k,Aa,Aa,Aa,List.drop_drop,Nat.add_mul,Nat.one_mul,Nat.add_comm sz]
theorem Vd.md {m:Sem Value} {r:AR} (h:Vd P S C w hp m r) (hH:HR C H w):Md P S C w H hp m r:=fun a new hq _=>by
 obtain ⟨rfl,v,hr,ha⟩:=h a new hq
 exact ⟨v,w,C,hr,hH,ha,.refl _ _ _⟩
theorem Md.fail (m:Sem Value):Md P S C w H hp m .fail:=fun _ _ h=>h.fail_inv.elim
theorem Md.need {m:Sem Value} {p:Cd} {r:AR} (h:p.ok->Md P S C w H hp m r):Md P S C w H hp m (.need p r):=fun a new hq=>h hq.need_inv.1 a new hq.need_inv.2
theorem Kk {m:Sem Value} {b:Blk} {mk:Nat->AV} {v:Value} {cs:Array Value} {t:TypeId} {cap n:Nat} (hH:HR C H w) (hr:m.run P w=.ok v (w.alloc (.cells cs t)))
  (hb:∀ C',Cext C w C' (w.alloc (.cells cs t))->BRel C' (w.alloc (.cells cs t)) (.at w.heap.size cap n) b)
  (hv:∀ C' j,C'.ρ j=some (.at w.heap.size cap n)->Rel C' (w.alloc (.cells cs t)) (mk j) v):Md P S C w H hp m (.blk b mk):=fun a new hq hf=>by
 cases hq
 obtain ⟨hg,hn⟩:=hf 0 (by simp)
 simp [A3] at hg hn
 have hx:Cext C w (C.put hp.length (.at w.heap.size cap n)) (w.alloc (.cells cs t)):=(Grow.new C w hp.length cap n _).cext (fun i h1 h2=>(show i=hp.length by omega)▸hn) hH.ilt
 exact ⟨v,_,_,hr,hH.new hn (by rw [hg];exact hb _ hx),hv _ _ Cx.put_eq,Grow.new C w hp.length cap n _⟩
theorem uz {m:Sem Value} {e:TypeId} {sz:Nat} {q:LN} {el:Nat->List AV} (hH:HR C H w) (hr:m.run P w=.ok (.slice none 0 0) w) (hz:q.val=0) (hsz:0<sz) :
  Md P S C w H hp m (.blk (.row e sz q el) .row):=fun a new hq hf=>by
 cases hq
 obtain ⟨hg,hn⟩:=hf 0 (by simp)
 simp [A3] at hg hn
 exact ⟨_,_,_,hr,hH.newNil hn (by rw [hg];exact ⟨hz,hsz⟩),.rown _ Cx.put_eq,Grow.newNil C w hp.length⟩
theorem B2 (w:World) (cs:Array Value) (t:TypeId):(w.alloc (.cells cs t)).heap[w.heap.size]? = some (.cells cs t (0,0)):=J0 w _
theorem pP {t:TypeId} {x:AV} {v:Value} (hH:HR C H w) (h:Rel C w x v) {l:List AV} (hl:Kw x=some l) (hn:ownIn.ownInL l=false):Md P S C w H hp (Instr.box t v) (.val (.xp l)):=fun a new hq _=>by
 cases hq
 have hx:Cext C w ⟨C.ρ,fun b=>C.I b\/b=w.heap.size,C.O⟩ (w.alloc (.cells v.cells t)):=⟨fun _ _ h=>h,fun _ h=>.inl h,fun b hb=>heap_alloc w _ b (hH.ilt b hb)⟩
 refine ⟨.pointer (some ⟨w.heap.size,0,none⟩),w.alloc (.cells v.cells t),⟨C.ρ,fun b=>C.I b\/b=w.heap.size,C.O⟩,by simp [Instr.box,newVar,newRow],⟨fun i p hp=>?_,fun i j b c n b' c' n' h1 h2 hne=>hH.inj i j b c n b' c' n' h1 h2 hne,fun i b c n hp=>?_,fun b hb=>?_,fun b x hb=>?_⟩,?_,⟨rfl,rfl,rfl,by simp,fun k hk=>heap_alloc w _ k hk,fun _ h=>.inl h,fun b hb=>hb.imp id fun e=>by omega,fun _ _=>rfl,fun i b c m h1 h2=>(by simp at h2;omega),fun _=>rfl⟩⟩
 ·refine (hH.live i p hp).mono hx (fun q c m hq=>heap_alloc w _ q ?_) fun b x hb=>⟨hb,heap_alloc w _ b (hH.sub b x hb).1⟩
  subst hq;exact (hH.fresh i q c m hp).1
 ·have:=(hH.fresh i b c n hp)
  exact ⟨by simp;omega,fun hb=>hb.elim this.2 fun e=>by omega⟩
 ·rcases hb with hb|rfl
  ·have:=hH.ilt b hb;simp;omega
  ·simp
 ·obtain ⟨s1,s2,s3,s4⟩:=hH.sub b x hb
  exact ⟨by simp;omega,fun hb=>hb.elim s2 fun e=>by omega,s3,s4.keep (heap_alloc w _ b s1)⟩
 ·refine .xp l _ v.cells.toList ((It h hl).mono hx) (fun _=>.inr rfl) (fun j hj=>?_) hn
  rw [G9 (B2 w v.cells t)];simp
theorem v7 {t:TypeId} {x:AV} {v:Value} (hH:HR C H w) (h:Rel C w x v) :
  Md P S C w H hp (Instr.box t v) (match Kw x with
  | some l=>(match vv S.imm t with
    | true=>(match ownIn.ownInL l with
      | false=>.val (.xp l)
      | true=>.blk (.cells t l) (fun i=>.own i 0))
    | false=>.blk (.cells t l) (fun i=>.own i 0))
  | none=>.fail):=by
 split
 ·rename_i l hl
  have key:Md P S C w H hp (Instr.box t v) (.blk (.cells t l) (fun i=>.own i 0)):=by
   refine Kk (cs:=v.cells) (t:=t) (cap:=0) (n:=0) hH (by simp [Instr.box,newVar,newRow]) (fun C' hx=>?_) (fun C' j hj=>.own _ _ _ _ _ hj)
   exact ⟨v.cells.toList,(It h hl).mono hx,by simpa using B2 w v.cells t⟩
  split
  ·split
   ·rename_i hn
    exact pP hH h hl hn
   ·exact key
  ·exact key
 ·exact .fail _
theorem jS {t:TypeId} {old:Value} (hH:HR C H w):Md P S C w H hp (Instr.alloc t true old) (match FD P t with|some l=>.blk (.cells t l) (fun i=>.own i 0)|none=>.fail):=by
 split
 ·rename_i l hl
  obtain ⟨i,z,hi,hz,hsz,rfl⟩:=Dc hl
  refine Kk (cs:=z.cells) (t:=t) (cap:=0) (n:=0) (v:=.pointer (some ⟨w.heap.size,0,none⟩)) hH ?_ (fun C' hx=>?_) (fun C' j hj=>.own _ _ _ _ _ hj)
  ·simp [Instr.alloc,zeroValue,typeInfo,hi,hz,newVar,newRow]
  ·exact ⟨z.cells.toList,Gy _,by simpa using B2 w z.cells t⟩
 ·exact .fail _
theorem Su {t:TypeId} {n:Nat} {z:AV} (h:UV P t=some (n,z)):∃ e,P.underlying t=some (.array n e)/\15<n:=by
 unfold UV at h
 split at h
 ·rename_i m e hu
  split at h
  ·rename_i hlt hz
   injection h with h;injection h with h1 h2;subst h1 h2
   exact ⟨e,hu,Nat.le_of_ble_eq_true hlt⟩
  ·cases h
 ·cases h
theorem Ul {C:Cx} {w:World} {z0:Value} {n:Nat} {z:AV} (h:z0.cells.toList.map nA=List.replicate n z):z0.cells.size=n/\∀ j,j<n->∃ v,z0.cells[j]? = some v/\Rel C w z v:=by
 have hr:=Gy (C:=C) (w:=w) z0.cells.toList
 have hl:=congrArg List.length h
 simp at hl
 refine ⟨hl,fun j hj=>?_⟩
 rw [h] at hr
 obtain ⟨v,hv,hrel⟩:=hr.get (i:=j) (a:=z) (by simp [hj])
 exact ⟨v,by simpa using hv,hrel⟩
theorem eE {t:TypeId} {old:Value} {n:Nat} {z:AV} (hH:HR C H w) (hb:UV P t=some (n,z)) (hz:ZeroIs P (t,n,z)) :
  Md P S C w H hp (Instr.alloc t true old) (.blk (.mat t n (.lit 1) (fun _ _=>z)) (fun i=>.elt i n 0 0)):=by
 obtain ⟨e,hu,hn⟩:=Su hb
 obtain ⟨i,z0,hi,hz0,hsz,hl⟩:=Dc hz.zero
 refine Kk (cs:=z0.cells) (t:=t) (cap:=1) (n:=1) (v:=.pointer (some ⟨w.heap.size,0,none⟩)) hH ?_ (fun C' hx=>?_) (fun C' j hj=>by simpa using Rel.elt j n 0 0 w.heap.size 1 1 hj (by decide))
 ·simp [Instr.alloc,zeroValue,typeInfo,hi,hz0,newVar,newRow]
 ·obtain ⟨g1,g2⟩:=Ul (C:=C') (w:=w.alloc (.cells z0.cells t)) hl.symm
  have g1:z0.cells.size=n:=g1
  refine ⟨rfl,Nat.le_refl _,⟨by omega,by decide⟩,z0.cells,B2 w z0.cells t,by omega,fun k hk j hj=>⟨hz.ok,?_⟩⟩
  obtain rfl:k=0:=by omega
  obtain ⟨v,h1,h2⟩:=g2 j hj
  exact ⟨v,by simpa using h1,h2⟩
theorem eD {t:TypeId} {old:Value} (hS:∀ t ks,AL S.eqs t=some ks->EqOK P t ks) (hH:HR C H w):Md P S C w H hp (Instr.alloc t true old) (match UV P t with
  | some (n,z)=>(match kG S t with|true=>.blk (.mat t n (.lit 1) (fun _ _=>z)) (fun i=>.elt i n 0 0)|false=>.fail)
  | none=>(match FD P t with|some l=>.blk (.cells t l) (fun i=>.own i 0)|none=>.fail)):=by
 split
 ·rename_i n z hb
  split
  ·rename_i hz;exact eE hH hb (cE hS hz hb)
  ·exact .fail _
 ·exact jS hH
theorem IY {ρ:Operand->AV} {σ:Operand->Value}:∀ (l:List (Nat × Operand)),(∀ x∈l,Rel C w (ρ x.2) (σ x.2))->PRel C w (Kb ρ l) (l.map fun (i,x)=>(i,σ x))
 | [],_=>.nil
 | (i,o)::l,h=>.cons _ _ _ _ _ (h (i,o) (by simp)) (IY l fun x hx=>h x (by simp [hx]))
theorem OT (w:World):∀ (fs:List Field),fs.all (fun f=>(P.info? f.type).isSome)=true ->
  (fs.mapM fun f=>Prod.mk f.offset <$> sizeOf f.type).run P w=.ok (fs.map fun f=>(f.offset,A9 P f.type)) w
 | [],_=>by simp
 | f::fs,h=>by
   simp only [List.all_cons,Bool.and_eq_true] at h
   obtain ⟨i,hi⟩:=Option.isSome_iff_exists.1 h.1
   simp [List.mapM_cons,BP hi,OT w fs h.2]
theorem gN {t:TypeId} {parts:Array (Nat × Value)} {ps:List (Nat × AV)} (h:PRel C w ps parts.toList):Vd P S C w hp (Instr.build t parts) (Z6 P t ps):=by
 unfold Z6
 split
 ·rename_i z fs hz hu
  obtain ⟨i,z0,hi,hz0,hsz,rfl⟩:=Dc hz
  split
  ·rename_i l hall hl
   obtain ⟨us,hf,hr⟩:=Sb (place:=fun k=>(fs.toList.map fun f=>(f.offset,A9 P f.type))[k]?) (fun k f hk=>by simp [hk]) ps _ _ l _ h (Gy (C:=C) (w:=w) z0.cells.toList) hl
   refine .val ?_ (.agg _ _ hr)
   have hpl:=OT (P:=P) w fs.toList hall
   generalize (fs.toList.map fun f=>(f.offset,A9 P f.type))=places at hf hpl
   have hf':Instr.fill (fun x=>places[x]?) z0.cells parts.toList=some ⟨us⟩:=hf
   simp [Instr.build,zeroValue,typeInfo,hi,hz0,run_underlying hu,Array.mapM_eq_mapM_toList,hpl,hf']
  ·exact .fail _
 ·rename_i z n e hz hu
  obtain ⟨i,z0,hi,hz0,hsz,rfl⟩:=Dc hz
  split
  ·exact .fail _
  ·rename_i s hs
   obtain ⟨ie,hie⟩:=B0 hs
   have hsz:=BP hie w
   rw [hs] at hsz
   split
   ·rename_i l hl
    obtain ⟨us,hf,hr⟩:=Mp (size:=s+1) (place:=fun i=>some (i*(s+1),s+1)) (fun _=>rfl) ps _ _ l _ h (Gy (C:=C) (w:=w) z0.cells.toList) hl
    refine .val ?_ (.agg _ _ hr)
    have hf':Instr.fill (fun i=>some (i*(s+1),s+1)) z0.cells parts.toList=some ⟨us⟩:=hf
    simp [Instr.build,zeroValue,typeInfo,hi,hz0,run_underlying hu,hsz,hf']
   ·exact .fail _
 ·exact .fail _
theorem VM (zs:List Value):∀ n,RelL C w (TZ (zs.map nA) n) (List.replicate n zs).flatten
 | 0=>.nil
 | n+1=>by
   simp only [TZ,F2,List.replicate_succ,List.flatten_cons]
   exact (Gy zs).append (VM zs n)
theorem ij (zs:Array Value) (n:Nat) (hz:0<zs.size):((Array.range (n*zs.size)).map (fun i=>zs[i % zs.size]!)).toList=(List.replicate n zs.toList).flatten:=by
 induction n with
 | zero=>simp
 | succ n ih =>
   apply List.ext_getElem?
   intro k
   have hfl:(List.replicate n zs.toList).flatten.length=n*zs.size:=by simp
   rw [List.replicate_succ',List.flatten_append]
   by_cases hk:k<n*zs.size
   ·rw [List.getElem?_append_left (by rw [hfl];exact hk),<- ih]
    have h2:k<(n+1)*zs.size:=by rw [Nat.add_mul];omega
    simp [hk,h2]
   ·rw [List.getElem?_append_right (by rw [hfl];omega),hfl]
    simp only [List.flatten_cons,List.flatten_nil,List.append_nil,Array.getElem?_toList]
    by_cases h2:k<(n+1)*zs.size
    ·have h3:k-n*zs.size<zs.size:=by rw [Nat.add_mul] at h2;omega
     have h4:k % zs.size=k-n*zs.size:=by
      have:k=(k-n*zs.size)+n*zs.size:=by omega
      rw [this,Nat.add_mul_mod_self_right,Nat.mod_eq_of_lt h3];omega
     simp [h2,h3,h4]
    ·have h3:¬ k-n*zs.size<zs.size:=by rw [Nat.add_mul] at h2;omega
     simp [h2];omega
theorem fI {l:List AV} {vs:List Value} (h:RelL C w l vs) (k s:Nat):RelL C w (AW (AO l (k*s)) s) ((vs.drop (k*s)).take s):=by
 rw [CS,Aa];exact (h.drop _).take _
theorem Ox (n:Nat):∀ {l:List AV},DV l=true->DV (l.drop n)=true:=by
 induction n with
 | zero=>intro l h;simpa using h
 | succ n ih=>intro l h;cases l with
   | nil=>simpa using h
   | cons a l=>simp [DV] at h;simpa using ih h.2
theorem Ow (n:Nat):∀ {l:List AV},DV l=true->DV (l.take n)=true:=by
 induction n with
 | zero=>intro l _;simp [DV]
 | succ n ih=>intro l h;cases l with
   | nil=>simpa using h
   | cons a l=>simp [DV] at h;simp [DV,h.1,ih h.2]
theorem Sc {size:Nat}:∀ (parts:List (Nat × AV)) (cs l:List AV),KV size cs parts=some l->l.length=cs.length
 | [],cs,l,h=>by simp [KV] at h;rw [h]
 | (i,a)::parts,cs,l,h=>by
   simp only [KV,MN] at h
   split at h
   ·cases h
   ·split at h
    ·rename_i m hm hd
     simp at hd
     rw [Sc parts _ _ h,Fm]
     simp;omega
    ·cases h
theorem VN (zs:List AV):∀ n,(TZ zs n).length=n*zs.length
 | 0=>by simp [TZ]
 | n+1=>by simp [TZ,F2,VN zs n,Nat.add_mul,Nat.add_comm]
theorem KQ {t:TypeId} {n:Nat} {parts:Array (Nat × Value)} {ps:List (Nat × AV)} (hH:HR C H w) (h:PRel C w ps parts.toList) (d:Nat) (hno:rowIn.rowInL (ps.map (·.2))=none) :
  Md P S C w H hp (Instr.buildSlice t n parts) (CW P hp t n (d+1) ps):=by
 unfold CW
 simp only [hno]
 split
 ·rename_i e hu
  split
  ·rename_i zz s hz hd hs
   obtain ⟨i,z0,hi,hz0,hsz,rfl⟩:=Dc hz
   have hszT:A9 P e=i.size:=by simp [A9,hi]
   have hzs:z0.cells.size=s+1:=by omega
   have hle:n*(s+1)<=1000:=by simpa [hs] using hd
   have hr0:RelL C w (TZ (z0.cells.toList.map nA) n) (List.replicate n z0.cells.toList).flatten:=VM _ n
   cases hfl:KV (s+1) (TZ (z0.cells.toList.map nA) n) ps with
   | none=>exact .fail _
   | some l =>
     obtain ⟨us,hf,hr⟩:=Mp (size:=s+1) (place:=fun i=>some (i*(s+1),s+1)) (fun _=>rfl) ps _ _ l _ h hr0 hfl
     have hlen:us.length=n*(s+1):=by rw [<- hr.len,Sc _ _ _ hfl,VN];simp [hzs]
     have hf':Instr.fill (fun i=>some (i*(s+1),s+1)) ⟨(List.replicate n z0.cells.toList).flatten⟩ parts.toList=some ⟨us⟩:=hf
     have hrun:(Instr.buildSlice t n parts).run P w=.ok (.slice (some ⟨w.heap.size,0,none⟩) n n) (w.alloc (.cells ⟨us⟩ e)):=by
      have h24:¬ n*(s+1) > 2 ^ 24:=by omega
      by_cases hn:n=0
      ·subst hn
       simp at hf'
       have e0:Array.map (fun _:Nat=>(default:Value)) (Array.range 0) = #[]:=by rw [Array.range_zero'];simp
       simp [Instr.buildSlice,run_underlying hu,sizeOf,typeInfo,hi,<- hszT,hs,newRow,e0,hf']
      ·have hpos:n*(s+1)≠0:=Nat.mul_ne_zero hn (Nat.succ_ne_zero _)
       have hrr:=ij z0.cells n (by omega)
       have hrr':(Array.range (n*(s+1))).map (fun i=>z0.cells[i % (s+1)]!)=⟨(List.replicate n z0.cells.toList).flatten⟩:=by
        rw [<- hzs];apply Array.ext';rw [hrr]
       simp only [Instr.buildSlice,Sem.run_bind,run_underlying hu,Result.andThen_ok,sizeOf,typeInfo,run_program,hi,Sem.run_pure,<- hszT,hs,Nat.succ_eq_add_one,h24,hpos,if_false,zeroValue,hz0,hzs,hrr',hf',newRow]
       simp
     simp only
     cases hok:DV l with
     | true =>
       rw [show AZ (s+1) l=(fun k=>AW (AO l (k*(s+1))) (s+1)) from funext fun k=>OZ _ k l]
       refine Kk (cs:=⟨us⟩) (t:=e) (cap:=n) (n:=n) hH hrun (fun C' hx=>?_) (fun C' j hj=>.row _ _ _ _ hj)
       refine ⟨rfl,Nat.le_refl _,⟨Nat.succ_pos _,by have:n*1<=n*(s+1):=Nat.mul_le_mul_left _ (by omega);simp only [maxLen];omega⟩,⟨us⟩,fun k=>(us.drop (k*(s+1))).take (s+1),B2 _ _ _,by simp [hlen],fun k hk=>⟨(fI hr k (s+1)).mono hx,?_,?_,?_⟩⟩
       ·show DV (AW (AO l (k*(s+1))) (s+1))=true
        rw [CS,Aa];exact Ow _ (Ox _ hok)
       ·have:(k+1)*(s+1)<=n*(s+1):=Nat.mul_le_mul_right _ hk
        rw [Nat.add_mul] at this
        simp [hlen];omega
       ·intro j hj
        simp [hj,List.getElem?_drop]
     | false =>
       refine Kk (cs:=⟨us⟩) (t:=e) (cap:=0) (n:=0) hH hrun (fun C' hx=>⟨us,hr.mono hx,B2 _ _ _⟩) (fun C' j hj=>.lsl _ _ _ _ _ _ hj)
  ·exact .fail _
 ·exact .fail _
end
end Abs
end Go.Proofs.YtccgngldoinokaaGreat

namespace Go.Proofs.YtccgngldoinokaaGreat
namespace Abs
open Go Go.RowKit
section
variable {P:Program} {S:Sums} {C:Cx} {w:World} {H hp:A0}
def G6 (vs:Nat->List Value) (m:Nat):List Value:=(List.range m).flatMap vs
theorem K7 (vs:Nat->List Value) (m:Nat):G6 vs (m+1)=G6 vs m++vs m:=by simp [G6,List.range_succ]
theorem IA {vs:Nat->List Value} {m sz:Nat} (h:∀ k,k<m->(vs k).length=sz):(G6 vs m).length=m*sz:=by
 induction m with
 | zero=>simp [G6]
 | succ m ih=>rw [K7,List.length_append,ih (fun k hk=>h k (by omega)),h m (by omega),Nat.add_mul,Nat.one_mul]
theorem Jg {vs:Nat->List Value} {m sz:Nat} (h:∀ k,k<m->(vs k).length=sz) {k j:Nat} (hk:k<m) (hj:j<sz):(G6 vs m)[k*sz+j]? = (vs k)[j]?:=by
 induction m with
 | zero=>omega
 | succ m ih =>
   rw [K7]
   have hl:=IA (vs:=vs) (m:=m) (fun k hk=>h k (by omega))
   by_cases hkm:k<m
   ·have:(k+1)*sz<=m*sz:=Nat.mul_le_mul_right _ hkm
    rw [Nat.add_mul] at this
    rw [List.getElem?_append_left (by omega)]
    exact ih (fun k hk=>h k (by omega)) hkm
   ·obtain rfl:k=m:=by omega
    rw [List.getElem?_append_right (by omega),hl,Nat.add_sub_cancel_left]
theorem Ph {vs:Nat->List Value} {m:Nat} {p:Value->Prop} (h:∀ k,k<m->∀ u∈vs k,p u):∀ u∈G6 vs m,p u:=by
 intro u hu
 simp [G6] at hu
 obtain ⟨k,hk,hu⟩:=hu
 exact h k hk u hu
theorem KB {m sz j:Nat} (hsz:0<sz) (h:j<m*sz):∃ k r,k<m/\r<sz/\j=k*sz+r :=
 ⟨j / sz,j % sz,(Nat.div_lt_iff_lt_mul hsz).2 h,Nat.mod_lt _ hsz,by rw [Nat.mul_comm];exact (Nat.div_add_mod j sz).symm⟩
theorem VT {a:AV} {v:Value} {m:LN} {sz:Nat} {el:Nat->List AV} (hH:HR C H w) (hpre:Pre hp H) (h:Rel C w a v) (hr:NF hp a=some (m,sz,el)) :
  ∃ (A:Option Addr) (c:Nat) (vs:Nat->List Value),v=.slice A m.val c/\m.val<=c/\(0<m.val->∃ ad,A=some ad/\ad.block<w.heap.size/\∀ k,k<m.val->∀ j,j<sz->w.cell? (ad.add (k*sz+j))=(vs k)[j]?) /\
    ∀ k,k<m.val->RelL C w (el k) (vs k)/\DV (el k)=true/\(vs k).length=sz:=by
 unfold NF at hr
 split at hr
 ·rename_i j
  split at hr
  ·rename_i n sz' el' hb
   simp at hr
   obtain ⟨rfl,rfl,rfl⟩:=hr
   obtain ⟨hlt,hB⟩:=hpre.old hb (by simp)
   cases h with
   | row _ bl c q hρ =>
     have hl:=hH.live _ _ hρ
     rw [hB] at hl
     obtain ⟨hm,hcap,hs0,cs,vs,hh,hsz,hcell⟩:=hl
     refine ⟨_,c,vs,by rw [hm],by omega,fun _=>⟨_,rfl,(hH.fresh _ _ _ _ hρ).1,fun k hk j hj=>?_⟩,fun k hk=>?_⟩
     ·rw [Dt,hm] at *
      have:=(hcell k hk).2.2.2 j hj
      rw [<- this];simp [World.cell?,hh]
     ·rw [hm] at hk;exact ⟨(hcell k hk).1,(hcell k hk).2.1,(hcell k hk).2.2.1⟩
   | rown _ hρ =>
     have hl:=hH.live _ _ hρ
     rw [hB] at hl
     obtain ⟨h0,_⟩:sz'.val=0/\_:=hl
     exact ⟨none,0,fun _=>[],by rw [h0],by omega,fun h0=>by omega,fun k hk=>by omega⟩
  ·cases hr
 ·simp at hr
  obtain ⟨rfl,rfl,rfl⟩:=hr
  cases h with
  | slc _ _ _ A cap vs hcap hA hrl hl hn =>
    refine ⟨A,cap,vs,rfl,hcap,fun h0=>?_,fun k hk=>⟨hrl k hk,hn k hk,hl k hk⟩⟩
    obtain ⟨ad,rfl,hI,hc⟩:=hA h0
    exact ⟨ad,rfl,hH.ilt _ hI,hc⟩
 ·cases hr
theorem Im {w':World} {j cap n:Nat} {g:Nat} (hg:w.grownBy w' none) (hge:w.heap.size<=g):Grow j 1 C w (C.put j (.at g cap n)) w' :=
 ⟨hg.os,hg.tape,hg.output,hg.size,fun k hk=>hg.block k hk (by simp),fun _ h=>h,fun _ h=>.inl h,fun i hi=>Cx.put_ne (by omega),
  fun i b c m h1 h2 h=>(by
   obtain rfl:i=j:=by omega
   rw [Cx.put_eq] at h;injection h with h;injection h with h;omega),fun _=>rfl⟩
theorem HR.newAt (h:HR C H w) {w':World} {j g cap n:Nat} (hj:C.ρ j=none) (hg:w.grownBy w' none) (hge:w.heap.size<=g) (hlt:g<w'.heap.size)
  (hb:BRel (C.put j (.at g cap n)) w' (.at g cap n) (A3 H j)):HR (C.put j (.at g cap n)) H w':=by
 have hx:Cext C w (C.put j (.at g cap n)) w':=(Im (C:=C) (j:=j) (cap:=cap) (n:=n) hg hge).cext (fun i h1 h2=>(show i=j by omega)▸hj) h.ilt
 refine ⟨fun i p hp=>?_,fun i i' b c m b' c' m' hp hp' hne=>?_,fun i b c m hp=>?_,fun b hb=>Nat.lt_of_lt_of_le (h.ilt b hb) hg.size,fun b x hb=>?_⟩
 ·by_cases hi:i=j
  ·subst hi;rw [Cx.put_eq] at hp;injection hp with hp;subst hp;exact hb
  ·rw [Cx.put_ne hi] at hp
   refine (h.live i p hp).mono hx (fun q c m hq=>hg.block q ?_ (by simp)) fun b x hb=>⟨hb,hg.block b (h.sub b x hb).1 (by simp)⟩
   subst hq;exact (h.fresh i q c m hp).1
 ·by_cases hi:i=j
  ·by_cases hi':i'=j
   ·omega
   ·subst hi;rw [Cx.put_eq] at hp;rw [Cx.put_ne hi'] at hp'
    injection hp with hp;injection hp with hp _ _
    have:=(h.fresh _ _ _ _ hp').1;omega
  ·rw [Cx.put_ne hi] at hp
   by_cases hi':i'=j
   ·subst hi';rw [Cx.put_eq] at hp'
    injection hp' with hp';injection hp' with hp' _ _
    have:=(h.fresh _ _ _ _ hp).1;omega
   ·rw [Cx.put_ne hi'] at hp';exact h.inj _ _ _ _ _ _ _ _ hp hp' hne
 ·by_cases hi:i=j
  ·subst hi;rw [Cx.put_eq] at hp;injection hp with hp;injection hp with hp _ _
   subst hp
   exact ⟨hlt,fun hI=>by have:=h.ilt _ hI;omega⟩
  ·rw [Cx.put_ne hi] at hp
   exact ⟨Nat.lt_of_lt_of_le (h.fresh _ _ _ _ hp).1 hg.size,(h.fresh _ _ _ _ hp).2⟩
 ·obtain ⟨s1,s2,s3,s4⟩:=h.sub b x hb
  refine ⟨Nat.lt_of_lt_of_le s1 hg.size,s2,fun i b' c m hp=>?_,s4.keep (hg.block b s1 (by simp))⟩
  by_cases hi:i=j
  ·subst hi;rw [Cx.put_eq] at hp;injection hp with hp;injection hp with hp _ _
   omega
  ·rw [Cx.put_ne hi] at hp;exact s3 i b' c m hp
theorem Vc {w':World} {C':Cx} {base:Nat} {e:TypeId} {sz g n cap:Nat} {m:LN} {el:Nat->List AV} {vs:Nat->List Value} (hsz:0<sz) (hm:m.val=n)
  (ho:w'.ownsRow base e sz (.slice (some ⟨g,0,none⟩) n cap) n (G6 vs n)) (hv:∀ k,k<n->RelL C' w' (el k) (vs k)/\DV (el k)=true/\(vs k).length=sz):BRel C' w' (.at g cap n) (.row e sz m el):=by
 obtain ⟨hl,h|⟨g',cap',cur,hs,hbase,hh,hn,hmx,hcs,htk⟩⟩:=ho
 ·cases h.1
 ·injection hs with h1 h2 h3
  injection h1 with h1;injection h1 with h1
  subst h1 h3
  refine ⟨hm,hn,⟨hsz,hmx⟩,cur,vs,hh,hcs,fun k hk=>⟨(hv k hk).1,(hv k hk).2.1,(hv k hk).2.2,fun j hj=>?_⟩⟩
  rw [<- Jg (fun k hk=>(hv k hk).2.2) hk hj,<- htk]
  have:(k+1)*sz<=n*sz:=Nat.mul_le_mul_right _ hk
  rw [Nat.add_mul] at this
  rw [List.getElem?_take,if_pos (by omega)];simp
theorem M9 {a b:Nat} (h:a*(b+1)<=CV):a<=maxLen/\a*b<=140737488355328:=by
 have h1:a*(b+1)=a*b+a:=by rw [Nat.mul_add,Nat.mul_one]
 simp only [CV] at h
 simp only [maxLen]
 omega
theorem U5 {t ty e:TypeId} {x:AV} {v:Value} {m:LN} {sz:Nat} {el:Nat->List AV} (hH:HR C H w) (hpre:Pre hp H) (ht:P.underlying t=some (.slice e)) (h:Rel C w x v)
  (hr:NF hp x=some (m,sz,el)) (hsz:sz=A9 P e) (hpos:0<sz) {z:List AV} (hz:FD P e=some z) (hb:m.val*(DJ P e+1)<=CV) :
  Md P S C w H hp (Builtin.append_ #[t,t] ty #[.slice none 0 0,v]) (.blk (.row e sz m el) .row):=by
 obtain ⟨A,c,vs,rfl,hcap,hA,hel⟩:=VT hH hpre h hr
 obtain ⟨i,z0,hi,hz0,hzs,rfl⟩:=Dc hz
 have hszi:i.size=sz:=by rw [hsz];simp [A9,hi]
 have hby:i.bytes=DJ P e:=by simp [DJ,hi]
 rcases Nat.eq_zero_or_pos m.val with h0|h0
 ·refine uz hH ?_ h0 hpos
  cases A with
  | none=>rw [h0];simp [Builtin.append_,run_underlying ht,sizeOf,typeInfo,hi,Builtin.lenOf,Builtin.firstCells]
  | some ad=>rw [h0];simp [Builtin.append_,run_underlying ht,sizeOf,typeInfo,hi,Builtin.lenOf,Builtin.firstCells,loadCells,loadCellsFrom]
 ·obtain ⟨ad,rfl,hlt,hc⟩:=hA h0
  have hl:=IA (fun k hk=>(hel k hk).2.2)
  obtain ⟨hb1,hb2⟩:=M9 hb
  intro a new hq hf
  cases hq
  obtain ⟨hg,hn⟩:=hf 0 (by simp)
  simp [A3] at hg hn
  obtain ⟨v',w',hrun,hown,hgrow,hnil,hat⟩:=run_append_own_at (P:=P) w w.heap.size t ty e i z0 sz (DJ P e) ht hi hz0 hszi hby (by omega) hpos
   (.slice none 0 0) 0 [] ⟨by simp,.inl ⟨rfl,rfl⟩⟩ ad m.val c (G6 vs m.val) hl
   (fun j u hj=>by
    have hjl:j<m.val*sz:=by rw [<- hl];exact (List.getElem?_eq_some_iff.1 hj).1
    obtain ⟨k,r,hk,hr',rfl⟩:=KB hpos hjl
    rw [hc k hk r hr',<- Jg (fun k hk=>(hel k hk).2.2) hk hr',hj])
   (Ph fun k hk u hu=>Nj (hel k hk).1 (hel k hk).2.1 u hu) (by omega) (by simpa using hb2) (Nat.le_refl _)
  simp at hown
  have hown':=hown
  obtain ⟨_,hn0|⟨g,cap,cur,hv,hge,hh,_⟩⟩:=hown
  ·omega
  ·subst hv
   have hlt':g<w'.heap.size:=by
    rcases Nat.lt_or_ge g w'.heap.size with h|h
    ·exact h
    ·rw [Array.getElem?_eq_none h] at hh;cases hh
   have hx:Cext C w (C.put hp.length (.at g cap m.val)) w':=(Im (C:=C) (j:=hp.length) (cap:=cap) (n:=m.val) hgrow hge).cext (fun i h1 h2=>(show i=hp.length by omega)▸hn) hH.ilt
   exact ⟨_,w',_,hrun,hH.newAt hn hgrow hge hlt' (by rw [hg];exact Vc hpos rfl hown' fun k hk=>⟨(hel k hk).1.mono hx,(hel k hk).2⟩),
    .row _ _ _ _ Cx.put_eq,Im hgrow hge⟩
end
end Abs
end Go.Proofs.YtccgngldoinokaaGreat

namespace Go.Proofs.YtccgngldoinokaaGreat
namespace Abs
open Go Go.RowKit
section
variable {P:Program} {S:Sums} {C:Cx} {w:World} {H hp:A0}
theorem WQ (z:Array Value) (c:Nat) {k j:Nat} (_hz:0<z.size) (hk:k<c) (hj:j<z.size):(madeCells z (c*z.size))[k*z.size+j]? = z[j]?:=by
 have h1:(k+1)*z.size<=c*z.size:=Nat.mul_le_mul_right _ hk
 rw [Nat.add_mul] at h1
 have h2:k*z.size+j<c*z.size:=by omega
 have h3:(k*z.size+j) % z.size=j:=by rw [Nat.add_comm,Nat.add_mul_mod_self_right,Nat.mod_eq_of_lt hj]
 simp [madeCells,h2,h3,hj]
theorem bC {t e:TypeId} {z:List AV} {q:LN} {kl kc:IntKind} {l c:Int} (hH:HR C H w) (ht:P.underlying t=some (.slice e)) (hz:FD P e=some z) (hok:DV z=true) (hs:0<A9 P e)
  (h0:0<=l) (hlc:l<=c) (hb:c*(DJ P e+1)<=CV) (hq:(q.val:Int)=l) :
  Md P S C w H hp (Instr.makeSlice t (.int kl l) (.int kc c)) (.blk (.row e (A9 P e) q (fun _=>z)) .row):=by
 obtain ⟨i,z0,hi,hz0,hzs,rfl⟩:=Dc hz
 have hszi:i.size=A9 P e:=by simp [A9,hi]
 have hby:i.bytes=DJ P e:=by simp [DJ,hi]
 obtain ⟨cn,rfl⟩:=Int.eq_ofNat_of_zero_le (Int.le_trans h0 hlc)
 obtain ⟨ln,rfl⟩:=Int.eq_ofNat_of_zero_le h0
 have hb':cn*(DJ P e+1)<=CV:=by
  have:((cn*(DJ P e+1):Nat):Int)<=(CV:Nat):=by simpa using hb
  omega
 obtain ⟨h1,h2⟩:=M9 hb'
 have h3:(i.bytes:Int)*(cn:Int)<=281474976710656:=by
  have:((i.bytes*cn:Nat):Int)<=281474976710656:=by rw [hby,Nat.mul_comm];omega
  simpa using this
 have hrun:=run_make (P:=P) w t e i z0 ht hi hz0 kl kc ln cn h0 hlc h3 (by simp only [maxLen] at h1;omega)
 simp only [Int.toNat_natCast] at hrun
 refine Kk (cap:=cn) (n:=ln) hH hrun (fun C' hx=>?_) (fun C' j hj=>.row _ _ _ _ hj)
 refine ⟨by omega,by omega,⟨hs,h1⟩,_,fun _=>z0.cells.toList,B2 _ _ _,by rw [size_madeCells,hszi],fun k hk=>⟨Gy _,hok,by simp;omega,fun j hj=>?_⟩⟩
 rw [<- hszi,<- hzs,WQ _ _ (by omega) (by omega) (by omega)];simp
theorem jR {t e:TypeId} {wd:Nat} {z:AV} {q:LN} {kl kc:IntKind} {l c:Int} (hH:HR C H w) (ht:P.underlying t=some (.slice e)) (hz:ZeroIs P (e,wd,z)) (hs:0<wd)
  (h0:0<=l) (hlc:l<=c) (hb:c*(DJ P e+1)<=CV) (hq:(q.val:Int)=l) :
  Md P S C w H hp (Instr.makeSlice t (.int kl l) (.int kc c)) (.blk (.mat e wd q (fun _ _=>z)) .row):=by
 obtain ⟨i,z0,hi,hz0,hzs,hl⟩:=Dc hz.zero
 have hby:i.bytes=DJ P e:=by simp [DJ,hi]
 obtain ⟨cn,rfl⟩:=Int.eq_ofNat_of_zero_le (Int.le_trans h0 hlc)
 obtain ⟨ln,rfl⟩:=Int.eq_ofNat_of_zero_le h0
 have hb':cn*(DJ P e+1)<=CV:=by
  have:((cn*(DJ P e+1):Nat):Int)<=(CV:Nat):=by simpa using hb
  omega
 obtain ⟨h1,h2⟩:=M9 hb'
 have h3:(i.bytes:Int)*(cn:Int)<=281474976710656:=by
  have:((i.bytes*cn:Nat):Int)<=281474976710656:=by rw [hby,Nat.mul_comm];omega
  simpa using this
 have hrun:=run_make (P:=P) w t e i z0 ht hi hz0 kl kc ln cn h0 hlc h3 (by simp only [maxLen] at h1;omega)
 simp only [Int.toNat_natCast] at hrun
 refine Kk (cap:=cn) (n:=ln) hH hrun (fun C' hx=>?_) (fun C' j hj=>.row _ _ _ _ hj)
 obtain ⟨g1,g2⟩:=Ul (C:=C') (w:=w.alloc (.cells (madeCells z0.cells (cn*i.size)) e)) hl.symm
 have g1:z0.cells.size=wd:=g1
 refine ⟨by omega,by omega,⟨hs,h1⟩,_,B2 _ _ _,by rw [size_madeCells,<- hzs,g1],fun k hk j hj=>⟨hz.ok,?_⟩⟩
 obtain ⟨v,e1,e2⟩:=g2 j hj
 refine ⟨v,?_,e2⟩
 rw [<- hzs,<- g1,WQ _ _ (by omega) (by omega) (by omega)]
 exact e1
theorem EP {t e:TypeId} {n:LN} {sz:Nat} {el:Nat->List AV} {A:Option Addr} {nn cap:Nat} {lo hi:Option Value} {l h:Nat} {m:LN} (ht:P.underlying t=some (.slice e)) (hsz:sz=A9 P e) {ie:TypeInfo} (hie:P.info? e=some ie)
  (hx:Rel C w (.slc n sz el) (.slice A nn cap)) (AQ:(lo=none/\l=0)\/∃ k,lo=some (.int k l)) (mN:(hi=none/\h=n.val)\/∃ k,hi=some (.int k h)) (h1:l<=h) (h2:h<=n.val) (hm:m.val=h-l) :
  Vd P S C w hp (Instr.sliceAt t (.slice A nn cap) lo hi none) (.val (.slc m sz (fun k=>el (l+k)))):=by
 generalize hv:Value.slice A nn cap=v at hx
 cases hx with
 | slc _ _ _ A' cap' vs hcap hA hr hl hn =>
   injection hv with e1 e2 e3
   subst e1 e2 e3
   have hsz':=BP hie w
   have hrun:(Instr.sliceAt t (.slice A n.val cap) lo hi none).run P w=.ok (.slice (if cap=l then A else A.map (·.add (l*sz))) (h-l) (cap-l)) w:=by
    have b1:∀ k,(Instr.sliceBound (.int k (h:Nat)) cap .sliceAcap).run P w=.ok h w:=fun k=>by
     simp [Instr.sliceBound,asIntOf,show h<=cap by omega]
    have b2:∀ k,(Instr.sliceBound (.int k (l:Nat)) h .sliceB).run P w=.ok l w:=fun k=>by
     simp [Instr.sliceBound,asIntOf,h1]
    rcases AQ with ⟨rfl,rfl⟩|⟨k,rfl⟩<;>rcases mN with ⟨rfl,rfl⟩|⟨k',rfl⟩ <;>
     simp [Instr.sliceAt,Instr.slice,run_underlying ht,Instr.sliceBounds,hsz',hsz,b1,b2]
   refine .val hrun ?_
   rw [<- hm]
   refine .slc _ _ _ _ _ (fun k=>vs (l+k)) (by omega) (fun h0=>?_) (fun k hk=>hr _ (by omega)) (fun k hk=>hl _ (by omega)) (fun k hk=>hn _ (by omega))
   obtain ⟨ad,rfl,hI,hc⟩:=hA (by omega)
   rw [if_neg (by omega)]
   refine ⟨_,rfl,by rw [BH];exact hI,fun k hk j hj=>?_⟩
   rw [HW,<- Nat.add_assoc,<- Nat.add_mul]
   exact hc (l+k) (by omega) j hj
theorem Uq {t e:TypeId} {n s:Nat} {l:List AV} {v:Value} (ht:P.underlying t=some (.array n e)) (hs:A9 P e=s+1) (hx:Rel C w (.xp l) v) (hle:n*(s+1)<=l.length) (ho:DV (AW l (n*(s+1)))=true) :
  Vd P S C w hp (Instr.sliceAt t v none none none) (.val (.slc (.lit n) (s+1) (AZ (s+1) l))):=by
 obtain ⟨ie,hie⟩:∃ ie,P.info? e=some ie:=B0 hs
 cases hx with
 | xp _ ad vs hr hI hc hn =>
   have hrun:(Instr.sliceAt t (.pointer (some ad)) none none none).run P w=.ok (.slice (some ad) n n) w:=by
    simp [Instr.sliceAt,run_underlying ht,Instr.sureAddr,Instr.sliceBounds,sizeOf,typeInfo,hie]
    intro _
    cases ad
    simp [Addr.add]
   have hlen:=hr.len
   have hb:∀ k,k<n->k*(s+1)+(s+1)<=n*(s+1):=fun k hk=>by
    have:=Nat.mul_le_mul_right (s+1) (show k+1<=n from hk)
    rw [Nat.succ_mul] at this
    exact this
   rw [show AZ (s+1) l=(fun k=>AW (AO l (k*(s+1))) (s+1)) from funext fun k=>OZ _ k l]
   refine Vd.val hrun (.slc (.lit n) (s+1) _ (some ad) n (fun k=>(vs.drop (k*(s+1))).take (s+1)) (Nat.le_refl n) (fun h0=>⟨ad,rfl,hI ?_,fun k hk j hj=>?_⟩) (fun k hk=>?_) (fun k hk=>?_) (fun k hk=>?_))
   ·rintro rfl
    have:=hb 0 h0
    simp at hle
    have h0':0<n:=h0
    omega
   ·have:=hb k hk
    rw [hc (k*(s+1)+j) (by omega),List.getElem?_take_of_lt hj,List.getElem?_drop]
   ·rw [Aa,CS]
    exact (hr.drop _).take _
   ·have:=hb k hk
    simp
    omega
   ·have h1:=hb k hk
    rw [CS] at ho
    rw [Aa,CS]
    have h2:=Ow (n:=s+1) (Ox (n:=k*(s+1)) ho)
    rw [List.drop_take,List.take_take,Nat.min_eq_left (by omega)] at h2
    exact h2
theorem Qe {t e:TypeId} {n:LN} {sz:Nat} {el:Nat->List AV} {v:Value} {lo hi:Option AV} {vlo vhi:Option Value} (ht:P.underlying t=some (.slice e)) (hsz:sz=A9 P e) {ie:TypeInfo} (hie:P.info? e=some ie)
  (hx:Rel C w (.slc n sz el) v) (AQ:(lo=none/\vlo=none)\/∃ a u,lo=some a/\vlo=some u/\Rel C w a u) (mN:(hi=none/\vhi=none)\/∃ a u,hi=some a/\vhi=some u/\Rel C w a u) :
  Vd P S C w hp (Instr.sliceAt t v vlo vhi none) (HV n lo hi fun l m=>.val (.slc m sz (fun k=>el (l+k)))):=by
 have hform:∃ A cap,v=.slice A n.val cap:=by cases hx;exact ⟨_,_,rfl⟩
 obtain ⟨A,cap,rfl⟩:=hform
 unfold HV
 split
 ·obtain rfl:vlo=none:=by rcases AQ with ⟨_,h⟩|⟨_,_,h,_⟩<;>simp_all
  obtain rfl:vhi=none:=by rcases mN with ⟨_,h⟩|⟨_,_,h,_⟩<;>simp_all
  have:=EP (P:=P) (S:=S) (hp:=hp) (l:=0) (h:=n.val) (m:=n) ht hsz hie hx (.inl ⟨rfl,rfl⟩) (.inl ⟨rfl,rfl⟩) (by omega) (by omega) (by omega)
  simpa using this
 ·rename_i k a
  obtain ⟨_,u,h1,rfl,hr⟩:∃ a' u,some (AV.li k a)=some a'/\vlo=some u/\Rel C w a' u:=by rcases AQ with ⟨h,_⟩|h;cases h;exact h
  injection h1 with h1;subst h1;cases hr
  obtain rfl:vhi=none:=by rcases mN with ⟨_,h⟩|⟨_,_,h,_⟩<;>simp_all
  by_cases h0:0<=a
  ·obtain ⟨an,rfl⟩:=Int.eq_ofNat_of_zero_le h0
   simp only [h0,decide_true,Int.toNat_natCast]
   cases n with
   | lit m =>
     simp only
     by_cases hm:an<=m
     ·simp only [hm,decide_true]
      exact EP ht hsz hie hx (.inr ⟨k,rfl⟩) (.inl ⟨rfl,rfl⟩) hm (Nat.le_refl _) rfl
     ·simp only [hm,decide_false];exact .fail _
   | sym m =>
     simp only
     exact .need fun hm=>EP ht hsz hie hx (.inr ⟨k,rfl⟩) (.inl ⟨rfl,rfl⟩) hm (Nat.le_refl _) (by simp [LN.val,Hb])
  ·simp only [h0,decide_false];cases n<;>exact .fail _
 ·rename_i k a
  obtain ⟨_,u,h1,rfl,hr⟩:∃ a' u,some (AV.si k a)=some a'/\vlo=some u/\Rel C w a' u:=by rcases AQ with ⟨h,_⟩|h;cases h;exact h
  injection h1 with h1;subst h1;cases hr
  obtain rfl:vhi=none:=by rcases mN with ⟨_,h⟩|⟨_,_,h,_⟩<;>simp_all
  refine .need fun hm=>?_
  obtain ⟨an,rfl⟩:=Int.eq_ofNat_of_zero_le hm.1
  simp only [Iz,Int.toNat_natCast]
  exact EP ht hsz hie hx (.inr ⟨k,rfl⟩) (.inl ⟨rfl,rfl⟩) (by omega) (Nat.le_refl _) (by simp [LN.val,Hb])
 ·rename_i k b
  obtain ⟨_,u,h1,rfl,hr⟩:∃ a' u,some (AV.li k b)=some a'/\vhi=some u/\Rel C w a' u:=by rcases mN with ⟨h,_⟩|h;cases h;exact h
  injection h1 with h1;subst h1;cases hr
  obtain rfl:vlo=none:=by rcases AQ with ⟨_,h⟩|⟨_,_,h,_⟩<;>simp_all
  by_cases h0:0<=b
  ·obtain ⟨bn,rfl⟩:=Int.eq_ofNat_of_zero_le h0
   simp only [h0,decide_true,Int.toNat_natCast]
   exact .need fun hm=>EP (h:=bn) ht hsz hie hx (.inl ⟨rfl,rfl⟩) (.inr ⟨k,rfl⟩) (by omega) hm (by simp [LN.val])
  ·simp only [h0,decide_false];exact .fail _
 ·rename_i k b
  obtain ⟨_,u,h1,rfl,hr⟩:∃ a' u,some (AV.si k b)=some a'/\vhi=some u/\Rel C w a' u:=by rcases mN with ⟨h,_⟩|h;cases h;exact h
  injection h1 with h1;subst h1;cases hr
  obtain rfl:vlo=none:=by rcases AQ with ⟨_,h⟩|⟨_,_,h,_⟩<;>simp_all
  refine .need fun hm=>?_
  obtain ⟨bn,rfl⟩:=Int.eq_ofNat_of_zero_le hm.1
  simp only [Iz,Int.toNat_natCast]
  exact EP (h:=bn) ht hsz hie hx (.inl ⟨rfl,rfl⟩) (.inr ⟨k,rfl⟩) (by omega) (by omega) (by simp [LN.val])
 ·rename_i a b
  obtain ⟨_,u,h1,rfl,hr⟩:∃ a' u,some a=some a'/\vlo=some u/\Rel C w a' u:=by rcases AQ with ⟨h,_⟩|h;cases h;exact h
  injection h1 with h1;subst h1
  obtain ⟨_,u',h1,rfl,hr'⟩:∃ a' u,some b=some a'/\vhi=some u/\Rel C w a' u:=by rcases mN with ⟨h,_⟩|h;cases h;exact h
  injection h1 with h1;subst h1
  cases hk:AD a with
  | none=>exact .fail _
  | some k =>
    cases hk':AD b with
    | none=>exact .fail _
    | some k' =>
      rw [AJ hr hk,AJ hr' hk']
      simp only
      refine .need fun (hm:0<=AA a/\AA a<=AA b/\AA b<=(n.val:Int))=>?_
      generalize AA a=x at *
      generalize AA b=y at *
      obtain ⟨an,rfl⟩:=Int.eq_ofNat_of_zero_le hm.1
      obtain ⟨bn,rfl⟩:=Int.eq_ofNat_of_zero_le (Int.le_trans hm.1 hm.2.1)
      simp only [Iz,Int.toNat_natCast]
      exact EP (l:=an) (h:=bn) ht hsz hie hx (.inr ⟨k,rfl⟩) (.inr ⟨k',rfl⟩) (by omega) (by omega) (by simp [LN.val,Hb])
 ·exact .fail _
end
end Abs
end Go.Proofs.YtccgngldoinokaaGreat

namespace Go.Proofs.YtccgngldoinokaaGreat
namespace Abs
open Go Go.RowKit
section
variable {P:Program} {S:Sums} {C C':Cx} {w:World} {H hp:A0}
theorem Rel.change (hI:∀ b,C.I b->C'.I b) {a:AV} {v:Value} (h:Rel C w a v):ownIn a=false->Rel C' w a v:=by
 refine Rel.rec (C:=C) (w:=w) (motive_1:=fun a v _=>ownIn a=false->Rel C' w a v) (motive_2:=fun l vs _=>ownIn.ownInL l=false->RelL C' w l vs)
  ?_ ?_ ?_ ?_ ?_ ?_ ?_ ?_ ?_ ?_ ?_ ?_ ?_ ?_ ?_ ?_ ?_ ?_ ?_ ?_ ?_ h
 ·exact fun v _=>.top v
 ·exact fun k a v _=>.gd k a v
 ·exact fun k n _=>.li k n
 ·exact fun k n _=>.si k n
 ·exact fun b _=>.lb b
 ·exact fun b _=>.sb b
 ·exact fun x _=>.v x
 ·exact fun l vs _ h ho=>.agg l vs (h ho)
 ·exact fun l vs _ h ho=>.tup l vs (h ho)
 ·exact fun i off b c n h ho=>by simp [ownIn] at ho
 ·exact fun i sz k off b c n h hk ho=>by simp [ownIn] at ho
 ·exact fun i b c n h ho=>by simp [ownIn] at ho
 ·exact fun i n sz b c m h ho=>by simp [ownIn] at ho
 ·exact fun i h ho=>by simp [ownIn] at ho
 ·intro n sz el A cap vs hcap hA _ hl hn ih _
  refine .slc n sz el A cap vs hcap (fun h0=>?_) (fun k hk=>ih k hk (Ca (hn k hk))) hl hn
  obtain ⟨ad,rfl,hI',hc⟩:=hA h0
  exact ⟨ad,rfl,hI _ hI',hc⟩
 ·exact fun l ad vs _ hI' hc hn ih _=>.xp l ad vs (ih hn) (fun h=>hI _ (hI' h)) hc hn
 ·exact fun f l m vs ws _ _ h h' ho=>by
   simp [ownIn] at ho
   exact .fn f l m vs ws (h ho.1) (h' ho.2)
 ·exact fun n sz el A vs hI' hc _ hl hn ih _=>.pa n sz el A vs ⟨hI'.1,fun ad e=>hI _ (hI'.2 ad e)⟩ hc (fun k hk=>ih k hk (Ca (hn k hk))) hl hn
 ·exact fun i b c n h ho=>by simp [ownIn] at ho
 ·exact fun _=>.nil
 ·exact fun a l v vs _ _ h h' ho=>by
   simp [ownIn.ownInL] at ho
   exact .cons a l v vs (h ho.1) (h' ho.2)
theorem RelL.change (hI:∀ b,C.I b->C'.I b):∀ {l:List AV} {vs:List Value},RelL C w l vs->ownIn.ownInL l=false->RelL C' w l vs
 | _,_,.nil,_=>.nil
 | _,_,.cons a l v vs h h',ho=>by
   simp [ownIn.ownInL] at ho
   exact .cons a l v vs (h.change hI ho.1) (h'.change hI ho.2)
def callee (C:Cx) (w:World) (all:Bool):Cx:=⟨fun _=>none,fun b=>if all then b<w.heap.size else C.I b,fun _=>none⟩
theorem aS:∀ (d:Nat) (a:AV),ownIn (GC d hp a)=false
 | 0,a=>by cases a<;>simp [GC,ownIn]
 | d+1,a=>by
   have hl:∀ l:List AV,ownIn.ownInL (l.map (GC d hp))=false:=fun l=>by
    induction l with
    | nil=>rfl
    | cons b l ih=>simp [ownIn.ownInL,ih,aS d b]
   cases a<;>simp only [GC,ownIn,hl,Bool.or_false]
   ·split<;>simp [ownIn]
   ·split<;>simp [ownIn]
theorem qK {all:Bool} (hH:HR C H w) (hpre:Pre hp H):∀ (d:Nat) {a:AV} {v:Value},Rel C w a v->(all=true\/ownIn a=false)->Rel (callee C w all) w (GC d hp a) v:=by
 have hI:∀ b,C.I b->(callee C w all).I b:=fun b hb=>by
  unfold callee;cases all
  ·exact hb
  ·exact hH.ilt b hb
 intro d
 induction d with
 | zero =>
   intro a v h ho
   cases h<;>simp only [GC]<;>first|exact .top _|exact .si _ _|exact .sb _|exact .v _|skip
   ·rename_i n sz el A cap vs hcap hA hr hl hn;exact (Rel.slc n sz el A cap vs hcap hA hr hl hn).change hI rfl
   ·rename_i l ad vs hr hI' hc hn;exact (Rel.xp l ad vs hr hI' hc hn).change hI rfl
 | succ d ih =>
   have ihl:∀ {l:List AV} {vs:List Value},RelL C w l vs->(all=true\/ownIn.ownInL l=false)->RelL (callee C w all) w (l.map (GC d hp)) vs:=by
    intro l vs h
    induction l generalizing vs with
    | nil=>intro _;cases h;exact .nil
    | cons b l ihl =>
      intro ho
      cases h with
      | cons _ _ u us h0 h1 =>
        refine .cons _ _ _ _ (ih h0 ?_) (ihl h1 ?_)
        ·rcases ho with ho|ho
         ·exact .inl ho
         ·simp [ownIn.ownInL] at ho;exact .inr ho.1
        ·rcases ho with ho|ho
         ·exact .inl ho
         ·simp [ownIn.ownInL] at ho;exact .inr ho.2
   intro a v h ho
   cases h with
   | top=>simp only [GC];exact .top _
   | gd=>simp only [GC];exact .top _
   | li k n=>exact .si k n
   | si k n=>exact .si k n
   | lb b=>exact .sb b
   | sb b=>exact .sb b
   | v=>exact .v _
   | agg l vs h=>exact .agg _ _ (ihl h (by simpa [ownIn] using ho))
   | tup l vs h=>simp only [GC];exact .top _
   | elt=>simp only [GC];exact .top _
   | lsl=>simp only [GC];exact .top _
   | slc n sz el A cap vs hcap hA hr hl hn=>exact (Rel.slc n sz el A cap vs hcap hA hr hl hn).change hI rfl
   | xp l ad vs hr hI' hc hn=>exact (Rel.xp l ad vs hr hI' hc hn).change hI rfl
   | pa=>simp only [GC];exact .top _
   | mp=>simp only [GC];exact .top _
   | fn f l m vs ws h h' =>
     refine .fn _ _ _ _ _ (ihl h ?_) (ihl h' ?_)
     ·rcases ho with ho|ho
      ·exact .inl ho
      ·simp [ownIn] at ho;exact .inr ho.1
     ·rcases ho with ho|ho
      ·exact .inl ho
      ·simp [ownIn] at ho;exact .inr ho.2
   | own i off b c n hρ =>
     simp only [ownIn,Bool.true_eq_false,or_false] at ho
     subst ho
     simp only [GC]
     split
     ·rename_i t l hb
      obtain ⟨hlt,hB⟩:=hpre.old hb (by simp)
      have hl:=hH.live i _ hρ
      rw [hB] at hl
      obtain ⟨vs,hr,hh⟩:=hl
      rw [Aa]
      refine .xp _ _ (vs.drop off) (ihl (hr.drop off) (.inl rfl)) (fun _=>?_) (fun j hj=>?_) ?_
      ·show b<w.heap.size;exact (hH.fresh _ _ _ _ hρ).1
      ·rw [G9 hh];simp [List.getElem?_drop]
      ·generalize l.drop off=l'
       induction l' with
       | nil=>rfl
       | cons x l' ih'=>simp [ownIn.ownInL,ih',aS d x]
     ·exact .top _
   | row i b c n hρ =>
     simp only [ownIn,Bool.true_eq_false,or_false] at ho
     subst ho
     simp only [GC]
     split
     ·rename_i e sz m el hb
      obtain ⟨hlt,hB⟩:=hpre.old hb (by simp)
      have hl:=hH.live i _ hρ
      rw [hB] at hl
      obtain ⟨hm,hcap,hs0,cs,vs,hh,hsz,hcell⟩:=hl
      subst hm
      refine .slc _ _ _ _ _ vs hcap (fun _=>⟨_,rfl,(hH.fresh _ _ _ _ hρ).1,fun k hk j hj=>?_⟩) (fun k hk=>(hcell k hk).1.change hI (Ca (hcell k hk).2.1)) (fun k hk=>(hcell k hk).2.2.1) (fun k hk=>(hcell k hk).2.1)
      rw [G9 hh,Nat.zero_add];exact (hcell k hk).2.2.2 j hj
     ·exact .top _
   | rown i hρ =>
     simp only [GC]
     split
     ·rename_i e sz m el hb
      obtain ⟨hlt,hB⟩:=hpre.old hb (by simp)
      have hl:=hH.live i _ hρ
      rw [hB] at hl
      obtain ⟨h0,_⟩:m.val=0/\_:=hl
      have:=Rel.slc (C:=callee C w all) (w:=w) m sz el none 0 (fun _=>[]) (by omega) (fun h=>by omega) (fun k hk=>by omega) (fun k hk=>by omega) (fun k hk=>by omega)
      rwa [h0] at this
     ·exact .top _
end
end Abs
end Go.Proofs.YtccgngldoinokaaGreat

namespace Go.Proofs.YtccgngldoinokaaGreat
namespace Abs
open Go Go.RowKit
section
variable {P:Program} {S:Sums} {C:Cx} {w:World} {H hp:A0}
theorem ki (q:Nat->Bool):∀ n,Ew q n<=n
 | 0=>Nat.le_refl _
 | n+1=>by
   have:=ki q n
   unfold Ew
   split
   ·omega
   ·split<;>omega
theorem kh {q:Nat->Bool} {n:Nat} (h:Ew q n<n):q (Ew q n)=true:=by
 induction n with
 | zero=>exact absurd h (Nat.not_lt_zero _)
 | succ n ih =>
   unfold Ew at h ⊢
   cases hb:Nat.blt (Ew q n) n with
   | true=>rw [hb] at h;exact ih (by simpa [Nat.blt_eq] using hb)
   | false =>
     rw [hb] at h
     cases hq:q n with
     | true=>exact hq
     | false=>rw [hq] at h;exact absurd h (Nat.lt_irrefl _)
theorem qG {q:Nat->Bool} {n:Nat}:∀ k,k<Ew q n->q k=false:=by
 induction n with
 | zero=>intro k h;exact absurd h (Nat.not_lt_zero _)
 | succ n ih =>
   intro k h
   have hle:=ki q n
   unfold Ew at h
   cases hb:Nat.blt (Ew q n) n with
   | true=>rw [hb] at h;exact ih k h
   | false =>
     rw [hb] at h
     have hb:¬ Ew q n<n:=fun hh=>by
      have:Nat.blt (Ew q n) n=true:=by rw [Nat.blt_eq];exact hh
      rw [hb] at this;cases this
     have he:Ew q n=n:=by omega
     cases hq:q n with
     | true=>rw [hq] at h;exact ih k (by simp only at h;omega)
     | false =>
       rw [hq] at h
       by_cases hk:k=n
       ·rw [hk];exact hq
       ·exact ih k (by simp only at h;omega)
def OS (q:Nat->Bool) (v:Nat->Value):Nat->Nat->Option (Nat × Value)
 | _,0=>none
 | i,n+1=>match q i with|true=>some (i,v i)|false=>OS q v (i+1) n
theorem VE (q:Nat->Bool) (v:Nat->Value):∀ (n i:Nat),(∀ k,k<i->q k=false)->OS q v i n=if Ew q (i+n)<i+n then some (Ew q (i+n),v (Ew q (i+n))) else none
 | 0,i,h=>by
   unfold OS
   rw [Nat.add_zero,if_neg]
   intro hh
   have h1:=kh hh
   rw [h _ hh] at h1;cases h1
 | n+1,i,h=>by
   unfold OS
   cases hq:q i with
   | true =>
     have h1:¬ Ew q (i+(n+1))<i:=fun hh=>by
      have:=kh (q:=q) (n:=i+(n+1)) (by omega)
      rw [h _ hh] at this;cases this
     have h2:¬ i<Ew q (i+(n+1)):=fun hh=>by
      rw [qG _ hh] at hq;cases hq
     have h3:Ew q (i+(n+1))=i:=by omega
     rw [h3,if_pos (by omega)]
   | false =>
     have:=VE q v n (i+1) (fun k hk=>by
      by_cases e:k=i
      ·subst e;exact hq
      ·exact h k (by omega))
     rw [show i+1+n=i+(n+1) by omega] at this
     exact this
theorem Qi {t:TypeId} {ks:List (Option IntKind)} {kv:IntKind} (h:gq P S t=some (ks,kv)) :
  ∃ kt et,P.underlying t=some (.map kt et)/\kt<1048576/\isAgg P kt=some true/\AL S.eqs kt=some ks/\∃ iz,P.info? et=some iz/\iz.zero=some (.int kv 0):=by
 unfold gq at h
 split at h
 ·rename_i kt et hu
  split at h
  ·rename_i h1 h2 h3 h4
   injection h with h;injection h with e1 e2;subst e1 e2
   refine ⟨kt,et,hu,by simpa [Nat.blt_eq] using h1,h2,h3,?_⟩
   unfold re at h4
   split at h4
   ·rename_i iz hi
    split at h4
    ·rename_i k x hz
     split at h4
     ·rename_i hd
      injection h4 with h4;subst h4
      have hd:x=0:=by simpa using hd
      subst hd
      exact ⟨iz,hi,hz⟩
     ·cases h4
    ·cases h4
   ·cases h4
  ·cases h
 ·cases h
theorem vd (hS:∀ t ks,AL S.eqs t=some ks->EqOK P t ks) {kt:TypeId} {ks:List (Option IntKind)} (hlt:kt<1048576) (hf:AL S.eqs kt=some ks) {l m:List AV} {vs ws:List Value}
  (h1:Dv ks l=true) (h2:Dv ks m=true) (h3:RelL C w l vs) (h4:RelL C w m ws):∃ r,F0 l m=some r/\(Op.equal kt (.agg ⟨vs⟩) (.agg ⟨ws⟩)).run P w=.ok r w:=by
 have key:∀ {ks:List (Option IntKind)} {l m:List AV},Dv ks l=true->Dv ks m=true->∃ r,F0 l m=some r:=by
  intro ks
  induction ks with
  | nil =>
    intro l m h1 h2
    cases l<;>cases m<;>simp [Dv] at h1 h2
    exact ⟨true,rfl⟩
  | cons k ks ih =>
    intro l m h1 h2
    cases l with
    | nil=>cases k<;>simp [Dv] at h1
    | cons a l=>cases m with
      | nil=>cases k<;>simp [Dv] at h2
      | cons b m =>
        have hc:(∃ r,wF a b=some r)/\Dv ks l=true/\Dv ks m=true:=by
         cases k with
         | some k =>
           simp only [Dv] at h1 h2
           split at h1
           ·rename_i k1 hk1
            split at h2
            ·rename_i k2 hk2
             simp only [Bool.and_eq_true,decide_eq_true_eq] at h1 h2
             obtain ⟨e1,h1⟩:=h1
             obtain ⟨e2,h2⟩:=h2
             subst e1 e2
             refine ⟨⟨Yl (AA a) (AA b),?_⟩,h1,h2⟩
             unfold wF eqI
             rw [hk1,hk2]
             simp
            ·cases h2
           ·cases h1
         | none =>
           simp only [Dv,Bool.and_eq_true] at h1 h2
           refine ⟨?_,h1.2,h2.2⟩
           cases a<;>simp [Ll] at h1<;>cases b<;>simp [Ll] at h2<;>exact ⟨_,rfl⟩
        obtain ⟨⟨r,hr⟩,h1,h2⟩:=hc
        obtain ⟨s,hs⟩:=ih h1 h2
        unfold F0
        cases l with
        | nil=>cases m with
          | nil=>exact ⟨r,hr⟩
          | cons _ _=>simp only [hr,hs];exact ⟨_,rfl⟩
        | cons _ _=>simp only [hr,hs];exact ⟨_,rfl⟩
 obtain ⟨r,hr⟩:=key h1 h2
 exact ⟨r,hr,((hS _ _ hf).1 hlt).2 C w l m vs ws r h1 h2 h3 h4 hr⟩
def ly (C:Cx) (w:World) (n sz:Nat) (el:Nat->List AV) (es:Array MapEntry) (vs:Nat->List Value):Prop :=
 es.size=n/\∀ k,k<n->RelL C w (el k) (vs k)/\DV (el k)=true/\(vs k).length=sz+1/\∃ e,es[k]? = some e/\e.key=.agg ⟨(vs k).take sz⟩/\(vs k)[sz]? = some e.val
theorem OU (hS:∀ t ks,AL S.eqs t=some ks->EqOK P t ks) {kt:TypeId} {ks:List (Option IntKind)} {kv:IntKind} (hlt:kt<1048576) (hf:AL S.eqs kt=some ks) {n:Nat} {el:Nat->List AV} {es:Array MapEntry} {vs:Nat->List Value}
  (hT:ly C w n ks.length el es vs) (hok:cr (n,ks.length,ks,kv,el)) {c:List AV} {ws:List Value} (hc:Dv ks c=true) (hr:RelL C w c ws) :
  ∀ (m i:Nat),i+m=n->(Instr.findAsking kt (.agg ⟨ws⟩) (es.toList.drop i) i).run P w=.ok (OS (I3 el ks.length c) (fun k=>.int kv (Us el ks.length k)) i m) w
 | 0,i,h=>by
   have:es.toList.drop i=[]:=List.drop_eq_nil_of_le (by rw [Array.length_toList,hT.1];omega)
   rw [this];simp [Instr.findAsking,OS]
 | m+1,i,h=>by
   obtain ⟨h1,h2,h3,e,he,hk,hv⟩:=hT.2 i (by omega)
   have hd:es.toList.drop i=e::es.toList.drop (i+1):=by
    have:es.toList[i]? = some e:=by rw [Array.getElem?_toList];exact he
    obtain ⟨hlt,hx⟩:=List.getElem?_eq_some_iff.1 this
    rw [<- hx];exact List.drop_eq_getElem_cons hlt
   obtain ⟨o1,o2⟩:=hok i (by omega)
   have htk:RelL C w (AW (el i) ks.length) ((vs i).take ks.length):=by rw [CS];exact h1.take _
   obtain ⟨r',hr1,hr4⟩:=vd hS hlt hf hc o1 hr htk
   have hq:I3 el ks.length c i=r':=by unfold I3;rw [hr1]
   have hval:e.val=.int kv (Us el ks.length i):=by
    have hg:Rel C w (A4 (el i) ks.length) e.val:=by
     have hlen:=h1.len
     have:(el i)[ks.length]? = some (A4 (el i) ks.length):=by
      rw [DX,List.getD_eq_getElem?_getD,List.getElem?_eq_getElem (by omega)];rfl
     obtain ⟨v,hv1,hv2⟩:=h1.get this
     rw [hv] at hv1;injection hv1 with e;rw [e];exact hv2
    rw [AJ hg o2]
    unfold Us;rfl
   rw [hd,Instr.findAsking,hk]
   simp only [Sem.run_bind,hr4,Result.andThen_ok]
   unfold OS
   rw [hq]
   cases r' with
   | true=>simp [hval]
   | false =>
     have:=OU hS hlt hf hT hok hc hr m (i+1) (by omega)
     simpa using this
theorem NA (hS:∀ t ks,AL S.eqs t=some ks->EqOK P t ks) {kt:TypeId} {ks:List (Option IntKind)} {kv:IntKind} (hlt:kt<1048576) (ha:isAgg P kt=some true) (hf:AL S.eqs kt=some ks) {n:Nat} {el:Nat->List AV} {es:Array MapEntry} {vs:Nat->List Value}
  (hT:ly C w n ks.length el es vs) (hok:cr (n,ks.length,ks,kv,el)) {c:List AV} {ws:List Value} (hc:Dv ks c=true) (hr:RelL C w c ws) :
  (Instr.findKey kt (.agg ⟨ws⟩) es.toList).run P w=.ok (if Ew (I3 el ks.length c) n<n then some (Ew (I3 el ks.length c) n,.int kv (Us el ks.length (Ew (I3 el ks.length c) n))) else none) w:=by
 have h0:=OU hS hlt hf hT hok hc hr n 0 (by omega)
 rw [List.drop_zero,VE _ _ n 0 (fun k hk=>absurd hk (Nat.not_lt_zero _)),Nat.zero_add] at h0
 have hag:∃ d,P.underlying kt=some d/\∀ k x,Instr.sameNow d (.agg k) x=none:=by
  unfold isAgg at ha
  split at ha
  ·rename_i fs hu;exact ⟨_,hu,fun k x=>by simp [Instr.sameNow]⟩
  ·rename_i m e hu;exact ⟨_,hu,fun k x=>by simp [Instr.sameNow]⟩
  ·cases ha
  ·cases ha
 obtain ⟨d,hu,hsn⟩:=hag
 unfold Instr.findKey
 simp only [Sem.run_bind,run_underlying hu,Result.andThen_ok]
 cases hes:es.toList with
 | nil =>
   have hn0:n=0:=by rw [<- hT.1,<- Array.length_toList,hes];rfl
   subst hn0
   simp [Instr.findNow]
 | cons e rest =>
   rw [hes] at h0
   simp only [Instr.findNow,hsn]
   exact h0
theorem Y_ (hS:∀ t ks,AL S.eqs t=some ks->EqOK P t ks) (hH:HR C H w) (hpre:Pre hp H) {t:TypeId} {a c:AV} {m k:Value} {ok:Bool} (hm:Rel C w a m) (hk:Rel C w c k) :
  Vd P S C w hp (Instr.lookup t m k ok) (U9 P S hp t a c ok):=by
 unfold U9
 split
 case h_2=>exact .fail _
 rename_i ks kv i c hmt
 obtain ⟨kt,et,hu,hlt,hag,hf,iz,hi,hz⟩:=Qi hmt
 split
 case h_2=>exact .fail _
 rename_i n sz el hb
 split
 case h_2=>exact .fail _
 rename_i hok
 simp only [Bool.and_eq_true] at hok
 obtain ⟨hok,hsz⟩:=hok
 obtain rfl:=Nat.eq_of_beq_eq_true hsz
 refine .need fun hT=>?_
 cases hm with
 | mp _ b cp q hρ =>
 have hl:=hH.live _ _ hρ
 rw [(hpre.old hb (by simp)).2] at hl
 obtain ⟨es,ck,vs,hh,hs,hc⟩:=hl
 cases hk with
 | agg _ ws hws =>
 have hfk:=NA hS hlt hag hf (kv:=kv) ⟨hs,hc⟩ hT hok hws
 have hck:(Instr.checkKey es.isEmpty 10000 kt (.agg ⟨ws⟩)).run P w=.ok () w:=(hS _ _ hf).2.2 hlt _ C w c ws hok hws
 have hzv:(zeroValue et).run P w=.ok (.int kv 0) w:=by simp [zeroValue,typeInfo,hi,hz]
 have hrun:(Instr.lookup t (.map (some b)) (.agg ⟨ws⟩) ok).run P w=.ok (if ok then .tuple #[.int kv (yY n.val (I3 el ks.length c) (Us el ks.length)),.bool (vW n.val (I3 el ks.length c))] else .int kv (yY n.val (I3 el ks.length c) (Us el ks.length))) w:=by
  unfold Instr.lookup
  simp only [Sem.run_bind,run_underlying hu,Result.andThen_ok]
  have hg:(getObj b).run P w=.ok (.map es ck) w:=by simp [getObj,Sem.run,hh]
  simp only [Sem.run_bind,hg,Result.andThen_ok,hck,hfk,Sem.run_pure]
  by_cases hlt2:Ew (I3 el ks.length c) n.val<n.val
  ·have hb2:Nat.blt (Ew (I3 el ks.length c) n.val) n.val=true:=by rw [Nat.blt_eq];exact hlt2
   rw [if_pos hlt2]
   unfold yY vW
   rw [hb2]
   cases ok<;>simp
  ·have hb2:Nat.blt (Ew (I3 el ks.length c) n.val) n.val=false:=by
    cases hb3:Nat.blt (Ew (I3 el ks.length c) n.val) n.val with
    | false=>rfl
    | true=>exact absurd (by simpa [Nat.blt_eq] using hb3) hlt2
   rw [if_neg hlt2]
   unfold yY vW
   rw [hb2]
   cases ok<;>simp [hzv]
 cases ok with
 | true=>exact .val hrun (.tup _ [_,_] (.cons _ _ _ _ (.si _ _) (.cons _ _ _ _ (.sb _) .nil)))
 | false=>exact .val hrun (.si _ _)
theorem YZ {t:TypeId} (hH:HR C H w):Md P S C w H hp (Instr.makeMap t none) (PN P S t):=by
 unfold PN
 split
 case h_2=>exact .fail _
 rename_i ks _ _
 intro a new hq hf
 cases hq
 obtain ⟨hg,hn⟩:=hf 0 (by simp)
 simp [A3] at hg hn
 have hx:Cext C w (C.put hp.length (.at w.heap.size 0 0)) (w.alloc (.map #[] 0)):=(Grow.new C w hp.length 0 0 _).cext (fun i h1 h2=>(show i=hp.length by omega)▸hn) hH.ilt
 refine ⟨.map (some w.heap.size),_,_,by simp [Instr.makeMap],hH.new (o:=.map #[] 0) hn (by rw [hg];exact ⟨#[],0,fun _=>[],J0 w _,rfl,fun k hk=>absurd hk (Nat.not_lt_zero _)⟩),.mp _ _ _ _ Cx.put_eq,Grow.new C w hp.length 0 0 _⟩
theorem IM (n m:LN):(T4 n m).val=n.val+m.val:=by
 cases n<;>cases m<;>simp [T4,LN.val,Ii]
theorem Nx (n:LN) (f g:Nat->List AV) (k:Nat):fL n f g k=if k<n.val then f k else g (k-n.val):=by
 unfold fL
 split
 ·simp [LN.val]
 ·unfold Ft;rfl
theorem Vg:∀ {c:List AV} {x:AV},DV c=true->LX x=true->DV (c++[x])=true
 | [],x,_,h=>by simp [DV,h]
 | a::c,x,h,h'=>by
   simp only [DV,Bool.and_eq_true] at h
   simp only [List.cons_append,DV,h.1,Vg h.2 h',Bool.and_self]
theorem Tm:∀ {ks:List (Option IntKind)} {c:List AV},Dv ks c=true->DV c=true
 | [],[],_=>rfl
 | [],_::_,h=>by simp [Dv] at h
 | some k::ks,a::c,h=>by
   simp only [Dv] at h
   split at h
   ·rename_i k' hk
    simp only [Bool.and_eq_true] at h
    simp only [DV,Tm h.2,Bool.and_true]
    cases a<;>simp [AD] at hk<;>rfl
   ·cases h
 | none::ks,a::c,h=>by
   simp only [Dv,Bool.and_eq_true] at h
   simp only [DV,Tm h.2,Bool.and_true]
   have:=h.1
   cases a<;>simp [Ll] at this<;>rfl
 | some _::_,[],h=>by simp [Dv] at h
 | none::_,[],h=>by simp [Dv] at h
theorem Oy:∀ {ks:List (Option IntKind)} {c:List AV},Dv ks c=true->c.length=ks.length
 | [],[],_=>rfl
 | [],_::_,h=>by simp [Dv] at h
 | some k::ks,a::c,h=>by
   simp only [Dv] at h
   split at h
   ·simp only [Bool.and_eq_true] at h;simp [Oy h.2]
   ·cases h
 | none::ks,a::c,h=>by
   simp only [Dv,Bool.and_eq_true] at h;simp [Oy h.2]
 | some _::_,[],h=>by simp [Dv] at h
 | none::_,[],h=>by simp [Dv] at h
theorem Y9 (hS:∀ t ks,AL S.eqs t=some ks->EqOK P t ks) (hH:HR C hp w) {t:TypeId} {a c x:AV} {m k v:Value} {q:Cd} {r:AR} (hm:Rel C w a m) (hk:Rel C w c k) (hv:Rel C w x v)
  (h:EZ P S hp t a c x=.need q r) (hq:q.ok):∃ q' i B b cp n' es ck e,r=.need q' (.upd i B)/\(q'.ok->(Instr.mapUpdate t m k v).run P w=.ok () { w with heap:=w.heap.setIfInBounds b (.map (es.push e) (ck+1)) }/\C.ρ i=some (.at b cp n')/\i<hp.length /\
   w.heap[b]? = some (.map es ck)/\∀ (C':Cx) (w':World),(∀ l vs,DV l=true->RelL C w l vs->RelL C' w' l vs)->w'.heap[b]? = some (.map (es.push e) (ck+1))->BRel C' w' (.at b cp n') B):=by
 unfold EZ at h
 split at h
 case h_2=>cases h
 rename_i ks kv i c hmt
 obtain ⟨kt,et,hu,hlt,hag,hf,iz,hi,hz⟩:=Qi hmt
 split at h
 case h_2=>cases h
 rename_i n sz el kv' hb hkv
 split at h
 case h_2=>cases h
 rename_i hok
 simp only [Bool.and_eq_true,decide_eq_true_eq] at hok
 obtain ⟨⟨hok,hsz⟩,rfl⟩:=hok
 obtain rfl:=Nat.eq_of_beq_eq_true hsz
 injection h with h1 h2
 subst h1 h2
 cases hm with
 | mp _ b cp n' hρ =>
 have hl:=hH.live _ _ hρ
 rw [hb] at hl
 obtain ⟨es,ck,vs,hh,hs,hc⟩:=hl
 cases hk with
 | agg _ ws hws =>
 have hfk:=NA hS hlt hag hf (kv:=kv') ⟨hs,hc⟩ hq hok hws
 have hck:(Instr.checkKey false 10000 kt (.agg ⟨ws⟩)).run P w=.ok () w:=(hS _ _ hf).2.2 hlt _ C w c ws hok hws
 have hvv:=AJ hv hkv
 refine ⟨_,i,_,b,cp,n',es,ck,{ key:=.agg ⟨ws⟩,val:=v,born:=ck },rfl,fun hno=>⟨?_,hρ,?_,hh,fun C' w' hrel hb'=>?_⟩⟩
 ·have hno:vW n.val (I3 el ks.length c)=false:=hno
  have hnl:¬ Ew (I3 el ks.length c) n.val<n.val:=fun hh2=>by
   unfold vW at hno
   rw [show Nat.blt (Ew (I3 el ks.length c) n.val) n.val=true by rw [Nat.blt_eq];exact hh2] at hno
   cases hno
  rw [if_neg hnl] at hfk
  unfold Instr.mapUpdate
  simp only [Sem.run_bind,run_underlying hu,Result.andThen_ok]
  have hg:(getObj b).run P w=.ok (.map es ck) w:=by simp [getObj,Sem.run,hh]
  simp only [Sem.run_bind,hg,Result.andThen_ok,hck,hfk]
  simp [setObj,Sem.run,hh]
 ·rcases Nat.lt_or_ge i hp.length with h|h
  ·exact h
  ·rw [Gj h] at hb;cases hb
 ·refine ⟨es.push _,ck+1,fun k=>if k<n.val then vs k else ws++[v],hb',by rw [IM,Array.size_push,hs];rfl,fun k hk=>?_⟩
  have hk:k<n.val+1:=by rw [IM] at hk;exact hk
  by_cases hkn:k<n.val
  ·obtain ⟨r1,r2,r3,e,r4,r5,r6⟩:=hc k hkn
   simp only [if_pos hkn]
   rw [Nx,if_pos hkn]
   exact ⟨hrel _ _ r2 r1,r2,r3,e,by rw [Array.getElem?_push_lt (by omega)];rw [Array.getElem?_eq_getElem (by omega)] at r4;exact r4,r5,r6⟩
  ·obtain rfl:k=n.val:=by omega
   simp only [if_neg (Nat.lt_irrefl n.val)]
   rw [Nx,if_neg (Nat.lt_irrefl _),F2]
   have ho:DV (c++[x])=true:=by
    exact Vg (Tm hok) (by cases x<;>simp [AD] at hkv<;>rfl)
   have hlen:=hws.len
   have hkl:=Oy hok
   refine ⟨hrel _ _ ho (hws.append (.cons _ _ _ _ hv .nil)),ho,by simp [<- hlen,hkl],_,by rw [<- hs];exact Array.getElem?_push_size,?_,?_⟩
   ·simp [List.take_append,<- hkl,hlen]
   ·rw [List.getElem?_append_right (by omega)];simp [<- hkl,hlen]
end
end Abs
end Go.Proofs.YtccgngldoinokaaGreat
