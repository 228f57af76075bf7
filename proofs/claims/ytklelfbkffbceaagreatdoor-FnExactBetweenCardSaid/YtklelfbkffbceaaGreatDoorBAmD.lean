
/- The machine, part 4: a small deterministic machine over plain data, and the proof that what it answers the program answers too. Conditions: none beyond those written at each theorem. -/
import Derived.Test.YtklelfbkffbceaaGreatDoorBAmA
import Derived.Test.YtklelfbkffbceaaGreatDoorBAmC
import Derived.KernelRfl
import Derived.Lib.Bytealg
import Derived.Lib.AtoiAll
import Derived.Lib.ItoaNum
import Derived.RowKit
set_option linter.unusedVariables false
set_option linter.unusedSimpArgs false
/- The machine as questions and answers: what it asks of data, of calls and of Ww stands in a tree; a list of answers leads through the tree. -/
namespace Go.Am
inductive Ans where
 |b (x:Bool)
 |i (x:Int)
 |n (x:Nat)
 |l (x:List (List C))
 |e (x:List C)
 |s (x:List UInt8)
 |u (x:UInt8)
 |r (v:V) (st:List Entry)
 |x (ex:Ex) (s:S)
inductive Ask where
 |add (k:IntKind) (a b:Int)
 |sub (k:IntKind) (a b:Int)
 |mul (k:IntKind) (a b:Int)
 |quo (k:IntKind) (a b:Int)
 |rem (a b:Int)
 |bit (op:BinOp) (k:IntKind) (a b:Int)
 |neg (k:IntKind) (a:Int)
 |conv (k:IntKind) (a:Int)
 |nz (a:Int)
 |eqI (a b:Int)
 |ltI (a b:Int)
 |leI (a b:Int)
 |maxI (a b:Int)
 |minI (a b:Int)
 |eqB (a b:Bool)
 |notB (a:Bool)
 |eqS (a b:List UInt8)
 |fits (a b:List UInt8)
 |catS (a b:List UInt8)
 |ltS (a b:List UInt8)
 |len (l:List (List C))
 |lenS (l:List UInt8)
 |nat (n:Int)
 |idx (l:List (List C)) (i:Nat)
 |idxS (l:List UInt8) (i:Nat)
 |byteI (b:UInt8)
 |setL (l:List (List C)) (i:Nat) (e:List C)
 |app (a b:List (List C))
 |cut (l:List (List C)) (lo hi:Option Nat)
 |cutS (l:List UInt8) (lo hi:Option Nat)
 |rep (n:Nat) (z:List C)
 |view (l:List (List C))
 |pl (l:List (List C))
 |uni (n:Nat) (l:List (List C))
 |room (n:Nat) (a b:List (List C))
 |made (n:Nat) (x:Int)
 |bytes (l:List (List C))
 |ofStr (s:List UInt8)
 |cln (l:List (List C))
 |subA (cs:List C) (i sz off k:Nat)
 |putA (cs:List C) (i sz off:Nat) (x:List C)
 |call (f:FuncId) (st:List Entry) (as:List V)
 |loop (f:FuncId) (b:Code) (s:S)
 |tr (b:Bool)
def M.ans (μ:M):Ask→Option Ans
 | .add k a b=>some (.i (μ.p.add k a b))
 | .sub k a b=>some (.i (μ.p.sub k a b))
 | .mul k a b=>some (.i (μ.p.mul k a b))
 | .quo k a b=>some (.i (μ.p.quo k a b))
 | .rem a b=>some (.i (μ.p.rem a b))
 | .bit op k a b=>some (.i (μ.p.bit op k a b))
 | .neg k a=>some (.i (μ.p.neg k a))
 | .conv k a=>some (.i (μ.p.conv k a))
 | .nz a=>some (.b (μ.p.nz a))
 | .eqI a b=>some (.b (μ.p.eqI a b))
 | .ltI a b=>some (.b (μ.p.ltI a b))
 | .leI a b=>some (.b (μ.p.leI a b))
 | .maxI a b=>some (.i (μ.p.maxI a b))
 | .minI a b=>some (.i (μ.p.minI a b))
 | .eqB a b=>some (.b (μ.p.eqB a b))
 | .notB a=>some (.b (μ.p.notB a))
 | .eqS a b=>some (.b (μ.p.eqS a b))
 | .fits a b=>some (.b (μ.p.fits a b))
 | .catS a b=>some (.s (μ.p.catS a b))
 | .ltS a b=>some (.b (μ.p.ltS a b))
 | .len l=>some (.i (μ.p.len l))
 | .lenS l=>some (.i (μ.p.lenS l))
 | .nat n=>(μ.p.nat n).map .n
 | .idx l i=>(μ.p.idx l i).map .e
 | .idxS l i=>(μ.p.idxS l i).map .u
 | .byteI b=>some (.i (μ.p.byteI b))
 | .setL l i e=>some (.l (μ.p.setL l i e))
 | .app a b=>some (.l (μ.p.app a b))
 | .cut l lo hi=>(μ.p.cut l lo hi).map .l
 | .cutS l lo hi=>(μ.p.cutS l lo hi).map .s
 | .rep n z=>some (.l (μ.p.rep n z))
 | .view l=>some (.l (μ.p.view l))
 | .pl l=>some (.b (μ.p.pl l))
 | .uni n l=>some (.b (μ.p.uni n l))
 | .room n a b=>some (.b (μ.p.room n a b))
 | .made n x=>(μ.p.made n x).map .n
 | .bytes l=>(μ.p.bytes l).map .s
 | .ofStr s=>some (.l (μ.p.ofStr s))
 | .cln l=>some (.b (μ.p.cln l))
 | .subA cs i sz off k=>(μ.p.subA cs i sz off k).map .e
 | .putA cs i sz off x=>(μ.p.putA cs i sz off x).map .e
 | .call f st as=>(μ.call f st as).map fun r=> .r r.1 r.2
 | .loop f b s=>(μ.loop f b s).map fun r=> .x r.1 r.2
 | .tr b=>some (.b b)
inductive F (α:Type) where
 |pure (a:α)
 |fail
 |ask (q:Ask) (k:Ans→F α)
def F.bind {α β:Type}:F α→(α→F β)→F β
 | .pure a,f=>f a
 | .fail,_=> .fail
 | .ask q k,f=> .ask q fun x=>(k x).bind f
def F.map {α β:Type} (x:F α) (f:α→β):F β:=x.bind fun a=> .pure (f a)
def F.run {α:Type} (μ:M):F α→Option α
 | .pure a=>some a
 | .fail=>none
 | .ask q k=>(μ.ans q).bind fun x=>(k x).run μ
def F.of {α:Type}:Option α→F α
 |some a=> .pure a
 |none=> .fail
def aB {α:Type} (q:Ask) (k:Bool→F α):F α:= .ask q fun| .b x=>k x|_=> .fail
def aI {α:Type} (q:Ask) (k:Int→F α):F α:= .ask q fun| .i x=>k x|_=> .fail
def aN {α:Type} (q:Ask) (k:Nat→F α):F α:= .ask q fun| .n x=>k x|_=> .fail
def aL {α:Type} (q:Ask) (k:List (List C)→F α):F α:= .ask q fun| .l x=>k x|_=> .fail
def aE {α:Type} (q:Ask) (k:List C→F α):F α:= .ask q fun| .e x=>k x|_=> .fail
def aS {α:Type} (q:Ask) (k:List UInt8→F α):F α:= .ask q fun| .s x=>k x|_=> .fail
def aU {α:Type} (q:Ask) (k:UInt8→F α):F α:= .ask q fun| .u x=>k x|_=> .fail
def aR {α:Type} (q:Ask) (k:V×List Entry→F α):F α:= .ask q fun| .r v st=>k (v,st)|_=> .fail
def aX {α:Type} (q:Ask) (k:Ex×S→F α):F α:= .ask q fun| .x e s=>k (e,s)|_=> .fail
def zlx {α:Type}:List Ans→F α→Option (α×List (Ask×Ans))
 |[],.pure a=>some (a,[])
 |x::xs,.ask q k=>match zlx xs (k x)with
  |some (a,l)=>some (a,(q,x)::l)
  |none=>none
 |_,_=>none
/-! #### the machine again, as a tree -/
def vwF (st:List Entry):C→F C
 | .ref id=>match get st id with
  | .obj _ l=>aL (.view l) fun y=> .pure (.seq y)
  |_=> .fail
 | .own _ _=> .fail
 | .nils=> .pure (.seq [])
 |c=> .pure c
def BS (st:List Entry):List C→F (List C)
 |[]=> .pure []
 |c::cs=>(vwF st c).bind fun x=>(BS st cs).bind fun xs=> .pure (x::xs)
abbrev FR:=F (V×List Entry×List Nat)
def xJ (s:S) (v:V):FR:= .pure (v,s.st,[])
def HX (k:IntKind) (op:BinOp) (a b:Int):F C:=
 match op with
 | .add=>aI (.add k a b) fun x=> .pure (.int k x)
 | .sub=>aI (.sub k a b) fun x=> .pure (.int k x)
 | .mul=>aI (.mul k a b) fun x=> .pure (.int k x)
 | .quo=>aB (.nz b) fun z=>bif z then aI (.quo k a b) fun x=> .pure (.int k x)else .fail
 | .rem=>aB (.nz b) fun z=>bif z then aI (.rem a b) fun x=> .pure (.int k x)else .fail
 | .shl=>aB (.leI 0 b) fun z=>bif z then aI (.bit .shl k a b) fun x=> .pure (.int k x)else .fail
 | .shr=>aB (.leI 0 b) fun z=>bif z then aI (.bit .shr k a b) fun x=> .pure (.int k x)else .fail
 | .and=>aI (.bit .and k a b) fun x=> .pure (.int k x)
 | .or=>aI (.bit .or k a b) fun x=> .pure (.int k x)
 | .xor=>aI (.bit .xor k a b) fun x=> .pure (.int k x)
 | .eql=>aB (.eqI a b) fun x=> .pure (.bool x)
 | .neq=>aB (.eqI a b) fun x=>aB (.notB x) fun y=> .pure (.bool y)
 | .lss=>aB (.ltI a b) fun x=> .pure (.bool x)
 | .leq=>aB (.leI a b) fun x=> .pure (.bool x)
 | .gtr=>aB (.ltI b a) fun x=> .pure (.bool x)
 | .geq=>aB (.leI b a) fun x=> .pure (.bool x)
 |_=> .fail
def BT (op:BinOp) (td:TD):C→C→F C
 | .int k a,.int k' b=>if k=k' then HX k op a b else .fail
 | .bool a,.bool b=>match op,td with
  | .eql,.bool=>aB (.eqB a b) fun x=> .pure (.bool x)
  | .neq,.bool=>aB (.eqB a b) fun x=>aB (.notB x) fun y=> .pure (.bool y)
  |_,_=> .fail
 | .str a,.str b=>match op with
  | .eql=>aB (.eqS a b) fun x=> .pure (.bool x)
  | .neq=>aB (.eqS a b) fun x=>aB (.notB x) fun y=> .pure (.bool y)
  | .add=>aB (.fits a b) fun z=>bif z then aS (.catS a b) fun x=> .pure (.str x)else .fail
  | .lss=>aB (.ltS a b) fun x=> .pure (.bool x)
  | .gtr=>aB (.ltS b a) fun x=> .pure (.bool x)
  | .leq=>aB (.ltS b a) fun x=>aB (.notB x) fun y=> .pure (.bool y)
  | .geq=>aB (.ltS a b) fun x=>aB (.notB x) fun y=> .pure (.bool y)
  |_=> .fail
 |c,.raw (.pointer none)=> .of (JF op td (Wt c))
 |_,_=> .fail
def unF (op:UnOp):C→F C
 | .int k n=>match op with | .neg=>aI (.neg k n) fun x=> .pure (.int k x)|_=> .fail
 | .bool b=>match op with | .not=>aB (.notB b) fun x=> .pure (.bool x)|_=> .fail
 |_=> .fail
def T9:C→F Nat
 | .int _ n=>aN (.nat n) fun x=> .pure x
 |_=> .fail
def MT (fl:Bool) (st:List Entry):C→F (List (List C)×List Entry×List Nat)
 | .nils=> .pure ([],st,[])
 | .seq l=> .pure (l,st,[])
 | .ref id=>match get st id with
  | .obj _ l=>bif fl then .pure (l,put st id .dead,[id])else aB (.pl l) fun z=>bif z then .pure (l,st,[])else .pure (l,put st id .dead,[id])
  |_=> .fail
 | .str s=>aL (.ofStr s) fun y=> .pure (y,st,[])
 |_=> .fail
def UN (s:S):Option Operand→F (Option Nat)
 |none=> .pure none
 |some x=>(F.of (zo s x)).bind fun c=>(T9 c).bind fun n=> .pure (some n)
def K8 (st:List Entry) (lend:List Nat):Nat→List V→F (List V)
 |_,[]=> .pure []
 |k,v::vs=>match v with
  | .val g cs=>(if lend.contains k then .pure cs else BS st cs).bind fun x=>(K8 st lend (k+1) vs).bind fun y=> .pure (.val g x::y)
  |_=> .fail
def zly:C→F Bool
 | .seq _| .rptr _| .fn _ _| .box _=> .pure false
 | .own _ l=>aB (.cln l) fun x=> .pure x
 |_=> .pure true
def MU:List C→F Bool
 |[]=> .pure true
 |c::cs=>(zly c).bind fun x=>bif x then MU cs else .pure false
def BU:List (Bool×List C)→F Bool
 |[]=> .pure true
 |v::vs=>(MU v.2).bind fun x=>bif x then BU vs else .pure false
def zlz:V→F Bool
 | .val _ cs=>MU cs
 | .tup vs=>BU vs
 | .dead=> .pure true
def zar:Entry→F Bool
 | .var cs=>MU cs
 | .obj _ l=>aB (.cln l) fun x=> .pure x
 | .hole .. => .pure false
 | .mp _=> .pure false
 | .dead=> .pure true
def Hk:List Entry→F Bool
 |[]=> .pure true
 |e::es=>(zar e).bind fun x=>bif x then Hk es else .pure false
variable (cfg:Cfg)
def HY (nid:Nat) (s:S) (f:FuncId) (args:List V):FR:=
 (K8 s.st (cfg.lend f) 0 args).bind fun as=>
 let ks0:=Yy [] (xn as)
 let ks:=Yy ks0 (ks0.flatMap fun k=>zv (get s.st k))
 let vs:=YV (cfg.lend f) 0 args
 bif vs.any fun i=>ks.contains i then .fail else
 (F.of (Kt s.st ks ks)).bind fun st0=>(F.of (JG ks as)).bind fun as'=>aR (.call f st0 as') fun r=>
  (bif vs.isEmpty then .pure true else(zlz r.1).bind fun x=>bif x then Hk r.2 else .pure false).bind fun ok=>
  bif Nat.beq r.2.length ks.length&&ok then
   let q:=yy r
   let ks':=ks++(List.range (q.2.length - ks.length)).map (nid+·)
   (F.of (Ku ks' q.1)).bind fun v=>(F.of (YC ks' ks' q.2 s.st)).bind fun st'=> .pure (v,st',ks')
  else .fail
def zdv (nid:Nat) (st:List Entry):C→F (C×List Entry×List Nat)
 | .ref id=>bif Nat.blt id nid then .pure (.ref id,st,[])else match get st id with
  | .obj _ l=>aL (.view l) fun y=> .pure (.seq y,put st id .dead,[id])
  |_=> .fail
 | .nils=> .pure (.seq [],st,[])
 | .own _ _=> .fail
 | .fn _ _=> .fail
 | .box _=> .fail
 |c=> .pure (c,st,[])
def MV (nid:Nat) (st:List Entry):List C→F (List C×List Entry×List Nat)
 |[]=> .pure ([],st,[])
 |c::cs=>(zdv nid st c).bind fun x=>(MV nid x.2.1 cs).bind fun y=> .pure (x.1::y.1,y.2.1,x.2.2++y.2.2)
def BV (nid:Nat) (st:List Entry):List (Bool×List C)→F (List (Bool×List C)×List Entry×List Nat)
 |[]=> .pure ([],st,[])
 |(g,cs)::vs=>(MV nid st cs).bind fun x=>(BV nid x.2.1 vs).bind fun y=> .pure ((g,x.1)::y.1,y.2.1,x.2.2++y.2.2)
def HZ (nid:Nat) (st:List Entry):V→F (V×List Entry×List Nat)
 | .val g cs=>(MV nid st cs).bind fun x=> .pure (.val g x.1,x.2)
 | .tup vs=>(BV nid st vs).bind fun x=> .pure (.tup x.1,x.2)
 | .dead=> .pure (.dead,st,[])
def MW (nid:Nat) (d:Option Tmp) (r:V×List Entry×List Nat):FR:=
 bif wanted cfg.own d then .pure r else(HZ nid r.2.1 r.1).bind fun x=>
  bif x.2.2.all (fun g=>r.2.2.any (Nat.beq g))&&r.2.2.all (fun j=>(zv (get x.2.1 j)).all fun i=> !x.2.2.any (Nat.beq i))&&(yk x.1).all (fun i=> !x.2.2.any (Nat.beq i))then .pure (x.1,x.2.1,r.2.2)else .fail
def Lg (s:S) (t:TI):C→F V
 | .ptr id off=> .of (match get s.st id with
  | .var cs=>if off+t.size<=cs.length then mk t.agg ((cs.drop off).take t.size)else none
  |_=>none)
 | .eptr id i sz off=>match get s.st id with
  | .obj z l=>aE (.idx l i) fun e=> .of (if z=sz∧e.length=sz∧off+t.size<=e.length then let q:=(e.drop off).take t.size;bif q.all plain then mk t.agg q else none else none)
  | .var cs=>aE (.subA cs i sz off t.size) fun x=> .of (mk t.agg x)
  |_=> .fail
 | .rptr cs=> .of (if t.size<=cs.length then mk t.agg (cs.take t.size)else none)
 |_=> .fail
def UO (s:S) (t:TI) (cs:List C):C→FR
 | .ptr id off=>match get s.st id with
  | .var old=>if cs.length=t.size∧off+t.size<=old.length then
   .pure (.dead,put s.st id (.var (old.take off++cs++old.drop (off+t.size))),[id])else .fail
  |_=> .fail
 | .eptr id i sz off=>match get s.st id with
  | .obj s0 l=>aE (.idx l i) fun e=>if s0=sz∧e.length=sz∧cs.length=t.size∧off+t.size<=e.length then
   (F.of (Ks s.st cs)).bind fun x=>
   if x.2.2.contains id then .fail
   else aL (.setL l i (e.take off++x.1++e.drop (off+t.size))) fun y=> .pure (.dead,put x.2.1 id (.obj s0 y),x.2.2++[id])
   else .fail
  | .var old=>if cs.length=t.size then aE (.putA old i sz off cs) fun x=> .pure (.dead,put s.st id (.var x),[id])else .fail
  |_=> .fail
 |_=> .fail
def X8 (s:S) (nid:Nat) (b:Builtin) (ts:Array TypeId) (xs:List Operand):FR:=
 match b,xs with
 | .len,[x]=>(F.of (zo s x)).bind fun c=>match(ts[0]?).map (zx cfg),c with
  |some (.slice _),.nils=>xJ s (.val false [.int .i64 0])
  |some (.slice _),.seq l=>aI (.len l) fun n=>xJ s (.val false [.int .i64 n])
  |some .string,.str l=>aI (.lenS l) fun n=>xJ s (.val false [.int .i64 n])
  |some (.slice _),.ref id=>(F.of (jR s.st id)).bind fun q=>aI (.len q.2) fun n=>xJ s (.val false [.int .i64 n])
  |_,_=> .fail
 | .append,[x,y]=>(F.of (zo s x)).bind fun a=>(F.of (zo s y)).bind fun b=>
  match(ts[0]?).bind cfg.T with
  |some { d:= .slice e,.. }=>match cfg.T e with
   |some te=>
    (F.of (match a with
     | .nils=>some ([],s.st,[])
     | .ref id=>match get s.st id with
      | .obj sz l=>if sz=te.size then some (l,put s.st id .dead,[id])else none
      |_=>none
     |_=>none)).bind fun(p:List (List C)×List Entry×List Nat)=>(MT (Hs cfg.fz y) p.2.1 b).bind fun q=>
    aB (.room te.bytes p.1 q.1) fun z1=>aB (.uni te.size q.1) fun z2=>
    bif z1&&z2&&Nat.blt 0 te.size&&(match(ts[1]?).map (zx cfg)with |some (.slice _)=>true|some .string=>true|_=>false)then
     aL (.app p.1 q.1) fun y=> .pure (.val false [.ref nid],put q.2.1 nid (.obj te.size y),p.2.2++q.2.2++[nid])
    else .fail
   |none=> .fail
  |_=> .fail
 | .max,[x,y]=>(F.of (zo s x)).bind fun a=>(F.of (zo s y)).bind fun b=>match a,b with
  | .int .i64 x,.int .i64 y=>aI (.maxI x y) fun z=>xJ s (.val false [.int .i64 z])
  |_,_=> .fail
 | .min,[x,y]=>(F.of (zo s x)).bind fun a=>(F.of (zo s y)).bind fun b=>match a,b with
  | .int .i64 x,.int .i64 y=>aI (.minI x y) fun z=>xJ s (.val false [.int .i64 z])
  |_,_=> .fail
 |_,_=> .fail
def Ea (s:S) (t:TI) (nid:Nat):C→FR
 | .eptr id i sz off=>match get s.st id with
  | .obj s0 l=>aE (.idx l i) fun e=>bif Nat.beq s0 sz&&Nat.beq e.length sz&&Nat.ble (off+t.size) e.length&&t.agg then
   (F.of (XG s.st id s0 l i nid off ((e.drop off).take t.size))).bind fun y=> .pure (.val true y.1,y.2.2,id::y.2.1.map (·.2))else .fail
  |_=> .fail
 |_=> .fail
def PU (s:S) (t:TI) (nid:Nat):C→FR
 | .eptr id i sz off=>match get s.st id with
  | .obj s0 l=>aE (.idx l i) fun e=>match e[off]? with
   |some (.own sz' l')=>bif Nat.beq s0 sz&&Nat.beq e.length sz&&Nat.beq t.size 1&& !t.agg then .pure (.val false [.ref nid],put (put s.st id (.hole s0 l i [(off,nid)])) nid (.obj sz' l'),[id,nid])else .fail
   |_=> .fail
  |_=> .fail
 |_=> .fail
def TA:List (List UInt8×Bool×List C)→List UInt8→F (Option (Bool×List C))
 |[],_=> .pure none
 |e::r,a=>aB (.eqS a e.1) fun z=>bif z then .pure (some e.2)else TA r a
def yZ (nid:Nat) (s:S) (o:Oper):FR:=
 match o.op with
 | .makeMap _ none=> .pure (.val false [.ref nid],put s.st nid (.mp []),[nid])
 | .insert t q k x=>(F.of (zo s q)).bind fun c=>(F.of (zo s k)).bind fun d=>match c,d,s.ev x,zx cfg t with
  | .ref id,.str a,.val g cs,.map kt _=>match get s.st id with
   | .mp es=>bif Q4 (zx cfg kt)&&cs.all plain then(TA es a).bind fun r=>match r with
    |none=> .pure (.dead,put s.st id (.mp (es++[(a,g,cs)])),[id])
    |some _=> .fail
    else .fail
   |_=> .fail
  |_,_,_,_=> .fail
 | .lookup t q k ok=>(F.of (zo s q)).bind fun c=>(F.of (zo s k)).bind fun d=>match c,d,zx cfg t with
  | .ref id,.str a,.map kt et=>match get s.st id with
   | .mp es=>bif Q4 (zx cfg kt)then(TA es a).bind fun r=>match r with
    |some (g,cs)=>xJ s (bif ok then .tup [(g,cs),(false,[.bool true])]else .val g cs)
    |none=>(F.of (cfg.T et)).bind fun i=>xJ s (bif ok then .tup [(i.agg,i.zero),(false,[.bool false])]else .val i.agg i.zero)
    else .fail
   |_=> .fail
  |_,_,_=> .fail
 | .move x| .assign x=>xJ s (s.ev x)
 | .pick c a b=>(F.of (Ws (s.ev c))).bind fun t=>aB (.tr t) fun t=>xJ s (bif t then s.ev a else s.ev b)
 | .alloc t=>(F.of (cfg.T t)).bind fun i=> .pure (.val false [.ptr nid 0],put s.st nid (.var i.zero),[nid])
 | .box _ x=>(F.of ((s.ev x).cells)).bind fun cs=> .pure (.val false [.ptr nid 0],put s.st nid (.var cs),[nid])
 | .build t ps=>(F.of (cfg.T t)).bind fun i=>(F.of (vy s ps.toList)).bind fun q=>match i.d with
  | .struct fs=>(F.of (fill (Yc cfg fs) i.zero q)).bind fun cs=>bif fs.all fun f=>(cfg.T f.2).isSome then xJ s (.val true cs)else .fail
  | .array _ e=>match q with
   |[]=>bif i.agg&&(cfg.T e).isSome then xJ s (.val true i.zero)else .fail
   |_=> .fail
  |_=> .fail
 | .buildSlice t n ps=>match zx cfg t with
  | .slice e=>(F.of (cfg.T e)).bind fun te=>(F.of (vy s ps.toList)).bind fun q=>
   if n*te.size<=2 ^ 24 then
    (F.of (XF n te.size 0 s.st [] (List.replicate n (yC te.zero)) q)).bind fun x=>.pure (.val false [.ref nid],put x.2.1 nid (.obj te.size x.1),x.2.2++[nid])
   else .fail
  |_=> .fail
 | .load t x=>(F.of (cfg.T t)).bind fun i=>(F.of (zo s x)).bind fun a=>bif wanted cfg.own o.dst then(bif i.agg then Ea s i nid a else PU s i nid a)else(Lg s i a).bind fun v=>xJ s v
 | .store t x y=>(F.of (cfg.T t)).bind fun i=>(F.of (zo s x)).bind fun a=>(F.of ((s.ev y).cells)).bind fun cs=>UO s i cs a
 | .nilCheck x=>(F.of (zo s x)).bind fun a=>if UE a then xJ s (.val false [a])else .fail
 | .binOp op t x y _=>(F.of (zo s x)).bind fun a=>(F.of (zo s y)).bind fun b=>(bif J7 (zx cfg t)then F.of (He op y a)else BT op (zx cfg t) a b).bind fun c=>xJ s (.val false [c])
 | .unOp op _ x=>(F.of (zo s x)).bind fun a=>(unF op a).bind fun c=>xJ s (.val false [c])
 | .convert a b x=>(F.of (zo s x)).bind fun c=>match zx cfg a,zx cfg b,c with
  | .int _,.int k,.int _ n=>aI (.conv k n) fun z=>xJ s (.val false [.int k z])
  | .string,.string,.str l=>xJ s (.val false [.str l])
  | .slice e,.string,c=>match zx cfg e with
   | .int .u8=>match c with
    | .nils=>xJ s (.val false [.str []])
    | .seq l=>aS (.bytes l) fun q=>xJ s (.val false [.str q])
    | .ref id=>(F.of (jR s.st id)).bind fun q=>aS (.bytes q.2) fun q=>xJ s (.val false [.str q])
    |_=> .fail
   |_=> .fail
  | .string,.slice e,.str l=>match zx cfg e with
   | .int .u8=>aL (.ofStr l) fun y=> .pure (.val false [.ref nid],put s.st nid (.obj 1 y),[nid])
   |_=> .fail
  | .slice e,.slice _,.ref id=>match zx cfg e,get s.st id with
   | .int .u8,.obj 1 l=>aI (.len l) fun n=>aB (.ltI 0 n) fun z=>bif Nat.beq a b&&z then .pure (.val false [.ref id],s.st,[id])else .fail
   |_,_=> .fail
  |_,_,_=> .fail
 | .makeFunc (.func f) first caps=>(F.of ((caps.toList.map s.ev).mapM V.one)).bind fun cs=>bif first.toList.isEmpty&&cs.all Hg then xJ s (.val false [.fn f cs])else .fail
 | .makeSlice t n n2=>match zx cfg t with
  | .slice e=>(F.of (cfg.T e)).bind fun te=>(F.of (zo s n)).bind fun a=>(F.of (zo s n2)).bind fun b=>match a,b with
   | .int .i64 x,.int .i64 y=>aB (.eqI x y) fun z=>bif z&&Nat.beq te.zero.length te.size then aN (.made te.bytes x) fun k=>aL (.rep k (bif cfg.nl then XN te.zero (M3 cfg 8 e)else yC te.zero)) fun l=>.pure (.val false [.ref nid],put s.st nid (.obj te.size l),[nid])else .fail
   |_,_=> .fail
  |_=> .fail
 | .slice t x lo hi mx=>match mx with
  |none=>(F.of (zo s x)).bind fun a=>(UN s lo).bind fun l=>(UN s hi).bind fun h=>match zx cfg t,a with
   | .string,.str q=>aS (.cutS q l h) fun b=>xJ s (.val false [.str b])
   | .slice e,.nils=>aL (.cut [] l h) fun _=>bif Nat.blt 0 (sizeOf? cfg e)then xJ s (.val false [.nils])else .fail
   | .slice e,.seq q=>aL (.cut q l h) fun b=>aB (.uni (sizeOf? cfg e) q) fun z=>bif z&&Nat.blt 0 (sizeOf? cfg e)then xJ s (.val false [.seq b])else .fail
   | .slice e,.ref id=>match get s.st id with
    | .obj sz q=>aL (.cut q l h) fun b=>if sz=sizeOf? cfg e∧0<sz then
     .pure (.val false [.ref nid],put (put s.st id .dead) nid (.obj sz b),[id,nid])else .fail
    |_=> .fail
   |_,_=> .fail
  |some _=> .fail
 | .fieldAddr t x f=>(F.of (cfg.T t)).bind fun i=>(F.of (zo s x)).bind fun a=>match i.d with
  | .struct fs=>match fs[f]? with
   |some (o,ft)=>if sizeOf? cfg ft=0 then .fail else match a with
    | .ptr id off=>xJ s (.val false [.ptr id (off+o)])
    | .eptr id j sz off=>xJ s (.val false [.eptr id j sz (off+o)])
    | .rptr cs=>if o<cs.length then xJ s (.val false [.rptr ((cs.drop o).take (sizeOf? cfg ft))])else .fail
    |_=> .fail
   |none=> .fail
  |_=> .fail
 | .field t x f=>(F.of (cfg.T t)).bind fun i=>(F.of ((s.ev x).cells)).bind fun cs=>match i.d,s.ev x with
  | .struct fs,.val true _=>match fs[f]? with
   |some (o,ft)=>(F.of (cfg.T ft)).bind fun j=>if o+j.size<=cs.length then(F.of (mk j.agg ((cs.drop o).take j.size))).bind (xJ s)else .fail
   |none=> .fail
  |_,_=> .fail
 | .indexAddr t x y=>(F.of (zo s x)).bind fun a=>(F.of (zo s y)).bind fun b=>(T9 b).bind fun i=>match zx cfg t,a with
  | .slice e,.seq l=>aE (.idx l i) fun q=>if q.length=sizeOf? cfg e∧0<q.length then xJ s (.val false [.rptr q])else .fail
  | .slice e,.ref id=>(F.of (jR s.st id)).bind fun q=>aE (.idx q.2 i) fun _=>
   if q.1=sizeOf? cfg e∧0<q.1 then xJ s (.val false [.eptr id i q.1 0])else .fail
  | .array n e,.ptr id off=>match get s.st id with
   | .var _=>aB (.ltI i n) fun z=>bif z&&Nat.beq off 0&&Nat.blt 0 (sizeOf? cfg e)then xJ s (.val false [.eptr id i (sizeOf? cfg e) 0])else .fail
   |_=> .fail
  |_,_=> .fail
 | .index t x y=>(F.of (zo s y)).bind fun b=>(T9 b).bind fun i=>match zx cfg t,s.ev x with
  | .string,.val false [.str l]=>aU (.idxS l i) fun b=>aI (.byteI b) fun z=>xJ s (.val false [.int .u8 z])
  | .array n e,.val true cs=>(F.of (cfg.T e)).bind fun te=>aB (.ltI i n) fun z=>bif z then aE (.subA cs i te.size 0 te.size) fun x=>(F.of (mk te.agg x)).bind (xJ s)else .fail
  |_,_=> .fail
 | .extract x i=>match s.ev x with
  | .tup vs=>match vs[i]? with
   |some (g,cs)=>xJ s (.val g cs)
   |none=> .fail
  |_=> .fail
 | .call cl=>match cl.callee with
  | .builtin b=>X8 cfg s nid b cl.argTypes cl.args.toList
  | .value g=>match(s.ev g).one with
   |some (.fn f caps)=>(HY cfg nid s f (cl.args.toList.map s.ev++caps.map fun c=> .val false [c])).bind (MW cfg nid o.dst)
   |_=> .fail
  | .invoke .. => .fail
 |_=> .fail
def Lh:List Tmp→List (Nat×V)→List Entry→F (List (Nat×V)×List Entry×List Nat)
 |[],sl,st=> .pure (sl,st,[])
 |t::r,sl,st=>(HZ 0 st (zE sl t)).bind fun x=>
  bif (yk x.1).all fun i=> !x.2.2.any (Nat.beq i)then(Lh r ((t,x.1)::sl) x.2.1).bind fun y=> .pure (y.1,y.2.1,x.2.2++y.2.2)else .fail
def Li (nid:Nat) (s:S) (o:Oper):FR:=
 bif cfg.nl then(yZ cfg nid s o).bind fun r=> .pure (QG cfg nid s o r)else yZ cfg nid s o
def Eb (st:List Entry) (id:Nat):F (List Entry×List Nat):=
 match get st id with
 | .hole sz l i hs=>match hs with
  |(off,h)::r=>match get st h with
   | .obj sz' l'=>bif r.any (fun x=>Nat.beq x.1 off)then .fail else aE (.idx l i) fun e=>aL (.setL l i (e.set off (.own sz' l'))) fun y=> .pure (put (put st h .dead) id (.hole sz y i r),[id,h])
   |_=> .fail
  |[]=> .pure (put st id (.obj sz l),[id])
 |_=> .pure (st,[])
def Lj:List Nat→List Entry→F (List Entry×List Nat)
 |[],st=> .pure (st,[])
 |id::r,st=>(Eb st id).bind fun x=>(Lj r x.1).bind fun y=> .pure (y.1,x.2++y.2)
def Ec (ids:List Nat) (st:List Entry):F (List Entry×List Nat):=Lj (Hf st ids) st
def Lk (nid:Nat) (s:S) (o:Oper):FR:=
 match M5 cfg.fz s o with
 |[]=>Li cfg nid s o
 |t::r=>(Lh (t::r) s.sl s.st).bind fun x=>(Li cfg nid ⟨x.1,x.2.1,s.k⟩ o).bind fun y=> .pure (y.1,y.2.1,y.2.2++x.2.2)
def Ed (st:List Entry) (id:Nat):F (List Entry×List Nat):=
 match get st id with
 | .obj sz l=>aL (.view l) fun y=> .pure (put st id (.obj sz y),[id])
 |_=> .pure (st,[])
def Ll:List Nat→List Entry→F (List Entry×List Nat)
 |[],st=> .pure (st,[])
 |id::r,st=>(Ed st id).bind fun x=>(Ll r x.1).bind fun y=> .pure (y.1,x.2++y.2)
def Lm (nid:Nat) (s:S) (o:Oper):FR:=
 match M6 cfg.th s o with
 |[]=>Lk cfg nid s o
 |id::r=>(Ll (id::r) s.st).bind fun x=>(Lk cfg nid ⟨s.sl,x.1,s.k⟩ o).bind fun y=> .pure (y.1,y.2.1,y.2.2++x.2)
def Ln (nid:Nat) (s:S) (o:Oper):FR:=
 match M4 s o with
 |[]=>Lm cfg nid s o
 |id::r=>(Ec (id::r) s.st).bind fun x=>(Lm cfg nid ⟨s.sl,x.1,s.k⟩ o).bind fun y=> .pure (y.1,y.2.1,y.2.2++x.2)
def Lo (ops:List Oper) (nid:Nat) (s:S) (o:Oper):FR:=
 match o.guard with
 |none=>Ln cfg nid s o
 |some (j,want)=>match(ops[j]?).bind (·.dst)with
  |some d=>match zE s.sl d with
   | .val false [.bool b]=>aB (.tr b) fun b=>if b=want then Ln cfg nid s o else xJ s (.tup [])
   | .tup []=>xJ s (.tup [])
   |_=> .fail
  |none=> .fail
def UP (all:List Oper):List Oper→S→F S
 |[],s=> .pure s
 |o::r,s=>(Lo cfg all s.st.length s o).bind fun x=>
  bif Nat.ble s.st.length x.2.1.length&&(yk x.1).all (fun i=>Nat.blt i x.2.1.length)&&x.2.2.all (fun j=>(zv (get x.2.1 j)).all fun i=>Nat.blt i x.2.1.length)then
   UP all r ⟨Kx s.sl o.dst x.1,x.2.1,s.k⟩else .fail
def VT (all:List Oper):List Oper→S→List Foot→F (S×List Foot)
 |[],s,fs=> .pure (s,fs)
 |o::r,s,fs=>(Lo cfg all s.st.length ⟨trim s.sl (Jv all o),YZ s.st (reads all s o),s.k⟩ o).bind fun x=>
  bif Ky s.st.length (reads all s o) x then
   VT all r ⟨Kx s.sl o.dst x.1,Xa s.st x.2.1 x.2.2,s.k⟩ (fs++[⟨Jv all o,o.dst.toList,reads all s o,x.2.2⟩])else .fail
def VU (prs:List (Nat×Nat)) (ops:List Oper) (draw:Bool) (s:S):F S:=
 if draw then(VT cfg ops ops s []).bind fun x=>if Ht prs x.2 then .pure x.1 else .fail
 else UP cfg ops ops s
def MX (st:List Entry) (id:Nat):F (List Entry):=
 match get st id with
 | .var cs=>(MV 0 st cs).bind fun x=>bif (zu x.1).all fun i=> !x.2.2.any (Nat.beq i)then .pure (put x.2.1 id (.var x.1))else .fail
 |_=> .pure st
def VV:List Nat→List Entry→F (List Entry)
 |[],st=> .pure st
 |id::r,st=>(MX st id).bind fun x=>VV r x
def Xd (f:FuncId):Code→S→F (Ex×S)
 | .skip,s=> .pure (.normal,s)
 | .region id ops draw,s=>(VU { cfg with own:=cfg.ownT f id,fz:=cfg.fzT f id,nl:=cfg.nlT f,th:=cfg.thT f id } (cfg.free f id) ops.toList draw s).bind fun s'=>(Ec (PJ s'.k (trim s'.sl (cfg.keep f id)) s'.st) s'.st).bind fun x=>(VV (cfg.vz f id) x.1).bind fun y=> .pure (.normal,norm ⟨trim s'.sl (cfg.keep f id),y,s'.k⟩)
 | .seq a b,s=>(Xd f a s).bind fun x=>match x with
  |(.normal,s)=>Xd f b s
  |x=> .pure x
 | .cond x a b,s=>match Ws (s.ev x)with
  |some t=>aB (.tr t) fun t=>bif t then Xd f a s else Xd f b s
  |none=> .fail
 | .block id b,s=>(Xd f b s).bind fun x=>match x with
  |(.exit i,s)=>if i=id then .pure (.normal,s)else .pure (.exit i,s)
  |x=> .pure x
 | .loop b,s=>aX (.loop f b s) .pure
 | .exit id,s=> .pure (.exit id,zcl (cfg.xk f id) s)
 | .ret,s=> .pure (.ret,s)
 |_,_=> .fail
def Hl (s:S):ResultVar→F (Bool×List C)
 | .tmp t=>match zE s.sl t with
  | .val g cs=> .pure (g,cs)
  |_=> .fail
 | .cell a t=>match(zE s.sl a).one,cfg.T t with
  |some c,some i=>(Lg s i c).bind fun v=>match v with
   | .val g cs=> .pure (g,cs)
   |_=> .fail
  |_,_=> .fail
def BW (s:S):List ResultVar→F (List (Bool×List C))
 |[]=> .pure []
 |x::r=>(Hl cfg s x).bind fun y=>(BW s r).bind fun ys=> .pure (y::ys)
def zhc:C→F C
 | .own _ l=>aL (.view l) fun y=> .pure (.seq y)
 | .nils=> .pure (.seq [])
 | .box _=> .pure (.raw .nilFunc)
 |c=> .pure c
def Lq:List C→F (List C)
 |[]=> .pure []
 |c::cs=>(zhc c).bind fun x=>(Lq cs).bind fun xs=> .pure (x::xs)
def Hm:List (Bool×List C)→F (List (Bool×List C))
 |[]=> .pure []
 |x::vs=>(Lq x.2).bind fun cs=>(Hm vs).bind fun ys=> .pure ((x.1,cs)::ys)
def Hn:V→F V
 | .val g cs=>(Lq cs).bind fun x=> .pure (.val g x)
 | .tup vs=>(Hm vs).bind fun x=> .pure (.tup x)
 | .dead=> .pure .dead
def Lr (f:FuncId) (k:Nat) (rs:List ResultVar) (s:S):F (V×List Entry):=
 (BW cfg s rs).bind fun vs=>(F.of ((KV (!cfg.frz f) k s.st vs).bind fun x=>(QU k x.2 (s.st.take k)).map fun y=>(ZR x.1,y.1))).bind fun z=>
  (bif cfg.frz f then Hn z.1 else .pure z.1).bind fun v=> .pure (v,z.2)
def BX (f:FuncId) (st:List Entry) (args:List V) (code:Code) (nt:Nat) (rs:List ResultVar):F (V×List Entry):=
 bif !kO nt code then .fail else(Xd cfg f code (takeOver (cfg.mv f) ⟨QR 0 args,st,st.length⟩)).bind fun x=>match x with
 |(.normal,s)=>Lr cfg f st.length rs s
 |(.ret,s)=>Lr cfg f st.length rs s
 |_=> .fail
end Go.Am
/- The tree of questions and answers says what the machine says. -/
namespace Go.Am
section
variable {α β:Type} (μ:M)
theorem run_pure (a:α):(F.pure a).run μ=some a:=rfl
theorem yi:(F.fail:F α).run μ=none:=rfl
theorem run_bind (x:F α) (f:α→F β):(x.bind f).run μ=(x.run μ).bind fun a=>(f a).run μ:=by
 induction x with
 |pure a=>rfl
 |fail=>rfl
 |ask q k ih=>
  simp only[F.bind,F.run]
  cases μ.ans q with
  |none=>rfl
  |some x=>exact ih x
theorem yf (x:Option α):(F.of x).run μ=x:=by cases x <;> rfl
theorem yz (c:Bool) (x y:F α):(bif c then x else y).run μ=bif c then x.run μ else y.run μ:=by cases c <;> rfl
theorem ji (c:Prop) [Decidable c] (x y:F α):(if c then x else y).run μ=if c then x.run μ else y.run μ:=by split <;> rfl
theorem vG (q:Ask) (k:Bool→F α) {x:Bool} (h:μ.ans q=some (.b x)):(aB q k).run μ=(k x).run μ:=by simp only[aB,F.run,h,oB]
theorem zas (q:Ask) (k:Int→F α) {x:Int} (h:μ.ans q=some (.i x)):(aI q k).run μ=(k x).run μ:=by simp only[aI,F.run,h,oB]
theorem Ls (q:Ask) (k:List (List C)→F α) {x:List (List C)} (h:μ.ans q=some (.l x)):(aL q k).run μ=(k x).run μ:=by simp only[aL,F.run,h,oB]
theorem zl0 (q:Ask) (k:List UInt8→F α) {x:List UInt8} (h:μ.ans q=some (.s x)):(aS q k).run μ=(k x).run μ:=by simp only[aS,F.run,h,oB]
theorem DY (q:Ask) (k:Nat→F α) {x:Option Nat} (h:μ.ans q=x.map .n):(aN q k).run μ=x.bind fun n=>(k n).run μ:=by
 simp only[aN,F.run,h];cases x <;> rfl
theorem MY (q:Ask) (k:List (List C)→F α) {x:Option (List (List C))} (h:μ.ans q=x.map .l):(aL q k).run μ=x.bind fun n=>(k n).run μ:=by
 simp only[aL,F.run,h];cases x <;> rfl
theorem MZ (q:Ask) (k:List UInt8→F α) {x:Option (List UInt8)} (h:μ.ans q=x.map .s):(aS q k).run μ=x.bind fun n=>(k n).run μ:=by
 simp only[aS,F.run,h];cases x <;> rfl
theorem Ym (q:Ask) (k:List C→F α) {x:Option (List C)} (h:μ.ans q=x.map .e):(aE q k).run μ=x.bind fun n=>(k n).run μ:=by
 simp only[aE,F.run,h];cases x <;> rfl
theorem zib (q:Ask) (k:UInt8→F α) {x:Option UInt8} (h:μ.ans q=x.map .u):(aU q k).run μ=x.bind fun n=>(k n).run μ:=by
 simp only[aU,F.run,h];cases x <;> rfl
theorem zl1 (f:FuncId) (st:List Entry) (as:List V) (k:V×List Entry→F α):(aR (.call f st as) k).run μ=(μ.call f st as).bind fun r=>(k r).run μ:=by
 simp only[aR,F.run,M.ans];cases μ.call f st as <;> rfl
theorem zl2 (f:FuncId) (b:Code) (s:S) (k:Ex×S→F α):(aX (.loop f b s) k).run μ=(μ.loop f b s).bind fun r=>(k r).run μ:=by
 simp only[aX,F.run,M.ans];cases μ.loop f b s <;> rfl
end
section
variable (cfg:Cfg) (μ:M)
theorem zl3 (st:List Entry) (c:C):(vwF st c).run μ=vw μ.p st c:=by
 cases c <;> try rfl
 rename_i id
 simp only[vwF,vw,jR]
 cases get st id <;> simp only[yi,Option.map_none,Option.map_some]
 rw[Ls μ _ _ rfl];rfl
theorem zic (st:List Entry) (cs:List C):(BS st cs).run μ=vws μ.p st cs:=by
 induction cs with
 |nil=>rfl
 |cons c cs ih=>
  simp only[BS,vws,run_bind,zl3,ih,run_pure,Option.map_eq_bind];rfl
theorem zat (k:IntKind) (op:BinOp) (a b:Int):(HX k op a b).run μ=ON μ.p k op a b:=by
 cases op <;> first
  |rfl
  |(simp only[HX,ON];rw[vG μ _ _ rfl,yz,zas μ _ _ rfl];rfl)
theorem zid (op:BinOp) (td:TD) (x y:C):(BT op td x y).run μ=bin μ.p op td x y:=by
 cases y with
 |raw v=>
  cases v with
  |pointer p=>cases p <;> cases x <;> first|rfl|exact yf _ _
  |_=>cases x <;> rfl
 |int k' b=>
  cases x with
  |int k a=>simp only[BT,bin];rw[ji,zat];rfl
  |_=>rfl
 |bool b=>
  cases x with
  |bool a=>cases op <;> cases td <;> rfl
  |_=>rfl
 |str b=>
  cases x with
  |str a=>cases op <;> first
   |rfl
   |(simp only[BT,bin];rw[vG μ _ _ rfl,yz,zl0 μ _ _ rfl];rfl)
  |_=>rfl
 |_=>cases x <;> rfl
theorem zl4 (op:UnOp) (x:C):(unF op x).run μ=un μ.p op x:=by
 cases x <;> cases op <;> rfl
theorem TB (c:C):(T9 c).run μ=YU μ.p c:=by
 cases c <;> try rfl
 rename_i k n
 simp only[T9,YU]
 rw[DY μ _ _ rfl]
 cases μ.p.nat n <;> rfl
theorem BY (fl:Bool) (st:List Entry) (c:C):(MT fl st c).run μ=YB μ.p fl st c:=by
 cases c <;> try rfl
 rename_i id
 simp only[MT,YB]
 cases get st id <;> try rfl
 cases fl
 ·simp only[cond_false];rw[vG μ _ _ rfl,yz];rfl
 ·rfl
theorem BZ (s:S) (x:Option Operand):(UN s x).run μ=kN μ.p s x:=by
 cases x with
 |none=>rfl
 |some x=>
  simp only[UN,kN,run_bind,yf,TB,run_pure,Option.map_eq_bind];rfl
theorem Ee (st:List Entry) (lend:List Nat) (vs:List V):∀k,(K8 st lend k vs).run μ=ZQ μ.p st lend k vs:=by
 induction vs with
 |nil=>intro k;rfl
 |cons v vs ih=>
  intro k
  cases v <;> try rfl
  simp only[K8,ZQ,run_bind,ji,zic,run_pure,ih,Option.map_eq_bind];rfl
theorem zie (c:C):(zly c).run μ=some (clC μ.p c):=by cases c <;> rfl
theorem Na (cs:List C):(MU cs).run μ=some (cs.all (clC μ.p)):=by
 induction cs with
 |nil=>rfl
 |cons c cs ih=>
  simp only[MU,run_bind,zie,oB,yz,ih,run_pure,List.all_cons]
  cases clC μ.p c <;> rfl
theorem zif (vs:List (Bool×List C)):(BU vs).run μ=some (vs.all fun x=>x.2.all (clC μ.p)):=by
 induction vs with
 |nil=>rfl
 |cons c cs ih=>
  simp only[BU,run_bind,Na,oB,yz,ih,run_pure,List.all_cons]
  cases c.2.all (clC μ.p) <;> rfl
theorem zig (v:V):(zlz v).run μ=some (clV μ.p v):=by
 cases v with
 |val g cs=>exact Na μ cs
 |tup vs=>exact zif μ vs
 |dead=>rfl
theorem zau (e:Entry):(zar e).run μ=some (Zm μ.p e):=by
 cases e with
 |var cs=>exact Na μ cs
 |obj sz l=>rfl
 |hole sz l i hs=>rfl
 |mp es=>rfl
 |dead=>rfl
theorem zdw (es:List Entry):(Hk es).run μ=some (es.all (Zm μ.p)):=by
 induction es with
 |nil=>rfl
 |cons c cs ih=>
  simp only[Hk,run_bind,zau,oB,yz,ih,run_pure,List.all_cons]
  cases Zm μ.p c <;> rfl
theorem zav (nid:Nat) (s:S) (f:FuncId) (args:List V):(HY cfg nid s f args).run μ=callF cfg μ nid s f args:=by
 simp only[HY,callF,run_bind,yz,yf,Ee,yi,zl1,run_pure,zig,zdw]
 cases ZQ μ.p s.st (cfg.lend f) 0 args with
 |none=>rfl
 |some as=>
  simp only[oB]
  generalize Yy (Yy [] (xn as)) _=ks
  generalize YV (cfg.lend f) 0 args=vs
  cases vs.any fun i=>ks.contains i with
  |true=>rfl
  |false=>
   simp only[cond_false]
   cases Kt s.st ks ks with
   |none=>rfl
   |some st0=>
    simp only[oB]
    cases JG ks as with
    |none=>rfl
    |some as'=>
     simp only[oB]
     cases μ.call f st0 as' with
     |none=>rfl
     |some r=>
      simp only[oB]
      have key:∀(ok:Bool),(bif Nat.beq r.2.length ks.length&&ok then(Ku (ks++(List.range ((yy r).2.length - ks.length)).map (nid+·)) (yy r).1).bind fun v=>(YC (ks++(List.range ((yy r).2.length - ks.length)).map (nid+·)) (ks++(List.range ((yy r).2.length - ks.length)).map (nid+·)) (yy r).2 s.st).bind fun st'=>some (v,st',ks++(List.range ((yy r).2.length - ks.length)).map (nid+·))else none)=
       (bif Nat.beq r.2.length ks.length&&ok then(Ku (ks++(List.range ((yy r).2.length - ks.length)).map (nid+·)) (yy r).1).bind fun v=>(YC (ks++(List.range ((yy r).2.length - ks.length)).map (nid+·)) (ks++(List.range ((yy r).2.length - ks.length)).map (nid+·)) (yy r).2 s.st).map fun st'=>(v,st',ks++(List.range ((yy r).2.length - ks.length)).map (nid+·))else none):=fun ok=>by
       simp only[Option.map_eq_bind];rfl
      cases vs.isEmpty with
      |true=>simp only[cond_true,oB,Bool.true_or];exact key true
      |false=>
       simp only[cond_false,Bool.false_or]
       cases clV μ.p r.1 with
       |true=>simp only[cond_true,oB,Bool.true_and];exact key _
       |false=>simp only[cond_false,oB,Bool.false_and];exact key false
theorem zih (nid:Nat) (st:List Entry) (c:C):(zdv nid st c).run μ=fzC μ.p nid st c:=by
 cases c <;> try rfl
 rename_i id
 simp only[zdv,fzC,yz]
 cases get st id <;> rfl
theorem Nb (nid:Nat) (cs:List C):∀st,(MV nid st cs).run μ=fzE μ.p nid st cs:=by
 induction cs with
 |nil=>intro st;rfl
 |cons c cs ih=>
  intro st
  simp only[MV,fzE,run_bind,zih,ih,run_pure,Option.map_eq_bind];rfl
theorem zii (nid:Nat) (vs:List (Bool×List C)):∀st,(BV nid st vs).run μ=fzT μ.p nid st vs:=by
 induction vs with
 |nil=>intro st;rfl
 |cons c cs ih=>
  intro st
  simp only[BV,fzT,run_bind,Nb,ih,run_pure,Option.map_eq_bind];rfl
theorem DZ (nid:Nat) (st:List Entry) (v:V):(HZ nid st v).run μ=fzV μ.p nid st v:=by
 cases v with
 |val g cs=>simp only[HZ,fzV,run_bind,Nb,run_pure,Option.map_eq_bind];rfl
 |tup vs=>simp only[HZ,fzV,run_bind,zii,run_pure,Option.map_eq_bind];rfl
 |dead=>rfl
theorem Aa (nid:Nat) (d:Option Tmp) (r:V×List Entry×List Nat):(MW cfg nid d r).run μ=Vg μ.p cfg nid d r:=by
 simp only[MW,Vg,yz,run_bind,DZ,run_pure,yi]
theorem NZ (s:S) (t:TI) (c:C):(Lg s t c).run μ=YX μ.p s t c:=by
 cases c <;> try rfl
 ·exact yf _ _
 ·rename_i id i sz off
  simp only[Lg,YX]
  cases get s.st id <;> try rfl
  ·simp only
   rw[Ym μ _ _ rfl]
   congr 1;funext x;exact yf _ _
  ·rename_i z l
   simp only
   rw[Ym μ _ _ rfl]
   cases μ.p.idx l i with
   |none=>rfl
   |some e=>exact yf _ _
 ·exact yf _ _
theorem Ab (s:S) (t:TI) (cs:List C) (c:C):(UO s t cs c).run μ=QF μ.p s t cs c:=by
 cases c <;> try rfl
 ·rename_i id off
  simp only[UO,QF]
  cases get s.st id <;> try rfl
  rw[ji];rfl
 ·rename_i id i sz off
  simp only[UO,QF]
  cases get s.st id <;> try rfl
  ·simp only[ji,yi]
   rw[Ym μ _ _ rfl]
   simp only[run_pure,Option.map_eq_bind];rfl
  rename_i s0 l
  simp only
  rw[Ym μ _ _ rfl]
  cases μ.p.idx l i with
  |none=>rfl
  |some e=>
   simp only[oB,ji,run_bind,yf,yi]
   split
   ·cases Ks s.st cs with
    |none=>rfl
    |some x=>
     simp only[oB]
     split
     ·rfl
     ·rw[Ls μ _ _ rfl];rfl
   ·rfl
theorem zaw (s:S) (nid:Nat) (b:Builtin) (ts:Array TypeId) (xs:List Operand):(X8 cfg s nid b ts xs).run μ=YW μ.p cfg s nid b ts xs:=by
 have len1:∀x,(X8 cfg s nid .len ts [x]).run μ=YW μ.p cfg s nid .len ts [x]:=fun x=>by
  simp only[X8,YW,run_bind,yf]
  congr 1;funext c
  cases (ts[0]?).map (zx cfg)with
  |none=>rfl
  |some d=>
   cases d <;> cases c <;> first|rfl|skip
   simp only[run_bind,yf];rfl
 have app:∀x y,(X8 cfg s nid .append ts [x,y]).run μ=YW μ.p cfg s nid .append ts [x,y]:=fun x y=>by
  simp only[X8,YW,run_bind,yf]
  congr 1;funext a
  congr 1;funext b
  cases (ts[0]?).bind cfg.T with
  |none=>rfl
  |some i=>
   obtain⟨d,d1,d2,d3,d4⟩:=i
   cases d with
   |slice e=>
    simp only
    cases cfg.T e with
    |none=>rfl
    |some te=>
     simp only[run_bind,yf,BY]
     congr 1;funext p
     congr 1;funext q
     rw[vG μ _ _ rfl,vG μ _ _ rfl,yz,Ls μ _ _ rfl];rfl
   |_=>rfl
 have mx:∀x y,(X8 cfg s nid .max ts [x,y]).run μ=YW μ.p cfg s nid .max ts [x,y]:=fun x y=>by
  simp only[X8,YW,run_bind,yf]
  congr 1;funext a
  congr 1;funext b
  cases a with
  |int k a=>
   cases b with
   |int k' b=>cases k <;> cases k' <;> rfl
   |_=>cases k <;> rfl
  |_=>cases b <;> rfl
 have mn:∀x y,(X8 cfg s nid .min ts [x,y]).run μ=YW μ.p cfg s nid .min ts [x,y]:=fun x y=>by
  simp only[X8,YW,run_bind,yf]
  congr 1;funext a
  congr 1;funext b
  cases a with
  |int k a=>
   cases b with
   |int k' b=>cases k <;> cases k' <;> rfl
   |_=>cases k <;> rfl
  |_=>cases b <;> rfl
 cases b with
 |len=>match xs with
  |[]=>rfl
  |[x]=>exact len1 x
  |_::_::_=>rfl
 |append=>match xs with
  |[]=>rfl
  |[_]=>rfl
  |[x,y]=>exact app x y
  |_::_::_::_=>rfl
 |max=>match xs with
  |[]=>rfl
  |[_]=>rfl
  |[x,y]=>exact mx x y
  |_::_::_::_=>rfl
 |min=>match xs with
  |[]=>rfl
  |[_]=>rfl
  |[x,y]=>exact mn x y
  |_::_::_::_=>rfl
 |_=>rfl
theorem qR (s:S) (v:V):(xJ s v).run μ=ret s v:=rfl
theorem zax (s:S) (t:TI) (nid:Nat) (c:C):(Ea s t nid c).run μ=UF μ.p s t nid c:=by
 cases c <;> try rfl
 rename_i id i sz off
 simp only[Ea,UF]
 cases get s.st id <;> try rfl
 simp only
 rw[Ym μ _ _ rfl]
 congr 1;funext e
 simp only[yz,run_bind,yf,run_pure,yi,Option.map_eq_bind]
 rfl
theorem D1 (s:S) (t:TI) (nid:Nat) (c:C):(PU s t nid c).run μ=J8 μ.p s t nid c:=by
 cases c <;> try rfl
 rename_i id i sz off
 simp only[PU,J8]
 cases get s.st id <;> try rfl
 simp only
 rw[Ym μ _ _ rfl]
 congr 1;funext e
 cases e[off]? with
 |none=>rfl
 |some c=>
  cases c <;> try rfl
  simp only[yz,run_pure,yi]
theorem zay (st:List Entry) (id:Nat):(Eb st id).run μ=OP μ.p st id:=by
 unfold Eb OP
 cases get st id <;> try rfl
 rename_i sz l i hs
 cases hs with
 |nil=>rfl
 |cons x r=>
  simp only
  cases get st x.2 <;> try rfl
  simp only
  rw[yz,yi,Ym μ _ _ rfl,Option.map_eq_bind]
  congr 1
theorem zaz (ids:List Nat):∀st,(Lj ids st).run μ=VH μ.p ids st:=by
 induction ids with
 |nil=>intro st;rfl
 |cons id r ih=>
  intro st
  simp only[Lj,VH,run_bind,zay,ih,run_pure,Option.map_eq_bind];rfl
theorem Ga (ids:List Nat) (st:List Entry):(Ec ids st).run μ=foldL μ.p ids st:=zaz μ _ st
theorem Gb (es:List (List UInt8×Bool×List C)) (a:List UInt8):(TA es a).run μ=some (YY μ.p es a):=by
 induction es with
 |nil=>rfl
 |cons e r ih=>
  simp only[TA,YY]
  rw[vG μ _ _ rfl,yz,ih]
  cases μ.p.eqS a e.1 <;> rfl
theorem Ac (nid:Nat) (s:S) (o:Oper):(yZ cfg nid s o).run μ=stepOp cfg μ nid s o:=by
 obtain⟨dst,op,type,pos,after,guard⟩:=o
 cases op with
 |move x=>rfl
 |makeMap t r=>cases r <;> rfl
 |insert t q k x=>
  simp only[yZ,stepOp,run_bind,yf]
  congr 1;funext c
  congr 1;funext d
  cases c <;> try rfl
  cases d <;> try rfl
  cases s.ev x <;> try rfl
  cases zx cfg t <;> try rfl
  rename_i id a g cs kt et
  simp only
  cases get s.st id <;> try rfl
  simp only[yz,run_bind,Gb,oB,yi]
  rename_i es
  cases YY μ.p es a <;> rfl
 |lookup t q k ok=>
  simp only[yZ,stepOp,run_bind,yf]
  congr 1;funext c
  congr 1;funext d
  cases c <;> try rfl
  cases d <;> try rfl
  cases zx cfg t <;> try rfl
  rename_i id a kt et
  simp only
  cases get s.st id <;> try rfl
  simp only[yz,run_bind,Gb,oB,yi]
  rename_i es
  cases YY μ.p es a <;> simp only[run_bind,yf,qR]
 |assign x=>rfl
 |pick c a b=>
  simp only[yZ,stepOp,run_bind,yf]
  congr 1;funext t
  rw[vG _ _ _ (show μ.ans (.tr t)=some (.b t)from rfl)]
  cases t <;> rfl
 |alloc t=>simp only[yZ,stepOp,run_bind,yf,run_pure]
 |box t x=>simp only[yZ,stepOp,run_bind,yf,run_pure]
 |build t ps=>
  simp only[yZ,stepOp,run_bind,yf]
  congr 1;funext i
  congr 1;funext q
  cases i.d with
  |struct fs=>simp only[run_bind,yf,yz,qR,yi]
  |array n e=>
   cases q with
   |nil=>simp only[yz,qR,yi]
   |cons _ _=>rfl
  |_=>rfl
 |buildSlice t n ps=>
  simp only[yZ,stepOp]
  cases zx cfg t with
  |slice e=>
   simp only[run_bind,yf,ji,run_pure,yi]
  |_=>rfl
 |load t x=>simp only[yZ,stepOp,run_bind,yf,yz,zax,D1,NZ,qR]
 |store t x y=>simp only[yZ,stepOp,run_bind,yf,Ab]
 |nilCheck x=>simp only[yZ,stepOp,run_bind,yf,ji,qR,yi]
 |binOp op t x y u=>cases hif:J7 (zx cfg t) <;> simp only[yZ,stepOp,run_bind,yf,zid,qR,hif,cond_true,cond_false]
 |unOp op t x=>simp only[yZ,stepOp,run_bind,yf,zl4,qR]
 |convert a b x=>
  simp only[yZ,stepOp,run_bind,yf]
  congr 1;funext c
  cases zx cfg a with
  |slice e=>
   cases zx cfg b with
   |string=>
    simp only
    cases zx cfg e with
    |int k=>
     cases k <;> try rfl
     cases c <;> try rfl
     ·simp only;rw[MZ μ _ _ rfl];rfl
     ·simp only[run_bind,yf]
      congr 1;funext q
      rw[MZ μ _ _ rfl];rfl
    |_=>rfl
   |slice e2=>
    cases c <;> try rfl
    rename_i id
    simp only
    cases zx cfg e with
    |int k=>
     cases k <;> try rfl
     cases get s.st id <;> try rfl
     rename_i sz l
     match sz with
     |0=>rfl
     |1=>simp only;rw[zas μ _ _ rfl,vG μ _ _ rfl,yz];rfl
     |_+2=>rfl
    |_=>rfl
   |_=>rfl
  |int k=>cases zx cfg b <;> cases c <;> rfl
  |string=>
   cases zx cfg b with
   |string=>cases c <;> rfl
   |slice e=>
    cases c <;> try rfl
    simp only
    cases zx cfg e with
    |int k=>cases k <;> rfl
    |_=>rfl
   |_=>rfl
  |_=>rfl
 |makeFunc fn first caps=>
  cases fn <;> try rfl
  simp only[yZ,stepOp,run_bind,yf,yz,qR,yi]
 |makeSlice t n n2=>
  simp only[yZ,stepOp]
  cases zx cfg t with
  |slice e=>
   simp only[run_bind,yf]
   congr 1;funext te
   congr 1;funext a
   congr 1;funext b
   cases a with
   |int k a=>
    cases b with
    |int k' b=>
     cases k <;> try rfl
     cases k' <;> try rfl
     simp only
     rw[vG μ _ _ rfl,yz]
     congr 1
     rw[DY μ _ _ rfl];rfl
    |_=>cases k <;> rfl
   |_=>cases b <;> rfl
  |_=>rfl
 |slice t x lo hi mx=>
  cases mx with
  |some m=>rfl
  |none=>
   simp only[yZ,stepOp,run_bind,yf,BZ]
   congr 1;funext a
   congr 1;funext l
   congr 1;funext h
   cases zx cfg t with
   |string=>
    cases a <;> try rfl
    simp only;rw[MZ μ _ _ rfl];rfl
   |slice e=>
    cases a <;> try rfl
    ·simp only;rw[MY μ _ _ rfl];simp only[yz,qR,yi]
    ·simp only;rw[MY μ _ _ rfl]
     congr 1;funext b
     rw[vG μ _ _ rfl];simp only[yz,qR,yi]
    ·rename_i id
     simp only
     cases get s.st id <;> try rfl
     simp only;rw[MY μ _ _ rfl];simp only[ji,run_pure,yi]
   |_=>rfl
 |fieldAddr t x f=>
  simp only[yZ,stepOp,run_bind,yf]
  congr 1;funext i
  congr 1;funext a
  cases i.d with
  |struct fs=>
   simp only
   cases fs[f]? with
   |none=>rfl
   |some p=>
    simp only[ji,yi]
    split
    ·rfl
    ·cases a <;> try rfl
     simp only[ji,qR,yi]
  |_=>rfl
 |field t x f=>
  simp only[yZ,stepOp,run_bind,yf]
  congr 1;funext i
  congr 1;funext cs
  cases i.d with
  |struct fs=>
   cases s.ev x with
   |val g cs'=>
    cases g <;> try rfl
    simp only
    cases fs[f]? with
    |none=>rfl
    |some p=>simp only[run_bind,yf,ji,qR,yi]
   |_=>rfl
  |_=>rfl
 |indexAddr t x y=>
  simp only[yZ,stepOp,run_bind,yf,TB]
  congr 1;funext a
  congr 1;funext b
  congr 1;funext i
  cases zx cfg t with
  |slice e=>
   cases a <;> try rfl
   ·simp only;rw[Ym μ _ _ rfl]
    cases μ.p.idx _ i with
    |none=>rfl
    |some q=>simp only[oB,ji,qR,yi]
   ·simp only[run_bind,yf]
    congr 1;funext q
    rw[Ym μ _ _ rfl]
    cases μ.p.idx q.2 i with
    |none=>rfl
    |some q=>simp only[oB,ji,qR,yi]
  |array n e=>
   cases a <;> try rfl
   rename_i id off
   simp only
   cases get s.st id <;> try rfl
   simp only
   rw[vG μ _ _ rfl]
   simp only[yz,qR,yi]
  |_=>rfl
 |index t x y=>
  simp only[yZ,stepOp,run_bind,yf,TB]
  congr 1;funext b
  congr 1;funext i
  cases zx cfg t with
  |string=>
   cases s.ev x with
   |val g cs=>
    cases g <;> try rfl
    match cs with
    |[]=>rfl
    |[c]=>
     cases c <;> try rfl
     simp only;rw[zib μ _ _ rfl]
     cases μ.p.idxS _ i <;> rfl
    |c::_::_=>cases c <;> rfl
   |_=>rfl
  |array n e=>
   cases s.ev x with
   |val g cs=>
    cases g <;> try rfl
    simp only[run_bind,yf]
    congr 1;funext te
    rw[vG μ _ _ rfl]
    simp only[yz,yi]
    rw[Ym μ _ _ rfl]
    simp only[run_bind,yf,qR]
   |_=>rfl
  |_=>rfl
 |extract x i=>
  simp only[yZ,stepOp]
  cases s.ev x <;> try rfl
  rename_i vs
  simp only
  cases vs[i]? <;> rfl
 |call cl=>
  obtain⟨callee,args,ts⟩:=cl
  cases callee with
  |builtin b=>exact zaw cfg μ s nid b ts _
  |value g=>
   simp only[yZ,stepOp]
   cases (s.ev g).one with
   |none=>rfl
   |some c=>
    cases c <;> try rfl
    simp only[run_bind,zav]
    congr 1;funext r
    exact Aa cfg μ nid dst r
  |invoke r m=>rfl
 |_=>rfl
theorem za0 (ts:List Tmp):∀sl st,(Lh ts sl st).run μ=Kv μ.p ts sl st:=by
 induction ts with
 |nil=>intro sl st;rfl
 |cons t r ih=>
  intro sl st
  simp only[Lh,Kv,run_bind,DZ,yz,ih,run_pure,yi,Option.map_eq_bind];rfl
theorem Gc (nid:Nat) (s:S) (o:Oper):(Li cfg nid s o).run μ=stepN cfg μ nid s o:=by
 unfold Li stepN
 simp only[yz,run_bind,Ac,run_pure,Option.map_eq_bind];rfl
theorem Gd (nid:Nat) (s:S) (o:Oper):(Lk cfg nid s o).run μ=stepW cfg μ nid s o:=by
 unfold Lk stepW
 cases M5 cfg.fz s o with
 |nil=>exact Gc cfg μ nid s o
 |cons t r=>
  simp only[run_bind,za0,Gc,run_pure,Option.map_eq_bind];rfl
theorem za1 (st:List Entry) (id:Nat):(Ed st id).run μ=some (UG μ.p st id):=by
 unfold Ed UG
 cases get st id <;> rfl
theorem za2 (ids:List Nat):∀st:List Entry,(Ll ids st).run μ=some (Ju μ.p ids st):=by
 induction ids with
 |nil=>exact fun _=>rfl
 |cons id r ih=>
  intro st
  simp only[Ll,Ju,run_bind,za1,ih,run_pure,oB]
theorem Ge (nid:Nat) (s:S) (o:Oper):(Lm cfg nid s o).run μ=stepT cfg μ nid s o:=by
 unfold Lm stepT
 cases M6 cfg.th s o with
 |nil=>exact Gd cfg μ nid s o
 |cons t r=>
  simp only[run_bind,za2,Gd,run_pure,Option.map_eq_bind,oB];rfl
theorem Gf (nid:Nat) (s:S) (o:Oper):(Ln cfg nid s o).run μ=stepH cfg μ nid s o:=by
 unfold Ln stepH
 cases M4 s o with
 |nil=>exact Ge cfg μ nid s o
 |cons t r=>
  simp only[run_bind,Ga,Ge,run_pure,Option.map_eq_bind];rfl
theorem Gg (ops:List Oper) (nid:Nat) (s:S) (o:Oper):(Lo cfg ops nid s o).run μ=step1 cfg μ ops nid s o:=by
 unfold Lo step1
 cases o.guard with
 |none=>exact Gf cfg μ nid s o
 |some g=>
  obtain⟨j,want⟩:=g
  simp only
  cases (ops[j]?).bind (·.dst)with
  |none=>rfl
  |some d=>
   simp only
   cases zE s.sl d with
   |val g cs=>
    cases g <;> try rfl
    match cs with
    |[]=>rfl
    |[c]=>
     cases c <;> try rfl
     rename_i b
     rw[vG _ _ _ (show μ.ans (.tr b)=some (.b b)from rfl)]
     cases b <;> cases want <;> first|exact Gf cfg μ nid s o|rfl
    |c::_::_=>cases c <;> rfl
   |tup vs=>
    cases vs <;> rfl
   |dead=>rfl
theorem Ad (all:List Oper) (ops:List Oper):∀s,(UP cfg all ops s).run μ=region cfg μ all ops s:=by
 induction ops with
 |nil=>intro s;rfl
 |cons o r ih=>
  intro s
  simp only[UP,region,run_bind,Gg,yz,ih,yi]
theorem D2 (all:List Oper) (ops:List Oper):∀s fs,(VT cfg all ops s fs).run μ=regionD cfg μ all ops s fs:=by
 induction ops with
 |nil=>intro s fs;rfl
 |cons o r ih=>
  intro s fs
  simp only[VT,regionD,zg9,run_bind,Gg,yz,ih,yi]
theorem G6 (prs:List (Nat×Nat)) (ops:List Oper) (d:Bool) (s:S):(VU cfg prs ops d s).run μ=runRegion cfg μ prs ops d s:=by
 unfold VU runRegion
 cases d <;> simp only[ji,run_bind,D2,Ad,run_pure,yi,if_true] <;> rfl
theorem Ae (st:List Entry) (id:Nat):(MX st id).run μ=frzVar μ.p st id:=by
 unfold MX frzVar
 cases get st id <;> simp only[run_bind,Nb,yz,run_pure,yi]
theorem D3 (ids:List Nat):∀st,(VV ids st).run μ=frzVars μ.p ids st:=by
 induction ids with
 |nil=>intro st;rfl
 |cons id r ih=>intro st;simp only[VV,frzVars,run_bind,Ae,ih]
theorem Ef (f:FuncId) (code:Code):∀s,(Xd cfg f code s).run μ=exec cfg μ f code s:=by
 induction code with
 |skip=>intro s;rfl
 |region id ops d=>
  intro s
  simp only[Xd,exec,run_bind,G6,run_pure]
  cases runRegion _ μ (cfg.free f id) ops.toList d s with
  |none=>rfl
  |some s'=>simp only[oB,Ga,D3,Option.map_eq_bind];rfl
 |seq a b iha ihb=>
  intro s
  simp only[Xd,exec,run_bind,iha]
  cases exec cfg μ f a s with
  |none=>rfl
  |some x=>
   obtain⟨e,s1⟩:=x
   cases e <;> first|exact ihb s1|rfl
 |cond x a b iha ihb=>
  intro s
  simp only[Xd,exec]
  cases Ws (s.ev x)with
  |none=>rfl
  |some t=>
   rw[vG _ _ _ (show μ.ans (.tr t)=some (.b t)from rfl)]
   cases t <;> first|exact iha s|exact ihb s
 |block id b ih=>
  intro s
  simp only[Xd,exec,run_bind,ih]
  cases exec cfg μ f b s with
  |none=>rfl
  |some x=>
   obtain⟨e,s1⟩:=x
   cases e <;> simp only[oB,VI,ji,run_pure]
 |loop b ih=>intro s;simp only[Xd,exec,zl2,run_pure];cases μ.loop f b s <;> rfl
 |exit id=>intro s;rfl
 |ret=>intro s;rfl
 |_=>intro s;rfl
theorem zdx (s:S) (x:ResultVar):(Hl cfg s x).run μ=JH μ.p cfg s x:=by
 cases x with
 |tmp t=>
  simp only[Hl,JH]
  cases zE s.sl t <;> rfl
 |cell a t=>
  simp only[Hl,JH]
  cases (zE s.sl a).one with
  |none=>rfl
  |some c=>
   cases cfg.T t with
   |none=>rfl
   |some i=>
    simp only[run_bind,NZ]
    cases YX μ.p s i c with
    |none=>rfl
    |some v=>cases v <;> rfl
theorem zij (s:S) (rs:List ResultVar):(BW cfg s rs).run μ=rs.mapM (JH μ.p cfg s):=by
 induction rs with
 |nil=>rfl
 |cons x rs ih=>
  rw[List.mapM_cons]
  simp only[BW,run_bind,zdx,ih,run_pure]
  rfl
theorem Eg (hp:μ.p=prims) (cs:List C):(Lq cs).run μ=some (yC cs):=by
 induction cs with
 |nil=>rfl
 |cons c cs ih=>
  simp only[Lq,run_bind,ih,yC]
  cases c <;> simp only[zhc,jQ,run_pure,oB]
  rw[Ls μ _ _ rfl,hp];rfl
theorem zdy (hp:μ.p=prims) (vs:List (Bool×List C)):(Hm vs).run μ=some (vs.map fun x=>(x.1,yC x.2)):=by
 induction vs with
 |nil=>rfl
 |cons x vs ih=>simp only[Hm,run_bind,Eg μ hp,oB,ih,run_pure,List.map_cons]
theorem zdz (hp:μ.p=prims) (v:V):(Hn v).run μ=some (MB v):=by
 cases v with
 |val g cs=>simp only[Hn,run_bind,Eg μ hp,oB,run_pure,MB]
 |tup vs=>simp only[Hn,run_bind,zdy μ hp,oB,run_pure,MB]
 |dead=>rfl
theorem za3 (hp:μ.p=prims) (f:FuncId) (k:Nat) (rs:List ResultVar) (s:S):(Lr cfg f k rs s).run μ=Wv μ.p cfg f k rs s:=by
 simp only[Lr,Wv,run_bind,zij,yf]
 cases rs.mapM (JH μ.p cfg s)with
 |none=>rfl
 |some vs=>
  simp only[oB]
  cases KV (!cfg.frz f) k s.st vs with
  |none=>rfl
  |some x=>
   simp only[oB]
   cases QU k x.2 (s.st.take k)with
   |none=>rfl
   |some y=>
    simp only[Option.map_some,oB,yz,run_pure,hp,zdz]
    cases cfg.frz f <;> rfl
theorem zd0 (hp:μ.p=prims) (f:FuncId) (st:List Entry) (args:List V) (code:Code) (nt:Nat) (rs:List ResultVar):(BX cfg f st args code nt rs).run μ=body cfg μ f st args code nt rs:=by
 unfold BX body
 cases kO nt code with
 |false=>rfl
 |true=>
  simp only[Bool.not_true,cond_false,run_bind,Ef]
  cases exec cfg μ f code (takeOver (cfg.mv f) ⟨QR 0 args,st,st.length⟩)with
  |none=>rfl
  |some x=>
   obtain⟨e,s⟩:=x
   cases e <;> simp only[oB,za3 cfg μ hp,yi]
end
end Go.Am
/- Plain data as the machine has it, and what the machine answers of it. -/
namespace Go.Am
def eL {τ:Type} (e:τ→List C) (l:List τ):List (List C):=l.map e
def Jz (x:Int):List C:=[.int .i64 x]
def za (x:UInt8):List C:=[.int .u8 ((x.toNat:Nat):Int)]
def zl5 (x:Bool):List C:=[.bool x]
def zl {τ:Type} (e:τ→List C) (x:List τ):List C:=[.seq (eL e x)]
structure Enc {τ:Type} (n:Nat) (e:τ→List C):Prop where
 len:∀x,(e x).length=n
 pl:∀x,(e x).all plain=true
 vw:∀x,yC (e x)=e x
theorem zm7:Enc 1 Jz:=⟨fun _=>rfl,fun _=>rfl,fun _=>rfl⟩
theorem zH:Enc 1 za:=⟨fun _=>rfl,fun _=>rfl,fun _=>rfl⟩
theorem W4 {τ:Type} (e:τ→List C):Enc 1 (zl e):=⟨fun _=>rfl,fun _=>rfl,fun _=>rfl⟩
theorem zd1 {τ:Type} {n:Nat} {e:τ→List C} (E:Enc n e) (l:List τ):wq (eL e l)=eL e l:=by
 induction l with
 |nil=>rfl
 |cons x l ih=>
  have:eL e (x::l)=e x::eL e l:=rfl
  rw[this];simp only[wq,ih,E.vw]
def yn {τ:Type} (n:Nat) (o:τ→List C) (x:List τ):List C:=[.own n (eL o x)]
structure OEnc {τ:Type} (n:Nat) (o e:τ→List C):Prop where
 len:∀x,(o x).length=n
 vw:∀x,yC (o x)=e x
 cl:∀x,Zs (o x)=true
theorem kh:OEnc 1 za za:=⟨fun _=>rfl,fun _=>rfl,fun _=>rfl⟩
theorem qf {τ:Type} {n:Nat} {o e:τ→List C} (O:OEnc n o e) (l:List τ):wq (eL o l)=eL e l:=by
 induction l with
 |nil=>rfl
 |cons x l ih=>
  have:eL o (x::l)=o x::eL o l:=rfl
  rw[this];simp only[wq,ih,O.vw];rfl
theorem qg {τ:Type} {n:Nat} {o e:τ→List C} (O:OEnc n o e) (l:List τ):Yb (eL o l)=true:=by
 induction l with
 |nil=>rfl
 |cons x l ih=>
  have:eL o (x::l)=o x::eL o l:=rfl
  rw[this];simp only[Yb,ih,O.cl];rfl
theorem W5 {τ:Type} {n:Nat} {o e:τ→List C} (m:Nat) (O:OEnc n o e):OEnc 1 (yn m o) (zl e):=
 ⟨fun _=>rfl,fun x=>by simp only[yn,zl,yC,jQ,qf O],fun x=>by simp only[yn,Zs,kM,qg O];rfl⟩
theorem JR (s:List UInt8):bytesOf (eL za s)=some s:=by
 induction s with
 |nil=>rfl
 |cons b s ih=>
  have h:eL za (b::s)=[C.int .u8 ((b.toNat:Nat):Int)]::eL za s:=rfl
  rw[h]
  have hb:=b.toNat_lt
  simp only[bytesOf,ih]
  rw[if_pos (by omega)]
  simp
def zn (z:Int):Option Nat:=if 0<=z then some z.toNat else none
def Q6 (n:Nat) (x:Int):Option Nat:=if 0<=x∧x<2 ^ 62∧n*x<=140737488355328 then some x.toNat else none
def qK {τ:Type} (l:List τ) (lo hi:Option Nat):Option (List τ):=(Yz lo hi l.length).map fun b=>(l.take b.2).drop b.1
def zC (n m:Nat):Prop:=m*n<=maxBytes∧m<=2 ^ 62
instance (n m:Nat):Decidable (zC n m):=by unfold zC;infer_instance
abbrev w64 (x:Int):Int:=IntKind.i64.wrap x
def b8 (x:Int):UInt8:=UInt8.ofNat (IntKind.u8.wrap x).toNat
theorem zd2 (x:Int):(((b8 x).toNat:Nat):Int)=IntKind.u8.wrap x:=by
 have h:0<=IntKind.u8.wrap x∧IntKind.u8.wrap x<256:=by unfold IntKind.wrap;simp[IntKind.bits,IntKind.signed];omega
 unfold b8
 simp only[UInt8.toNat_ofNat']
 omega
theorem zR {x:Int} (h1: -9223372036854775808<=x) (h2:x<9223372036854775808):w64 x=x:=by unfold w64 IntKind.wrap;simp[IntKind.bits,IntKind.signed];omega
namespace A
variable {cfg:Cfg} {a b:Int} {τ:Type} {e:τ→List C} {n:Nat}
theorem ltI_t (h:a<b):(zF cfg).ans (.ltI a b)=some (.b true):=by show some (Ans.b (decide (a<b)))=_;rw[decide_eq_true h]
theorem ltI_f (h:¬a<b):(zF cfg).ans (.ltI a b)=some (.b false):=by show some (Ans.b (decide (a<b)))=_;rw[decide_eq_false h]
theorem ltI_d:(zF cfg).ans (.ltI a b)=some (.b (decide (a<b))):=rfl
theorem leI_t (h:a<=b):(zF cfg).ans (.leI a b)=some (.b true):=by show some (Ans.b (decide (a<=b)))=_;rw[decide_eq_true h]
theorem leI_f (h:¬a<=b):(zF cfg).ans (.leI a b)=some (.b false):=by show some (Ans.b (decide (a<=b)))=_;rw[decide_eq_false h]
theorem leI_d:(zF cfg).ans (.leI a b)=some (.b (decide (a<=b))):=rfl
theorem eqI_t (h:a=b):(zF cfg).ans (.eqI a b)=some (.b true):=by subst h;show some (Ans.b (a==a))=_;simp
theorem eqI_f (h:¬a=b):(zF cfg).ans (.eqI a b)=some (.b false):=by show some (Ans.b (a==b))=_;simp[h]
theorem eqI_d:(zF cfg).ans (.eqI a b)=some (.b (decide (a=b))):=by
 show some (Ans.b (a==b))=_
 by_cases h:a=b <;> simp[h]
theorem eqS_t {a b:List UInt8} (h:a=b):(zF cfg).ans (.eqS a b)=some (.b true):=by subst h;show some (Ans.b (a==a))=_;simp
theorem eqS_f {a b:List UInt8} (h:¬a=b):(zF cfg).ans (.eqS a b)=some (.b false):=by show some (Ans.b (a==b))=_;simp[h]
theorem eqS_d {a b:List UInt8}:(zF cfg).ans (.eqS a b)=some (.b (decide (a=b))):=by
 show some (Ans.b (a==b))=_
 by_cases h:a=b <;> simp[h]
theorem ltS_t {a b:List UInt8} (h:Op.bytesLess a b=true):(zF cfg).ans (.ltS a b)=some (.b true):=by show some (Ans.b (Op.bytesLess a b))=_;rw[h]
theorem ltS_f {a b:List UInt8} (h:¬Op.bytesLess a b=true):(zF cfg).ans (.ltS a b)=some (.b false):=by show some (Ans.b (Op.bytesLess a b))=_;rw[show Op.bytesLess a b=false by simpa using h]
theorem nat {z:Int} {i:Nat} (h:zn z=some i):(zF cfg).ans (.nat z)=some (.n i):=by
 show(zn z).map Ans.n=_;rw[h];rfl
theorem made {m:Nat} {x:Int} {k:Nat} (h:Q6 m x=some k):(zF cfg).ans (.made m x)=some (.n k):=by
 show(Q6 m x).map Ans.n=_;rw[h];rfl
theorem idx {l:List τ} {i:Nat} {x:τ} {cs:List C} (h:l[i]? =some x) (he:e x=cs):(zF cfg).ans (.idx (eL e l) i)=some (.e cs):=by
 show((eL e l)[i]?).map Ans.e=_
 unfold eL
 rw[List.getElem?_map,h,<-he];rfl
theorem setL {l:List τ} {i:Nat} {x:τ} {cs:List C} (he:e x=cs):(zF cfg).ans (.setL (eL e l) i cs)=some (.l (eL e (l.set i x))):=by
 show some (Ans.l ((eL e l).set i cs))=_
 unfold eL
 rw[List.map_set,he]
theorem idxS {l:List UInt8} {i:Nat} {x:UInt8} (h:l[i]? =some x):(zF cfg).ans (.idxS l i)=some (.u x):=by
 show(l[i]?).map Ans.u=_;rw[h];rfl
theorem len {l:List τ}:(zF cfg).ans (.len (eL e l))=some (.i (l.length:Int)):=by
 show some (Ans.i ((eL e l).length:Int))=_
 unfold eL;rw[List.length_map]
theorem view (E:Enc n e) {l:List τ}:(zF cfg).ans (.view (eL e l))=some (.l (eL e l)):=by
 show some (Ans.l (wq (eL e l)))=_;rw[zd1 E]
theorem viewO {o:τ→List C} (O:OEnc n o e) {l:List τ}:(zF cfg).ans (.view (eL o l))=some (.l (eL e l)):=by
 show some (Ans.l (wq (eL o l)))=_;rw[qf O]
theorem cln {o:τ→List C} (O:OEnc n o e) {l:List τ}:(zF cfg).ans (.cln (eL o l))=some (.b true):=by
 show some (Ans.b (Yb (eL o l)))=_;rw[qg O]
theorem uniO {o:τ→List C} (O:OEnc n o e) {l:List τ}:(zF cfg).ans (.uni n (eL o l))=some (.b true):=by
 show some (Ans.b ((eL o l).all (·.length==n)))=_
 congr 2
 rw[List.all_eq_true]
 intro x hx
 obtain⟨y,_,rfl⟩:=List.mem_map.1 hx
 simp[O.len y]
theorem pl (E:Enc n e) {l:List τ}:(zF cfg).ans (.pl (eL e l))=some (.b true):=by
 show some (Ans.b ((eL e l).all (·.all plain)))=_
 congr 2
 rw[List.all_eq_true]
 intro x hx
 obtain⟨y,_,rfl⟩:=List.mem_map.1 hx
 exact E.pl y
theorem uni (E:Enc n e) {l:List τ}:(zF cfg).ans (.uni n (eL e l))=some (.b true):=by
 show some (Ans.b ((eL e l).all (·.length==n)))=_
 congr 2
 rw[List.all_eq_true]
 intro x hx
 obtain⟨y,_,rfl⟩:=List.mem_map.1 hx
 simp[E.len y]
theorem room {m:Nat} {l k:List τ} (h:zC m (l.length+k.length)):(zF cfg).ans (.room m (eL e l) (eL e k))=some (.b true):=by
 show some (Ans.b (decide (((eL e l).length+(eL e k).length)*m<=maxBytes∧(eL e l).length+(eL e k).length<=2 ^ 62)))=_
 unfold eL
 rw[List.length_map,List.length_map]
 have h':(l.length+k.length)*m<=maxBytes∧l.length+k.length<=2 ^ 62:=h
 rw[decide_eq_true h']
theorem app {l k:List τ}:(zF cfg).ans (.app (eL e l) (eL e k))=some (.l (eL e (l++k))):=by
 show some (Ans.l (eL e l++eL e k))=_
 unfold eL;rw[List.map_append]
theorem rep {k:Nat} {z:τ} {cs:List C} (h:e z=cs):(zF cfg).ans (.rep k cs)=some (.l (eL e (List.replicate k z))):=by
 show some (Ans.l (List.replicate k cs))=_
 unfold eL;rw[List.map_replicate,h]
theorem cut {l:List τ} {lo hi:Option Nat} {x:List τ} (h:qK l lo hi=some x):(zF cfg).ans (.cut (eL e l) lo hi)=some (.l (eL e x)):=by
 show((Yz lo hi (eL e l).length).map fun b=>((eL e l).take b.2).drop b.1).map Ans.l=_
 unfold qK at h
 obtain⟨b,hb,rfl⟩:=oM h
 unfold eL
 rw[List.length_map,hb]
 simp[List.map_drop,List.map_take]
theorem cutS {l:List UInt8} {lo hi:Option Nat} {x:List UInt8} (h:qK l lo hi=some x):(zF cfg).ans (.cutS l lo hi)=some (.s x):=by
 show(qK l lo hi).map Ans.s=_;rw[h];rfl
theorem bytes {s:List UInt8}:(zF cfg).ans (.bytes (eL za s))=some (.s s):=by
 show(bytesOf (eL za s)).map Ans.s=_
 rw[JR];rfl
theorem ofStr {s:List UInt8}:(zF cfg).ans (.ofStr s)=some (.l (eL za s)):=rfl
theorem nz {x:Int} (h:x≠0):(zF cfg).ans (.nz x)=some (.b true):=by show some (Ans.b (!(x==0)))=_;simp[h]
theorem call {f:FuncId} {st st':List Entry} {as:List V} {v:V} (h:(zF cfg).call f st as=some (v,st')):(zF cfg).ans (.call f st as)=some (.r v st'):=by
 show((zF cfg).call f st as).map (fun r=>Ans.r r.1 r.2)=_;rw[h];rfl
theorem loop {f:FuncId} {b:Code} {s s':S} {ex:Ex} (h:(zF cfg).loop f b s=some (ex,s')):(zF cfg).ans (.loop f b s)=some (.x ex s'):=by
 show((zF cfg).loop f b s).map (fun r=>Ans.x r.1 r.2)=_;rw[h];rfl
end A
structure Q (cfg:Cfg) where
 q:Ask
 a:Ans
 h:(zF cfg).ans q=some a
namespace Q
variable {cfg:Cfg} {a b:Int} {τ:Type}
def p (x:Q cfg):Ask×Ans:=(x.q,x.a)
def lT (h:a<b):Q cfg:=⟨.ltI a b,.b true,A.ltI_t h⟩
def lF (h:¬a<b):Q cfg:=⟨.ltI a b,.b false,A.ltI_f h⟩
def lD (a b:Int):Q cfg:=⟨.ltI a b,.b (decide (a<b)),A.ltI_d⟩
def gT (h:a<=b):Q cfg:=⟨.leI a b,.b true,A.leI_t h⟩
def gD (a b:Int):Q cfg:=⟨.leI a b,.b (decide (a<=b)),A.leI_d⟩
def eT (h:a=b):Q cfg:=⟨.eqI a b,.b true,A.eqI_t h⟩
def eF (h:¬a=b):Q cfg:=⟨.eqI a b,.b false,A.eqI_f h⟩
def eD (a b:Int):Q cfg:=⟨.eqI a b,.b (decide (a=b)),A.eqI_d⟩
def lTo (a b:Int) (h:a<b):Q cfg:=lT h
def lFo (a b:Int) (h:¬a<b):Q cfg:=lF h
def gTo (a b:Int) (h:a<=b):Q cfg:=gT h
def eTo (a b:Int) (h:a=b):Q cfg:=eT h
def eFo (a b:Int) (h:¬a=b):Q cfg:=eF h
def sT {a b:List UInt8} (h:a=b):Q cfg:=⟨.eqS a b,.b true,A.eqS_t h⟩
def nt (b:Bool):Q cfg:=⟨.notB b,.b (!b),rfl⟩
def ad (a b:Int):Q cfg:=⟨.add .i64 a b,.i (w64 (a+b)),rfl⟩
def na {z:Int} {i:Nat} (h:zn z=some i):Q cfg:=⟨.nat z,.n i,A.nat h⟩
def le (e:τ→List C) (x:List τ):Q cfg:=⟨.len (eL e x),.i (x.length:Int),A.len⟩
def ix {e:τ→List C} {l:List τ} {i:Nat} {x:τ} {cs:List C} (h:l[i]? =some x) (he:e x=cs):Q cfg:=⟨.idx (eL e l) i,.e cs,A.idx h he⟩
def ix0 (e:τ→List C) {l:List τ} {i:Nat} {x:τ} (h:l[i]? =some x):Q cfg:=⟨.idx (eL e l) i,.e (e x),A.idx h rfl⟩
def cl {f:FuncId} {st:List Entry} {as:List V} {r:V×List Entry} (h:(zF cfg).call f st as=some r):Q cfg:=⟨.call f st as,.r r.1 r.2,A.call h⟩
def lp {f:FuncId} {b:Code} {s:S} {r:Ex×S} (h:(zF cfg).loop f b s=some r):Q cfg:=⟨.loop f b s,.x r.1 r.2,A.loop h⟩
end Q
section
variable {cfg:Cfg}
end
theorem bs {α β:Type} {x:Option α} {f:α→Option β} {r:β} (h:x.bind f=some r):∃a,x=some a∧f a=some r:=oI h
def bodyOf (f:Func):Code:=match f.body with |some b=>b|none=> .skip
def zD (f:Func) (n:Nat):Code:=((Ww (bodyOf f))[n]?).getD .skip
end Go.Am
/- Arguments of a type, read as plain data. -/
namespace Go.Am
def Rd {τ:Type} (T:TypeId→Option TI) (t:TypeId) (e:τ→List C) (md:τ→Prop):Prop:=∀cs,WT T t cs→∃x,cs=e x∧md x
def zl6 (n:Int):Prop:= -9223372036854775808<=n∧n<9223372036854775808
section
variable {T:TypeId→Option TI} {t u:TypeId} {τ:Type} {e:τ→List C} {md:τ→Prop}
theorem X9 {i:TI} (h:T t=some i) (hd:i.d= .int .i64):Rd T t Jz zl6:=by
 intro cs hw
 obtain⟨n,rfl,h1⟩:=hw.int_inv h hd
 refine⟨n,rfl,?_⟩
 simp[Lit.wf,IntKind.min,IntKind.max,IntKind.bits,IntKind.signed]at h1
 unfold zl6
 omega
theorem UQ {i:TI} (h:T t=some i) (hd:i.d= .int .u8):Rd T t za fun _=>True:=by
 intro cs hw
 obtain⟨n,rfl,h1⟩:=hw.int_inv h hd
 simp[Lit.wf,IntKind.min,IntKind.max,IntKind.bits,IntKind.signed]at h1
 refine⟨UInt8.ofNat n.toNat,?_,trivial⟩
 unfold za
 simp only[UInt8.toNat_ofNat']
 congr 2
 omega
theorem Ba {i:TI} (h:T t=some i) (hd:i.d= .bool):Rd T t zl5 fun _=>True:=by
 intro cs hw
 obtain⟨b,rfl⟩:=hw.bool_inv h hd
 exact⟨b,rfl,trivial⟩
theorem Bb {l:List (List C)} (h:∀x∈l,∃y,x=e y∧md y):∃l',l=eL e l'∧∀y∈l',md y:=by
 induction l with
 |nil=>exact⟨[],rfl,fun y hy=>by cases hy⟩
 |cons x l ih=>
  obtain⟨l',rfl,hl⟩:=ih fun x hx=>h x (by simp[hx])
  obtain⟨y,rfl,hy⟩:=h x (by simp)
  refine⟨y::l',rfl,fun z hz=> ?_⟩
  rcases List.mem_cons.1 hz with rfl|hz
  ·exact hy
  ·exact hl z hz
theorem za4 (l:List τ):(eL e l).length=l.length:=by unfold eL;rw[List.length_map]
theorem J0 {i:TI} (h:T t=some i) (hd:i.d= .slice u) (hu:Rd T u e md):Rd T t (zl e) fun l=>l.length<=2 ^ 63 - 1∧∀y∈l,md y:=by
 intro cs hw
 obtain⟨l,rfl,hl,hs⟩:=hw.slice_inv h hd
 obtain⟨l',rfl,hm⟩:=Bb fun x hx=>hu x (hs x hx)
 rw[za4]at hl
 exact⟨l',rfl,hl,hm⟩
theorem Nc {md':τ→Prop} (h:Rd T t e md) (hm:∀x,md x→md' x):Rd T t e md':=fun cs hw=>by
 obtain⟨x,rfl,hx⟩:=h cs hw
 exact⟨x,rfl,hm x hx⟩
theorem zl7 {x:List C} {l:List (List C)} {cs:List C} (hx:x∈l) (hc:C.seq l∈cs):SizeOf.sizeOf x<SizeOf.sizeOf cs:=by
 have h1:=List.sizeOf_lt_of_mem hx
 have h2:=List.sizeOf_lt_of_mem hc
 have h3:SizeOf.sizeOf (C.seq l)=1+SizeOf.sizeOf l:=C.seq.sizeOf_spec l
 omega
theorem Qi {α β:Type} {R:α→β→Prop} {bs:List β} (h:All2 R [] bs):bs=[]:=by cases h;rfl
theorem yl {α β:Type} {R:α→β→Prop} {a:α} {as:List α} {bs:List β} (h:All2 R (a::as) bs):∃b bs',bs=b::bs'∧R a b∧All2 R as bs':=by
 cases h with
 |cons h1 h2=>exact⟨_,_,rfl,h1,h2⟩
end
end Go.Am
/- A function of the library that has no body: two texts compared. -/
namespace Go.Am
def Eh (st:List Entry):List V→Option (V×List Entry)
 |[.val false [.seq a],.val false [.seq b]]=>match st with
  |[]=>(bytesOf a).bind fun x=>(bytesOf b).map fun y=>(.val false [.int .i64 (Lib.compareBytes x y)],[])
  |_=>none
 |_=>none
def xw {α:Type} (l:List α) (i:Nat) (x:α):List α:=l.take i++[x]++l.drop i
theorem JS {α:Type} (l:List α) (i:Nat) (x:α) (hi:i<=l.length) (m:Nat):(xw l i x)[m]? =if m<i then l[m]? else if m=i then some x else l[m - 1]? :=by
 unfold xw
 have hl:(l.take i).length=i:=by simp;omega
 split
 ·rename_i h1
  rw[List.append_assoc,List.getElem?_append_left (by omega),List.getElem?_take_of_lt h1]
 ·rename_i h1
  split
  ·rename_i h2
   subst h2
   rw[List.append_assoc,List.getElem?_append_right (by omega),hl];simp
  ·rename_i h2
   rw[List.getElem?_append_right (by simp;omega),List.length_append,hl,List.getElem?_drop]
   congr 1;simp;omega
def Af (st:List Entry):List V→Option (V×List Entry)
 |[.val false [.ref 0],.val false [.int .i64 i],.val false [.ref 1]]=>match st with
  |[.obj 9 l,.obj 9 [x]]=>if 0<=i∧i<=(l.length:Int)∧l.length<=1048576 then some (.val false [.own 9 (xw l i.toNat x)],[.dead,.dead])else none
  |_=>none
 |_=>none
def jj {α:Type} (l:List α) (i:Nat):List α:=l.take i++l.drop (i+1)
theorem Ei {α:Type} (l:List α) (i:Nat) (hi:i<l.length) (m:Nat):(jj l i)[m]? =if m<i then l[m]? else l[m+1]? :=by
 unfold jj
 have hl:(l.take i).length=i:=by simp;omega
 split
 ·rename_i h1
  rw[List.getElem?_append_left (by omega),List.getElem?_take_of_lt h1]
 ·rename_i h1
  rw[List.getElem?_append_right (by omega),hl,List.getElem?_drop]
  congr 1;omega
def Ag (st:List Entry):List V→Option (V×List Entry)
 |[.val false [.ref 0],.val false [.int .i64 i],.val false [.int .i64 j]]=>match st with
  |[.obj 9 l]=>if 0<=i∧i<(l.length:Int)∧j=i+1∧l.length<=1048576 then some (.val false [.own 9 (jj l i.toNat)],[.dead])else none
  |_=>none
 |_=>none
section
variable {P:Program} {w:World} {cls:Cls} {hdr:Hdr}
theorem G7:∀(s:List UInt8) (q:Addr) (acc:ByteArray),(∀i b,s[i]? =some b→w.cell? (q.add i)=some (.int .u8 ((b.toNat:Nat):Int)))→
 ∃r:ByteArray,(Extern.Bytes.loadBytes q s.length acc).run P w= .ok r w∧r.data.toList=acc.data.toList++s:=by
 intro s
 induction s with
 |nil=>intro q acc _;exact⟨acc,rfl,by simp⟩
 |cons b s ih=>
  intro q acc h
  have h0:=h 0 b rfl
  rw[show q.add 0=q by simp[Addr.add]]at h0
  obtain⟨r,h1,h2⟩:=ih (q.add 1) (acc.push ((b.toNat:Nat):Int).toNat.toUInt8) (fun i c hi=>by rw[HW,Nat.add_comm];exact h (i+1) c (by simpa using hi))
  refine⟨r,?_,?_⟩
  ·simp only[List.length_cons,Extern.Bytes.loadBytes,Sem.run_bind,NO h0,Result.andThen_ok]
   exact h1
  ·rw[h2]
   simp[ByteArray.push]
theorem Q7 {u:Value} {l:List (List C)} {s:List UInt8} (h:RepC w cls hdr none u (.seq l)) (hs:bytesOf l=some s):∃r:ByteArray,(Extern.Bytes.bytesOf u).run P w= .ok r w∧r.data.toList=s:=by
 have hm:=Q5 hs
 have h1:l.length=s.length:=by rw[hm];simp
 have h2:∀(i:Nat) b,s[i]? =some b→l[i]? =some [.int .u8 ((b.toNat:Nat):Int)]:=fun i b hi=>by rw[hm,List.getElem?_map,hi];rfl
 obtain⟨A,cap,sz,rfl,hc,hu,hcells⟩:=XO (vb:=fun _=>0) (st:=[]) (show zk w cls hdr (fun _=>0) [] u (.seq l)from h)
 cases s with
 |nil=>
  have:l=[]:=List.eq_nil_of_length_eq_zero (by simpa using h1)
  subst this
  cases A with
  |none=>exact⟨.empty,rfl,rfl⟩
  |some q=>exact⟨.empty,rfl,rfl⟩
 |cons b s=>
  have hl0:=h2 0 b rfl
  obtain⟨q,rfl,_,_,_⟩:=hcells 0 0 _ _ hl0 rfl
  have hsz:sz=1:=by rw[<-hu _ (List.mem_of_getElem? hl0)];rfl
  subst hsz
  obtain⟨r,r1,r2⟩:=G7 (P:=P) (w:=w) (b::s) q .empty (fun i c hi=>by
   have hli:=h2 i c hi
   obtain⟨q',e,_,_,v,hv,hr⟩:=hcells i 0 _ _ hli rfl
   injection e with e
   subst e
   have:=(show zk w cls hdr (fun _=>0) [] v (.int .u8 ((c.toNat:Nat):Int))from hr).int
   rw[this]at hv
   simpa using hv)
  refine⟨r,?_,by simpa using r2⟩
  rw[h1]
  exact r1
theorem za5 {f:FuncId} {fn:Func} (hf:P.funcs[f]? =some fn) (hn:(fn.name=="runtime.NumGoroutine")=false) (hb:fn.body=none) (hnext:Extern.findNext fn=none) (hfind:Extern.find fn=some Extern.BytealgCompare.compare)
 {st:List Entry} {as:List V} {r:V×List Entry} (h:Eh st as=some r):xC P f st as r:=by
 intro w cls hdr vb us hgl hus hE hids hvars
 unfold Eh at h
 split at h
 ·rename_i a b
  split at h
  ·obtain⟨x,hx,h⟩:=oI h
   obtain⟨y,hy,rfl⟩:=oM h
   obtain⟨l⟩:=us
   cases hus with
   |cons h1 hus=>cases hus with
    |cons h2 hus=>cases hus with
     |nil=>
      obtain⟨r1,e1,d1⟩:=Q7 (P:=P) h1.one hx
      obtain⟨r2,e2,d2⟩:=Q7 (P:=P) h2.one hy
      refine .inr ⟨.int .i64 (Lib.compareBytes x y),w,?_,cls,hdr,vb,Keep.refl _ _ _ _ _ _,fun b _ hc=>⟨rfl,hc⟩,zk.val (RepC.int _ _ _),hE⟩
      have hn':¬fn.name="runtime.NumGoroutine":=by simpa using hn
      have hc:∀u1 u2:Value,Extern.BytealgCompare.compare #[u1,u2]=(do pure (goInt (Extern.BytealgCompare.cmp (<-Extern.Bytes.bytesOf u1) (<-Extern.Bytes.bytesOf u2)))):=fun _ _=>rfl
      simp[callFunc,hf,hn',hb,hnext,hfind,hc,e1,e2,goInt,Lib.cmp_eq,d1,d2]
  ·cases h
 ·cases h
def Ej (st:List Entry):List V→Option (V×List Entry)
 |[.val false [.seq a],.val false [.int .u8 c]]=>match st with
  |[]=>(bytesOf a).map fun x=>(.val false [.int .i64 (Lib.indexByte x c.toNat.toUInt8)],[])
  |_=>none
 |_=>none
theorem zl8 {f:FuncId} {fn:Func} (hf:P.funcs[f]? =some fn) (hn:(fn.name=="runtime.NumGoroutine")=false) (hb:fn.body=none) (hnext:Extern.findNext fn=none) (hfind:Extern.find fn=some Extern.BytealgIndexByte.indexByte)
 {st:List Entry} {as:List V} {r:V×List Entry} (h:Ej st as=some r):xC P f st as r:=by
 intro w cls hdr vb us hgl hus hE hids hvars
 unfold Ej at h
 split at h
 ·rename_i a c
  split at h
  ·obtain⟨x,hx,rfl⟩:=oM h
   obtain⟨l⟩:=us
   cases hus with
   |cons h1 hus=>cases hus with
    |cons h2 hus=>cases hus with
     |nil=>
      rename_i u1 _
      obtain⟨r1,e1,d1⟩:=Q7 (P:=P) h1.one hx
      have e2:=h2.one.int
      refine .inr ⟨.int .i64 (Lib.indexByte x c.toNat.toUInt8),w,?_,cls,hdr,vb,Keep.refl _ _ _ _ _ _,fun b _ hc=>⟨rfl,hc⟩,zk.val (RepC.int _ _ _),hE⟩
      have hn':¬fn.name="runtime.NumGoroutine":=by simpa using hn
      have hc:∀u1 u2:Value,Extern.BytealgIndexByte.indexByte #[u1,u2]=(do
       let b<-Extern.Bytes.bytesOf u1
       let c<-Extern.Bytes.asByte u2
       match(List.range b.size).find? fun i=>b[i]! ==c with
       |some i=>pure (goInt i)
       |none=>pure (goInt (-1))):=fun _ _=>rfl
      have hk:=Lib.firstIdx_eq r1 c.toNat.toUInt8
      rw[d1]at hk
      unfold firstIdx at hk
      subst e2
      have hX:(Extern.BytealgIndexByte.indexByte #[u1,.int .u8 c]).run P w= .ok (.int .i64 (Lib.indexByte x c.toNat.toUInt8)) w:=by
       rw[hc]
       simp only[Sem.run_bind,e1,Result.andThen_ok,Extern.Bytes.asByte,Sem.run_pure]
       split <;> rename_i hq <;> rw[hq]at hk <;> simp[goInt,<-hk]
      simp[callFunc,hf,hn',hb,hnext,hfind,hX]
  ·cases h
 ·cases h
def Zc (b:Bool):C:=bif b then .opq else .raw .nilIface
def xe (s:List UInt8):Int×Bool:=
 match Lib.atoiAll s with
 | .ok v=>(v,false)
 | .range=>(Lib.atoiSat s,true)
 |_=>(0,true)
def Lt (st:List Entry):List V→Option (V×List Entry)
 |[.val false [.str s]]=>match st with
  |[]=>if s.length<=2 ^ 40 then some (.tup [(false,[.int .i64 (xe s).1]),(false,[Zc (xe s).2])],[])else none
  |_=>none
 |_=>none
theorem zik {f ge gr:Nat} (henter:∀args w,(callFunc f args).run P w= .ok (.enter f args) w)
 (hok:∀(s:ByteArray),s.size<=2 ^ 40→∀v,Lib.atoiAll s.data.toList= .ok v→∀w,Calls P f #[.string s] w fun e w'=>e= .returned (.tuple #[.int .i64 v,.nilIface])∧RowKit.Below w.heap.size w w')
 (hsyn:∀(s:ByteArray),s.size<=2 ^ 40→(∀v,Lib.atoiAll s.data.toList≠.ok v)→Lib.atoiAll s.data.toList≠.range→∀(te:TypeId) (pe:Value) w,w.cell? ⟨ge,0,none⟩=some (.iface te pe)→Calls P f #[.string s] w fun e w'=>(∃T z,e= .returned (.tuple #[.int .i64 0,.iface T z]))∧RowKit.Below w.heap.size w w')
 (hrng:∀(s:ByteArray),s.size<=2 ^ 40→Lib.atoiAll s.data.toList= .range→∀(te:TypeId) (pe:Value) w,w.cell? ⟨gr,0,none⟩=some (.iface te pe)→Calls P f #[.string s] w fun e w'=>(∃T z,e= .returned (.tuple #[.int .i64 (Lib.atoiSat s.data.toList),.iface T z]))∧RowKit.Below w.heap.size w w')
 (h1:P.globalNamed "strconv.ErrSyntax"=some ge) (h2:P.globalNamed "strconv.ErrRange"=some gr)
 {st:List Entry} {as:List V} {r:V×List Entry} (h:Lt st as=some r):xC P f st as r:=by
 intro w cls hdr vb us hgl hus hE hids hvars
 unfold Lt at h
 split at h
 ·rename_i s
  split at h
  ·split at h
   ·rename_i hs
    injection h with h
    subst h
    obtain⟨l⟩:=us
    cases hus with
    |cons h1' hus=>cases hus with
     |nil=>
      have e1:=h1'.one.str
      subst e1
      have hsz:(⟨s.toArray⟩:ByteArray).size=s.length:=by simp[ByteArray.size]
      have hd:(⟨s.toArray⟩:ByteArray).data.toList=s:=by simp
      have fin:∀(n:Int) (b:Bool) (u:Value) w',RowKit.Below w.heap.size w w'→zk w' cls hdr vb [] u (Zc b)→∃cls' hdr' vb',Keep w cls hdr vb [] w' cls' hdr' vb' (yy (.tup [(false,[.int .i64 n]),(false,[Zc b])],[])).2 (fun id=>id<([]:List Entry).length)∧(∀b,b<w.heap.size→cls b=some []→w'.heap[b]? =w.heap[b]?∧cls' b=some [])∧
       yq w' cls' hdr' vb' (yy (.tup [(false,[.int .i64 n]),(false,[Zc b])],[])).2 (.tuple #[.int .i64 n,u]) (yy (.tup [(false,[.int .i64 n]),(false,[Zc b])],[])).1∧∀id,zP w' cls' hdr' vb' (yy (.tup [(false,[.int .i64 n]),(false,[Zc b])],[])).2 id (get (yy (.tup [(false,[.int .i64 n]),(false,[Zc b])],[])).2 id):=by
       intro n b u w' hb hu
       have hl:yy (.tup [(false,[.int .i64 n]),(false,[Zc b])],[])=(.tup [(false,[.int .i64 n]),(false,[Zc b])],[]):=by cases b <;> rfl
       rw[hl]
       obtain⟨b1,b2,b3,b4,b5⟩:=hb
       refine⟨cls,hdr,vb,⟨fun k hk hc=>⟨b5 k hk,hc⟩,fun id hid=>by simp at hid,fun id hid=>by simp at hid,b4,b1,b3,b2⟩,fun k hk hc=>⟨b5 k hk,hc⟩,?_,fun id=>by
        show zP _ _ _ _ _ _ (get [] id)
        rw[show get [] id= .dead by cases id <;> rfl];trivial⟩
       refine⟨[.int .i64 n,u],rfl,.cons ⟨[.int .i64 n],.cons (RepC.int _ _ _) .nil,rfl⟩ (.cons ⟨[u],.cons hu .nil,rfl⟩ .nil)⟩
      have conv:∀{post:Ending→World→Prop},Calls P f #[.string ⟨s.toArray⟩] w post→(∀e w',post e w'→∃u,e= .returned u∧∃cls' hdr' vb',Keep w cls hdr vb [] w' cls' hdr' vb' (yy (.tup [(false,[.int .i64 (xe s).1]),(false,[Zc (xe s).2])],[])).2 (fun id=>id<([]:List Entry).length)∧(∀b,b<w.heap.size→cls b=some []→w'.heap[b]? =w.heap[b]?∧cls' b=some [])∧
       yq w' cls' hdr' vb' (yy (.tup [(false,[.int .i64 (xe s).1]),(false,[Zc (xe s).2])],[])).2 u (yy (.tup [(false,[.int .i64 (xe s).1]),(false,[Zc (xe s).2])],[])).1∧∀id,zP w' cls' hdr' vb' (yy (.tup [(false,[.int .i64 (xe s).1]),(false,[Zc (xe s).2])],[])).2 id (get (yy (.tup [(false,[.int .i64 (xe s).1]),(false,[Zc (xe s).2])],[])).2 id))→
       zln P f #[.string ⟨s.toArray⟩] w fun u w'=>∃cls' hdr' vb',Keep w cls hdr vb [] w' cls' hdr' vb' (yy (.tup [(false,[.int .i64 (xe s).1]),(false,[Zc (xe s).2])],[])).2 (fun id=>id<([]:List Entry).length)∧(∀b,b<w.heap.size→cls b=some []→w'.heap[b]? =w.heap[b]?∧cls' b=some [])∧
       yq w' cls' hdr' vb' (yy (.tup [(false,[.int .i64 (xe s).1]),(false,[Zc (xe s).2])],[])).2 u (yy (.tup [(false,[.int .i64 (xe s).1]),(false,[Zc (xe s).2])],[])).1∧∀id,zP w' cls' hdr' vb' (yy (.tup [(false,[.int .i64 (xe s).1]),(false,[Zc (xe s).2])],[])).2 id (get (yy (.tup [(false,[.int .i64 (xe s).1]),(false,[Zc (xe s).2])],[])).2 id):=fun hc hp=>.inl ⟨henter _ _,hc.mono fun e w' he=>by obtain⟨u,rfl,hu⟩:=hp e w' he;exact hu⟩
      have hgs:∀n g,(n,[C.opq])∈JK→P.globalNamed n=some g→∃te pe,w.cell? ⟨g,0,none⟩=some (.iface te pe):=fun n g hm hg=>by
       obtain⟨_,_,h3,_⟩:=hgl n _ hm g hg
       obtain⟨u,hu,hr⟩:=h3 0 .opq rfl
       cases hr
       exact⟨_,_,hu⟩
      cases ha:Lib.atoiAll s with
      |ok v=>
       refine conv (hok ⟨s.toArray⟩ (by rw[hsz];exact hs) v (by rw[hd];exact ha) w) fun e w' he=> ?_
       obtain⟨rfl,hb⟩:=he
       refine⟨_,rfl,?_⟩
       have:xe s=(v,false):=by unfold xe;rw[ha]
       rw[this]
       exact fin v false _ w' hb (RepC.raw _ _ rfl)
      |range=>
       obtain⟨te,pe,hc⟩:=hgs _ _ (by simp[JK]) h2
       refine conv (hrng ⟨s.toArray⟩ (by rw[hsz];exact hs) (by rw[hd];exact ha) te pe w hc) fun e w' he=> ?_
       obtain⟨⟨T,z,rfl⟩,hb⟩:=he
       refine⟨_,rfl,?_⟩
       have:xe s=(Lib.atoiSat s,true):=by unfold xe;rw[ha]
       rw[this,hd]
       exact fin _ true _ w' hb (RepC.opq _ _ _)
      |_=>
       obtain⟨te,pe,hc⟩:=hgs _ _ (by simp[JK]) h1
       refine conv (hsyn ⟨s.toArray⟩ (by rw[hsz];exact hs) (by rw[hd,ha];intro v e;cases e) (by rw[hd,ha];intro e;cases e) te pe w hc) fun e w' he=> ?_
       obtain⟨⟨T,z,rfl⟩,hb⟩:=he
       refine⟨_,rfl,?_⟩
       have:xe s=(0,true):=by unfold xe;rw[ha]
       rw[this]
       exact fin 0 true _ w' hb (RepC.opq _ _ _)
   ·cases h
  ·cases h
 ·cases h
end
end Go.Am
/- Small facts for Ww over lists. -/
namespace Go.Am
theorem zb (i:Nat):zn (i:Int)=some i:=by unfold zn;rw[if_pos (by omega)];rfl
theorem zG {i:Nat} (h:i<2 ^ 62):w64 ((i:Int)+1)=((i+1:Nat):Int):=zR (by omega) (by omega)
theorem Zd {i:Nat} (h:i<2 ^ 62) (h0:0<i):w64 ((i:Int) - 1)=((i - 1:Nat):Int):=by rw[zR (by omega) (by omega)];omega
theorem wb {α:Type} {l:List α} {i:Nat} (h:i<l.length):l.drop i=l[i]::l.drop (i+1):=List.drop_eq_getElem_cons h
theorem zg {m d:Nat} (h:d<m):∃k,m=k+1∧d<=k:=⟨m - 1,by omega,by omega⟩
theorem zj {α:Type} {l:List α} {i:Nat} (h:i<l.length):l[i]? =some l[i]:=List.getElem?_eq_getElem h
theorem Vm {b n:Nat} (h:n<=2 ^ 20) (hb:b<=2 ^ 20):Q6 b (n:Int)=some n:=by
 unfold Q6
 have h1:b*n<=2 ^ 20*2 ^ 20:=Nat.mul_le_mul hb h
 have h2:((b*n:Nat):Int)=(b:Int)*(n:Int):=by simp
 rw[if_pos ⟨by omega,by omega,by rw[<-h2];omega⟩];simp
theorem zB {α:Type} {p:Prop} {inst:Decidable p} {x:Option α} {r:α} (h:@ite _ p inst x none=some r):p∧x=some r:=by
 split at h
 ·rename_i hp;exact⟨hp,h⟩
 ·cases h
def Pre {α:Type} (a v:List α) (i:Nat):Prop:=v.length=a.length∧∀j,j<i→v[j]? =a[j]?
theorem Pre.start {α:Type} {a v:List α} (h:v.length=a.length):Pre a v 0:=⟨h,fun j hj=>by omega⟩
theorem Pre.step {α:Type} {a v:List α} {i:Nat} (h:Pre a v i) (hi:i<a.length):Pre a (v.set i a[i]) (i+1):=by
 refine⟨by simp[h.1],fun j hj=> ?_⟩
 by_cases e:j=i
 ·subst e;rw[List.getElem?_set_self (by rw[h.1];exact hi)];simp[hi]
 ·rw[List.getElem?_set_ne (by omega)];exact h.2 j (by omega)
theorem Pre.done {α:Type} {a v:List α} {i:Nat} (h:Pre a v i) (hi:a.length<=i):v=a:=by
 refine List.ext_getElem? fun j=> ?_
 rcases Nat.lt_or_ge j a.length with hj|hj
 ·exact h.2 j (by omega)
 ·rw[List.getElem?_eq_none (by rw[h.1];exact hj),List.getElem?_eq_none hj]
def inB (lo hi:Nat) (x:UInt8):Bool:=decide (lo<=x.toNat)&&decide (x.toNat<=hi)
end Go.Am
/- A function's ways as one tree, walked beside the machine's tree of questions: one check by evaluation says that the machine answers what the tree says. -/
namespace Go.Am
inductive Tw (cfg:Cfg) (α ρ:Type) (C:Option α→ρ→Prop):Type 1 where
 |no
 |ret (a:α)
 |tl (o:Option α) (r:ρ) (h:C o r)
 |q (x:Q cfg) (t:Tw cfg α ρ C)
 |qt (n:Nat) (x:Q cfg) (t:Tw cfg α ρ C)
 |ag (i:Nat) (t:Tw cfg α ρ C)
 |ax (n:Nat) (p:Bool) (i:Nat) (t:Tw cfg α ρ C)
 |ndC (c:Prop) (d:Decidable c) (t:c→Tw cfg α ρ C)
 |spC (c:Prop) (d:Decidable c) (t:c→Tw cfg α ρ C) (e:¬c→Tw cfg α ρ C)
 |brC (n:Option Nat) (p:Bool) (c:Prop) (d:Decidable c) (q:Ask) (h1:c→(zF cfg).ans q=some (.b p)) (h2:¬c→(zF cfg).ans q=some (.b (!p))) (t:c→Tw cfg α ρ C) (e:¬c→Tw cfg α ρ C)
 |vmC (n:Nat) (p:Bool) (b:Bool) (q:Ask) (h1:b=true→(zF cfg).ans q=some (.b p)) (h2:b=false→(zF cfg).ans q=some (.b (!p))) (t e:Tw cfg α ρ C)
 |bB {β:Type} (o:Option (β×Bool)) (q:Ask) (a:β×Bool→Ans) (h:∀x,o=some x→(zF cfg).ans q=some (a x)) (t e:β→Tw cfg α ρ C)
 |bd {β:Type} (o:Option β) (q:Ask) (a:β→Ans) (h:∀x,o=some x→(zF cfg).ans q=some (a x)) (t:β→Tw cfg α ρ C)
 |b2 {β γ:Type} (o:Option (β⊕γ)) (q:Ask) (a:β⊕γ→Ans) (h:∀x,o=some x→(zF cfg).ans q=some (a x)) (t:β→Tw cfg α ρ C) (e:γ→Tw cfg α ρ C)
 |b3 {β γ δ:Type} (o:Option (β⊕(γ⊕δ))) (q:Ask) (a:β⊕(γ⊕δ)→Ans) (h:∀x,o=some x→(zF cfg).ans q=some (a x)) (t:β→Tw cfg α ρ C) (e:γ→Tw cfg α ρ C) (g:δ→Tw cfg α ρ C)
inductive Tm (ρ:Type):Type 1 where
 |done (r:ρ)
 |no
 |bad
 |one (q:Ask) (t:Tm ρ)
 |nd {c:Prop} (t:c→Tm ρ)
 |two {c:Prop} (t:c→Tm ρ) (e:¬c→Tm ρ)
 |al0 (t e:Tm ρ)
 |all {β:Type} (t:β→Tm ρ)
 |al2 {β γ:Type} (t:β→Tm ρ) (e:γ→Tm ρ)
 |al3 {β γ δ:Type} (t:β→Tm ρ) (e:γ→Tm ρ) (g:δ→Tm ρ)
def UR (k:IntKind) (n:Int):Int:=match k with
 | .u8=>((b8 n).toNat:Nat)
 |k=>k.wrap n
theorem zd3 (k:IntKind) (n:Int):UR k n=k.wrap n:=by cases k <;> first|rfl|exact zd2 n
def skip {ρ:Type}:F ρ→Option Nat→F ρ
 | .ask q k,n=>match q with
  | .add i a b=>skip (k (.i (UR i (a+b)))) n
  | .sub i a b=>skip (k (.i (UR i (a - b)))) n
  | .mul i a b=>skip (k (.i (UR i (a*b)))) n
  | .quo i a b=>skip (k (.i (i.wrap (a.tdiv b)))) n
  | .rem a b=>skip (k (.i (a.tmod b))) n
  | .bit op i a b=>skip (k (.i (Yq op i a b))) n
  | .neg i a=>skip (k (.i (i.wrap (0 - a)))) n
  | .conv i a=>match i with
   | .i64=> .ask (.conv .i64 a) k
   |i=>skip (k (.i (UR i a))) n
  | .maxI a b=>skip (k (.i (if a<b then b else a))) n
  | .minI a b=>skip (k (.i (if b<a then b else a))) n
  | .notB a=>skip (k (.b (!a))) n
  | .catS a b=>skip (k (.s (a++b))) n
  | .lenS l=>skip (k (.i (l.length:Int))) n
  | .byteI b=>skip (k (.i ((b.toNat:Nat):Int))) n
  | .tr b=>match n with
   |none=>skip (k (.b b)) none
   |some 0=> .ask (.tr b) k
   |some (m+1)=>skip (k (.b b)) (some m)
  |q=> .ask q k
 |f,_=>f
section
variable {cfg:Cfg}
theorem PV {ρ:Type} (f:F ρ):∀n,(skip f n).run (zF cfg)=f.run (zF cfg):=by
 induction f with
 |pure a=>intro n;rfl
 |fail=>intro n;rfl
 |ask q k ih=>
  intro n
  have go:∀{q:Ask} {x:Ans} {n:Option Nat},(zF cfg).ans q=some x→(skip (k x) n).run (zF cfg)=(F.ask q k).run (zF cfg):=by
   intro q x n h
   rw[ih x n];simp only[F.run,h,oB]
  have w:∀i n,some (Ans.i (i.wrap n))=some (Ans.i (UR i n)):=fun i n=>by rw[zd3]
  cases q with
  |add i a b=>exact go (w i (a+b))
  |sub i a b=>exact go (w i (a - b))
  |mul i a b=>exact go (w i (a*b))
  |quo i a b=>exact go rfl
  |rem a b=>exact go rfl
  |bit op i a b=>exact go rfl
  |neg i a=>exact go rfl
  |conv i a=>
   have:=w i a
   cases i <;> first|rfl|exact go this
  |maxI a b=>exact go rfl
  |minI a b=>exact go rfl
  |notB a=>exact go rfl
  |catS a b=>exact go rfl
  |lenS l=>exact go rfl
  |byteI b=>exact go rfl
  |tr b=>match n with
   |none=>exact go rfl
   |some 0=>rfl
   |some (m+1)=>exact go rfl
  |_=>rfl
variable {α ρ:Type} {C:Option α→ρ→Prop}
def trF (fin:ρ→Bool):Tw cfg α ρ C→List (Ask×Ans)→F ρ→Tm ρ
 | .no,_,_=> .no
 | .ret _,_,f=>match skip f none with
  | .pure r=>bif fin r then .done r else .bad
  |_=> .bad
 | .tl ..,_,f=>match skip f none with
  | .pure r=> .done r
  |_=> .bad
 | .q x t,hs,f=>match skip f none with
  | .ask q k=> .one q (trF fin t hs (k x.a))
  |_=> .bad
 | .qt n x t,hs,f=>match skip f (some n)with
  | .ask q k=> .one q (trF fin t hs (k x.a))
  |_=> .bad
 | .ag i t,hs,f=>match skip f none with
  | .ask q k=>match hs[i]? with
   |some p=> .one q (trF fin t hs (k p.2))
   |none=> .bad
  |_=> .bad
 | .ax n p i t,hs,f=>match skip f (some n)with
  | .ask q k=>match hs[i]? with
   |some (.tr _,.b v)=> .one q (trF fin t hs (k (.b (bif p then v else !v))))
   |_=> .bad
  |_=> .bad
 | .ndC _ _ t,hs,f=> .nd fun h=>trF fin (t h) hs f
 | .spC _ _ t e,hs,f=> .two (fun h=>trF fin (t h) hs f) fun h=>trF fin (e h) hs f
 | .brC n p _ _ _ _ _ t e,hs,f=>match skip f n with
  | .ask q k=> .one q (.two (fun h=>trF fin (t h) hs (k (.b p))) fun h=>trF fin (e h) hs (k (.b !p)))
  |_=> .bad
 | .vmC n p b _ _ _ t e,hs,f=>match skip f (some n)with
  | .ask q k=> .one q (.al0 (trF fin t ((.tr b,.b true)::hs) (k (.b p))) (trF fin e ((.tr b,.b false)::hs) (k (.b !p))))
  |_=> .bad
 | .bB _ q' a _ t e,hs,f=>match skip f none with
  | .ask q k=> .one q (.al2 (fun x=>trF fin (t x) ((q',a (x,true))::hs) (k (a (x,true)))) fun x=>trF fin (e x) ((q',a (x,false))::hs) (k (a (x,false))))
  |_=> .bad
 | .bd _ q' a _ t,hs,f=>match skip f none with
  | .ask q k=> .one q (.all fun x=>trF fin (t x) ((q',a x)::hs) (k (a x)))
  |_=> .bad
 | .b2 _ q' a _ t e,hs,f=>match skip f none with
  | .ask q k=> .one q (.al2 (fun x=>trF fin (t x) ((q',a (.inl x))::hs) (k (a (.inl x)))) fun x=>trF fin (e x) ((q',a (.inr x))::hs) (k (a (.inr x))))
  |_=> .bad
 | .b3 _ q' a _ t e g,hs,f=>match skip f none with
  | .ask q k=> .one q (.al3 (fun x=>trF fin (t x) ((q',a (.inl x))::hs) (k (a (.inl x)))) (fun x=>trF fin (e x) ((q',a (.inr (.inl x)))::hs) (k (a (.inr (.inl x))))) fun x=>trF fin (g x) ((q',a (.inr (.inr x)))::hs) (k (a (.inr (.inr x)))))
  |_=> .bad
def trT (enc:α→ρ):Tw cfg α ρ C→List (Ask×Ans)→Tm ρ
 | .no,_=> .no
 | .ret a,_=> .done (enc a)
 | .tl _ r _,_=> .done r
 | .q x t,hs=> .one x.q (trT enc t hs)
 | .qt _ x t,hs=> .one x.q (trT enc t hs)
 | .ag i t,hs=>match hs[i]? with
  |some p=> .one p.1 (trT enc t hs)
  |none=> .no
 | .ax _ p i t,hs=>match hs[i]? with
  |some (.tr b,.b _)=> .one (.tr (bif p then b else !b)) (trT enc t hs)
  |_=> .no
 | .ndC _ _ t,hs=> .nd fun h=>trT enc (t h) hs
 | .spC _ _ t e,hs=> .two (fun h=>trT enc (t h) hs) fun h=>trT enc (e h) hs
 | .brC _ _ _ _ q _ _ t e,hs=> .one q (.two (fun h=>trT enc (t h) hs) fun h=>trT enc (e h) hs)
 | .vmC _ _ b q _ _ t e,hs=> .one q (.al0 (trT enc t ((.tr b,.b true)::hs)) (trT enc e ((.tr b,.b false)::hs)))
 | .bB _ q a _ t e,hs=> .one q (.al2 (fun x=>trT enc (t x) ((q,a (x,true))::hs)) fun x=>trT enc (e x) ((q,a (x,false))::hs))
 | .bd _ q a _ t,hs=> .one q (.all fun x=>trT enc (t x) ((q,a x)::hs))
 | .b2 _ q a _ t e,hs=> .one q (.al2 (fun x=>trT enc (t x) ((q,a (.inl x))::hs)) fun x=>trT enc (e x) ((q,a (.inr x))::hs))
 | .b3 _ q a _ t e g,hs=> .one q (.al3 (fun x=>trT enc (t x) ((q,a (.inl x))::hs)) (fun x=>trT enc (e x) ((q,a (.inr (.inl x)))::hs)) fun x=>trT enc (g x) ((q,a (.inr (.inr x)))::hs))
def Tw.den:Tw cfg α ρ C→Option α
 | .no=>none
 | .ret a=>some a
 | .tl o _ _=>o
 | .q _ t| .qt _ _ t| .ag _ t| .ax _ _ _ t=>t.den
 | .ndC c _ t=>if h:c then(t h).den else none
 | .spC c _ t e=>if h:c then(t h).den else(e h).den
 | .brC _ _ c _ _ _ _ t e=>if h:c then(t h).den else(e h).den
 | .vmC _ _ b _ _ _ t e=>bif b then t.den else e.den
 | .bB o _ _ _ t e=>o.bind fun x=>bif x.2 then(t x.1).den else(e x.1).den
 | .bd o _ _ _ t=>o.bind fun x=>(t x).den
 | .b2 o _ _ _ t e=>o.bind fun x=>match x with
  | .inl x=>(t x).den
  | .inr x=>(e x).den
 | .b3 o _ _ _ t e g=>o.bind fun x=>match x with
  | .inl x=>(t x).den
  | .inr (.inl x)=>(e x).den
  | .inr (.inr x)=>(g x).den
theorem zhd {fin:ρ→Bool} {κ:ρ→Option ρ} {enc:α→ρ} (hfin:∀r,fin r=true→κ r=some r) (hC:∀o r,C o r→∀a,o=some a→κ r=some (enc a)) (t:Tw cfg α ρ C):
 ∀hs f,(∀p∈hs,(zF cfg).ans p.1=some p.2)→trF fin t hs f=trT enc t hs→∀a,t.den=some a→(f.run (zF cfg)).bind κ=some (enc a):=by
 have ask:∀{f:F ρ} {n:Option Nat} {q:Ask} {k:Ans→F ρ} {x:Ans},skip f n= .ask q k→(zF cfg).ans q=some x→f.run (zF cfg)=(k x).run (zF cfg):=by
  intro f n q k x h1 h2
  rw[<-PV f n,h1];simp only[F.run,h2,oB]
 have push:∀{hs:List (Ask×Ans)} {q:Ask} {x:Ans},(∀p∈hs,(zF cfg).ans p.1=some p.2)→(zF cfg).ans q=some x→∀p∈(q,x)::hs,(zF cfg).ans p.1=some p.2:=by
  intro hs q x h1 h2 p hp
  rcases List.mem_cons.1 hp with rfl|hp
  ·exact h2
  ·exact h1 p hp
 induction t with
 |no=>intro hs f _ _ a h;cases h
 |ret b=>
  intro hs f _ he a h
  simp only[Tw.den,oS]at h
  subst h
  simp only[trF,trT]at he
  split at he
  ·rename_i r hr
   cases hf:fin r with
   |false=>rw[hf]at he;cases he
   |true=>
    rw[hf]at he
    simp only[cond_true,Tm.done.injEq]at he
    subst he
    rw[<-PV f none,hr]
    exact hfin _ hf
  ·cases he
 |tl o r hc=>
  intro hs f _ he a h
  simp only[Tw.den]at h
  simp only[trF,trT]at he
  split at he
  ·rename_i r' hr
   simp only[Tm.done.injEq]at he
   subst he
   rw[<-PV f none,hr]
   exact hC o r' hc a h
  ·cases he
 |q x t ih=>
  intro hs f hh he a h
  simp only[trF,trT]at he
  split at he
  ·rename_i q k hq
   simp only[Tm.one.injEq]at he
   rw[ask hq (by rw[he.1];exact x.h)]
   exact ih hs _ hh he.2 a h
  ·cases he
 |qt n x t ih=>
  intro hs f hh he a h
  simp only[trF,trT]at he
  split at he
  ·rename_i q k hq
   simp only[Tm.one.injEq]at he
   rw[ask hq (by rw[he.1];exact x.h)]
   exact ih hs _ hh he.2 a h
  ·cases he
 |ag i t ih=>
  intro hs f hh he a h
  simp only[trF,trT]at he
  cases hi:hs[i]? with
  |none=>
   rw[hi]at he
   split at he <;> cases he
  |some p=>
   rw[hi]at he
   split at he
   ·rename_i q k hq
    simp only[Tm.one.injEq]at he
    rw[ask hq (by rw[he.1];exact hh p (List.mem_of_getElem? hi))]
    exact ih hs _ hh he.2 a h
   ·cases he
 |ax n p i t ih=>
  intro hs f hh he a h
  simp only[trF,trT]at he
  split at he
  ·rename_i q k hq
   split at he
   ·rename_i b v hi
    simp only[Tm.one.injEq]at he
    have hb:some (Ans.b b)=some (Ans.b v):=hh _ (List.mem_of_getElem? hi)
    obtain rfl:b=v:=by simpa using hb
    rw[ask hq (by rw[he.1];rfl)]
    exact ih hs _ hh (by simpa using he.2) a h
   ·cases he
  ·split at he <;> cases he
 |ndC c d t ih=>
  intro hs f hh he a h
  simp only[trF,trT]at he
  simp only[Tw.den]at h
  split at h
  ·rename_i hc
   injection he with _ he
   exact ih hc hs f hh (congrFun he hc) a h
  ·cases h
 |spC c d t e iht ihe=>
  intro hs f hh he a h
  simp only[trF,trT]at he
  simp only[Tw.den]at h
  injection he with _ he1 he2
  split at h
  ·rename_i hc
   exact iht hc hs f hh (congrFun he1 hc) a h
  ·rename_i hc
   exact ihe hc hs f hh (congrFun he2 hc) a h
 |brC n p c d q h1 h2 t e iht ihe=>
  intro hs f hh he a h
  simp only[trF,trT]at he
  simp only[Tw.den]at h
  split at he
  ·rename_i q' k hq
   simp only[Tm.one.injEq]at he
   obtain⟨rfl,he⟩:=he
   injection he with _ he1 he2
   split at h
   ·rename_i hc
    rw[ask hq (h1 hc)]
    exact iht hc hs _ hh (congrFun he1 hc) a h
   ·rename_i hc
    rw[ask hq (h2 hc)]
    exact ihe hc hs _ hh (congrFun he2 hc) a h
  ·cases he
 |vmC n p b q h1 h2 t e iht ihe=>
  intro hs f hh he a h
  simp only[trF,trT]at he
  split at he
  ·rename_i q' k hq
   simp only[Tm.one.injEq,Tm.al0.injEq]at he
   obtain⟨rfl,he1,he2⟩:=he
   cases b with
   |true=>
    rw[ask hq (h1 rfl)]
    exact iht _ _ (push hh rfl) he1 a h
   |false=>
    rw[ask hq (h2 rfl)]
    exact ihe _ _ (push hh rfl) he2 a h
  ·cases he
 |bB o q x hx t e iht ihe=>
  intro hs f hh he a h
  simp only[trF,trT]at he
  simp only[Tw.den]at h
  obtain⟨y,hy,h⟩:=oI h
  split at he
  ·rename_i q' k hq
   simp only[Tm.one.injEq]at he
   obtain⟨rfl,he⟩:=he
   injection he with _ _ he1 he2
   rw[ask hq (hx y hy)]
   obtain⟨y,b⟩:=y
   cases b with
   |true=>exact iht y _ _ (push hh (hx _ hy)) (congrFun he1 y) a h
   |false=>exact ihe y _ _ (push hh (hx _ hy)) (congrFun he2 y) a h
  ·cases he
 |bd o q x hx t ih=>
  intro hs f hh he a h
  simp only[trF,trT]at he
  simp only[Tw.den]at h
  obtain⟨y,hy,h⟩:=oI h
  split at he
  ·rename_i q' k hq
   simp only[Tm.one.injEq]at he
   obtain⟨rfl,he⟩:=he
   injection he with _ he
   rw[ask hq (hx y hy)]
   exact ih y _ _ (push hh (hx y hy)) (congrFun he y) a h
  ·cases he
 |b2 o q x hx t e iht ihe=>
  intro hs f hh he a h
  simp only[trF,trT]at he
  simp only[Tw.den]at h
  obtain⟨y,hy,h⟩:=oI h
  split at he
  ·rename_i q' k hq
   simp only[Tm.one.injEq]at he
   obtain⟨rfl,he⟩:=he
   injection he with _ _ he1 he2
   rw[ask hq (hx y hy)]
   cases y with
   |inl y=>exact iht y _ _ (push hh (hx _ hy)) (congrFun he1 y) a h
   |inr y=>exact ihe y _ _ (push hh (hx _ hy)) (congrFun he2 y) a h
  ·cases he
 |b3 o q x hx t e g iht ihe ihg=>
  intro hs f hh he a h
  simp only[trF,trT]at he
  simp only[Tw.den]at h
  obtain⟨y,hy,h⟩:=oI h
  split at he
  ·rename_i q' k hq
   simp only[Tm.one.injEq]at he
   obtain⟨rfl,he⟩:=he
   injection he with _ _ _ he1 he2 he3
   rw[ask hq (hx y hy)]
   match y with
   | .inl y=>exact iht y _ _ (push hh (hx _ hy)) (congrFun he1 y) a h
   | .inr (.inl y)=>exact ihe y _ _ (push hh (hx _ hy)) (congrFun he2 y) a h
   | .inr (.inr y)=>exact ihg y _ _ (push hh (hx _ hy)) (congrFun he3 y) a h
  ·cases he
def OkC (cfg:Cfg) {α:Type} (o:Option α) (f:FuncId) (st:List Entry) (xs:List V) (enc:α→V×List Entry):Prop:=∀r,o=some r→(zF cfg).call f st xs=some (enc r)
def OkL (cfg:Cfg) {α:Type} (o:Option α) (f:FuncId) (b:Code) (s:S) (enc:α→Ex×S):Prop:=∀r,o=some r→(zF cfg).loop f b s=some (enc r)
abbrev Tc (cfg:Cfg) (α:Type):=Tw cfg α (V×List Entry) fun _ _=>False
theorem tc {f:FuncId} {st:List Entry} {xs:List V} {code:Code} {nt:Nat} {rs:List ResultVar} {o:Option α} {enc:α→V×List Entry} (t:Tc cfg α) (hf:cfg.funcs f=some (code,nt,rs))
 (h:trF (fun _=>true) t [] (BX cfg f st xs code nt rs)=trT enc t []:=by kernel_rfl) (hd:t.den=o:=by kernel_rfl) (hX:cfg.X f st xs=none:=by exact rfl):OkC cfg o f st xs enc:=by
 intro r hr
 refine AD hX hf ?_
 rw[<-zd0 cfg (zF cfg) rfl]
 subst hd
 have:=zhd (κ:=some) (fun _ _=>rfl) (fun _ _ h=>h.elim) t [] _ (by simp) h r hr
 simpa using this
def KL (cfg:Cfg) (f:FuncId) (b:Code) {α:Type} (enc:α→Ex×S) (o:Option α) (r:Ex×S):Prop:=r.1= .normal∧OkL cfg o f b r.2 enc
abbrev Tl (cfg:Cfg) (f:FuncId) (b:Code) {α:Type} (enc:α→Ex×S):=Tw cfg α (Ex×S) (KL cfg f b enc)
def znm:Ex×S→Bool
 |(.normal,_)=>false
 |_=>true
theorem tlp {f:FuncId} {b:Code} {s:S} {o:Option α} {enc:α→Ex×S} (t:Tl cfg f b enc)
 (h:trF znm t [] (Xd cfg f b s)=trT enc t []:=by kernel_rfl) (hd:t.den=o:=by kernel_rfl):OkL cfg o f b s enc:=by
 intro r hr
 subst hd
 have:=zhd (κ:=fun x=>if x.1= .normal then(zF cfg).loop f b x.2 else some x) (fun x hx=>by
  obtain⟨ex,s⟩:=x
  cases ex <;> first|(cases hx;done)|rfl) (fun o x hC a ha=>by
  rw[if_pos hC.1];exact hC.2 a ha) t [] _ (by simp) h r hr
 rw[AE]
 rw[Ef]at this
 cases hx:exec cfg (zF cfg) f b s with
 |none=>rw[hx]at this;cases this
 |some x=>
  rw[hx]at this
  obtain⟨ex,s1⟩:=x
  cases ex <;> exact this
end
namespace Tw
variable {cfg:Cfg} {α ρ τ β γ δ:Type} {C:Option α→ρ→Prop}
def nd (c:Prop) [d:Decidable c] (t:c→Tw cfg α ρ C):Tw cfg α ρ C:= .ndC c d t
def sp (c:Prop) [d:Decidable c] (t:c→Tw cfg α ρ C) (e:¬c→Tw cfg α ρ C):Tw cfg α ρ C:= .spC c d t e
def le (e:τ→List Go.Am.C) (x:List τ) (t:Tw cfg α ρ C):Tw cfg α ρ C:= .q (.le e x) t
def na (z:Int) (t:Nat→Tw cfg α ρ C):Tw cfg α ρ C:= .bd (zn z) (.nat z) .n (fun _ h=>A.nat h) t
def nl (i:Nat) (t:Tw cfg α ρ C):Tw cfg α ρ C:= .q ⟨.nat i,.n i,rfl⟩ t
def ix {e c:τ→List Go.Am.C} (h:∀x,e x=c x) (l:List τ) (i:Nat) (t:τ→Tw cfg α ρ C):Tw cfg α ρ C:= .bd l[i]? (.idx (eL e l) i) (fun x=> .e (c x)) (fun x hx=>A.idx hx (h x)) t
def ix0 (e:τ→List Go.Am.C) (l:List τ) (i:Nat) (t:τ→Tw cfg α ρ C):Tw cfg α ρ C:= .bd l[i]? (.idx (eL e l) i) (fun x=> .e (e x)) (fun _ hx=>A.idx hx rfl) t
def is (l:List UInt8) (i:Nat) (t:UInt8→Tw cfg α ρ C):Tw cfg α ρ C:= .bd l[i]? (.idxS l i) .u (fun _ hx=>A.idxS hx) t
def ct (e:τ→List Go.Am.C) (l:List τ) (lo hi:Option Nat) (t:List τ→Tw cfg α ρ C):Tw cfg α ρ C:= .bd (qK l lo hi) (.cut (eL e l) lo hi) (fun x=> .l (eL e x)) (fun _ hx=>A.cut hx) t
def cs (l:List UInt8) (lo hi:Option Nat) (t:List UInt8→Tw cfg α ρ C):Tw cfg α ρ C:= .bd (qK l lo hi) (.cutS l lo hi) .s (fun _ hx=>A.cutS hx) t
def md (m:Nat) (x:Int) (t:Nat→Tw cfg α ρ C):Tw cfg α ρ C:= .bd (Q6 m x) (.made m x) .n (fun _ hx=>A.made hx) t
def un {n:Nat} {e:τ→List Go.Am.C} (E:Enc n e) (l:List τ) (t:Tw cfg α ρ C):Tw cfg α ρ C:= .q ⟨.uni n (eL e l),.b true,A.uni E⟩ t
def vw {n:Nat} {e:τ→List Go.Am.C} (E:Enc n e) (l:List τ) (t:Tw cfg α ρ C):Tw cfg α ρ C:= .q ⟨.view (eL e l),.l (eL e l),A.view E⟩ t
def vo {n:Nat} {o e:τ→List Go.Am.C} (O:OEnc n o e) (l:List τ) (t:Tw cfg α ρ C):Tw cfg α ρ C:= .q ⟨.view (eL o l),.l (eL e l),A.viewO O⟩ t
def cn {n:Nat} {o e:τ→List Go.Am.C} (O:OEnc n o e) (l:List τ) (t:Tw cfg α ρ C):Tw cfg α ρ C:= .q ⟨.cln (eL o l),.b true,A.cln O⟩ t
def pl {n:Nat} {e:τ→List Go.Am.C} (E:Enc n e) (l:List τ) (t:Tw cfg α ρ C):Tw cfg α ρ C:= .q ⟨.pl (eL e l),.b true,A.pl E⟩ t
def bt (l:List UInt8) (t:Tw cfg α ρ C):Tw cfg α ρ C:= .q ⟨.bytes (eL za l),.s l,A.bytes⟩ t
def os (l:List UInt8) (t:Tw cfg α ρ C):Tw cfg α ρ C:= .q ⟨.ofStr l,.l (eL za l),A.ofStr⟩ t
def ap (m:Nat) {n:Nat} {e:τ→List Go.Am.C} (E:Enc n e) (a b:List τ) (t:zC m (a.length+b.length)→Tw cfg α ρ C):Tw cfg α ρ C:= .nd (zC m (a.length+b.length)) fun h=> .q ⟨.room m (eL e a) (eL e b),.b true,A.room h⟩ <| .q ⟨.uni n (eL e b),.b true,A.uni E⟩ <| .q ⟨.app (eL e a) (eL e b),.l (eL e (a++b)),A.app⟩ (t h)
def ao (m:Nat) {n:Nat} {o e:τ→List Go.Am.C} (O:OEnc n o e) (a b:List τ) (t:zC m (a.length+b.length)→Tw cfg α ρ C):Tw cfg α ρ C:= .nd (zC m (a.length+b.length)) fun h=> .q ⟨.room m (eL o a) (eL o b),.b true,A.room h⟩ <| .q ⟨.uni n (eL o b),.b true,A.uniO O⟩ <| .q ⟨.app (eL o a) (eL o b),.l (eL o (a++b)),A.app⟩ (t h)
def lI (a b:Int) (t:a<b→Tw cfg α ρ C) (e:¬a<b→Tw cfg α ρ C):Tw cfg α ρ C:= .brC none true (a<b) inferInstance (.ltI a b) A.ltI_t A.ltI_f t e
def gI (a b:Int) (t:a<=b→Tw cfg α ρ C) (e:¬a<=b→Tw cfg α ρ C):Tw cfg α ρ C:= .brC none true (a<=b) inferInstance (.leI a b) A.leI_t A.leI_f t e
def eI (a b:Int) (t:a=b→Tw cfg α ρ C) (e:¬a=b→Tw cfg α ρ C):Tw cfg α ρ C:= .brC none true (a=b) inferInstance (.eqI a b) A.eqI_t A.eqI_f t e
def sI (a b:List UInt8) (t:a=b→Tw cfg α ρ C) (e:¬a=b→Tw cfg α ρ C):Tw cfg α ρ C:= .brC none true (a=b) inferInstance (.eqS a b) A.eqS_t A.eqS_f t e
def bI (a b:List UInt8) (t:Op.bytesLess a b=true→Tw cfg α ρ C) (e:¬Op.bytesLess a b=true→Tw cfg α ρ C):Tw cfg α ρ C:= .brC none true (Op.bytesLess a b=true) inferInstance (.ltS a b) A.ltS_t A.ltS_f t e
def lD (a b:Int) (t:Tw cfg α ρ C):Tw cfg α ρ C:= .q (.lD a b) t
def gD (a b:Int) (t:Tw cfg α ρ C):Tw cfg α ρ C:= .q (.gD a b) t
def eD (a b:Int) (t:Tw cfg α ρ C):Tw cfg α ρ C:= .q (.eD a b) t
def sD (a b:List UInt8) (t:Tw cfg α ρ C):Tw cfg α ρ C:= .q ⟨.eqS a b,.b (decide (a=b)),A.eqS_d⟩ t
def cI (n:Nat) (c:Prop) [d:Decidable c] (t:c→Tw cfg α ρ C) (e:¬c→Tw cfg α ρ C):Tw cfg α ρ C:= .brC (some n) true c d (.tr (decide c)) (fun h=>congrArg (fun b=>some (Ans.b b)) (decide_eq_true h)) (fun h=>congrArg (fun b=>some (Ans.b b)) (decide_eq_false h)) t e
def cN (n:Nat) (c:Prop) [d:Decidable c] (t:c→Tw cfg α ρ C) (e:¬c→Tw cfg α ρ C):Tw cfg α ρ C:= .brC (some n) false c d (.tr (!decide c)) (fun h=>congrArg (fun b=>some (Ans.b !b)) (decide_eq_true h)) (fun h=>congrArg (fun b=>some (Ans.b !b)) (decide_eq_false h)) t e
def kT (n:Nat) {b:Bool} (h:b=true) (t:Tw cfg α ρ C):Tw cfg α ρ C:= .qt n ⟨.tr b,.b true,congrArg (fun b=>some (Ans.b b)) h⟩ t
def kF (n:Nat) {b:Bool} (h:b=false) (t:Tw cfg α ρ C):Tw cfg α ρ C:= .qt n ⟨.tr b,.b false,congrArg (fun b=>some (Ans.b b)) h⟩ t
def cl {o:Option β} {f:FuncId} {st:List Entry} {xs:List V} {R:β→V×List Entry} (h:OkC cfg o f st xs R) (t:β→Tw cfg α ρ C):Tw cfg α ρ C:= .bd o (.call f st xs) (fun r=> .r (R r).1 (R r).2) (fun r hr=>A.call (h r hr)) t
def c2 {o:Option (β⊕γ)} {f:FuncId} {st:List Entry} {xs:List V} {R:β⊕γ→V×List Entry} (h:OkC cfg o f st xs R) (t:β→Tw cfg α ρ C) (e:γ→Tw cfg α ρ C):Tw cfg α ρ C:= .b2 o (.call f st xs) (fun r=> .r (R r).1 (R r).2) (fun r hr=>A.call (h r hr)) t e
def az (n i:Nat) (t:Tw cfg α ρ C):Tw cfg α ρ C:= .ax n true i t
def an (n i:Nat) (t:Tw cfg α ρ C):Tw cfg α ρ C:= .ax n false i t
def ae {o:Option (β×Bool)} {f:FuncId} {st:List Entry} {xs:List V} {R:β×Bool→V×List Entry} (h:OkC cfg o f st xs R) (t e:β→Tw cfg α ρ C):Tw cfg α ρ C:= .bB o (.call f st xs) (fun r=> .r (R r).1 (R r).2) (fun r hr=>A.call (h r hr)) t e
def fs (a b:List UInt8) (t:a.length+b.length<=1000000→Tw cfg α ρ C):Tw cfg α ρ C:= .nd (a.length+b.length<=1000000) fun h=> .q ⟨.fits a b,.b true,congrArg (fun z=>some (Ans.b z)) (decide_eq_true h)⟩ (t h)
def vM (n:Nat) (b:Bool) (t e:Tw cfg α ρ C):Tw cfg α ρ C:= .vmC n true b (.tr b) (fun h=>congrArg (fun b=>some (Ans.b b)) h) (fun h=>congrArg (fun b=>some (Ans.b b)) h) t e
def vN (n:Nat) (b:Bool) (t e:Tw cfg α ρ C):Tw cfg α ρ C:= .vmC n false b (.tr !b) (fun h=>congrArg (fun b=>some (Ans.b !b)) h) (fun h=>congrArg (fun b=>some (Ans.b !b)) h) t e
def sl {e:τ→List Go.Am.C} {x:τ} {c:List Go.Am.C} (h:e x=c) (l:List τ) (i:Nat) (t:Tw cfg α ρ C):Tw cfg α ρ C:= .q ⟨.setL (eL e l) i c,.l (eL e (l.set i x)),A.setL h⟩ t
def eb {a b x y:Bool} (ha:a=x) (hb:b=y) (t:Tw cfg α ρ C):Tw cfg α ρ C:= .q ⟨.eqB a b,.b (x==y),by subst ha;subst hb;rfl⟩ t
def cw (x:Int) (t:Tw cfg α ρ C):Tw cfg α ρ C:= .q ⟨.conv .i64 x,.i (w64 x),rfl⟩ t
def lp {o:Option β} {f:FuncId} {b:Code} {s:S} {R:β→Ex×S} (h:OkL cfg o f b s R) (t:β→Tw cfg α ρ C):Tw cfg α ρ C:= .bd o (.loop f b s) (fun r=> .x (R r).1 (R r).2) (fun r hr=>A.loop (h r hr)) t
def l2 {o:Option (β⊕γ)} {f:FuncId} {b:Code} {s:S} {R:β⊕γ→Ex×S} (h:OkL cfg o f b s R) (t:β→Tw cfg α ρ C) (e:γ→Tw cfg α ρ C):Tw cfg α ρ C:= .b2 o (.loop f b s) (fun r=> .x (R r).1 (R r).2) (fun r hr=>A.loop (h r hr)) t e
def l3 {o:Option (β⊕(γ⊕δ))} {f:FuncId} {b:Code} {s:S} {R:β⊕(γ⊕δ)→Ex×S} (h:OkL cfg o f b s R) (t:β→Tw cfg α ρ C) (e:γ→Tw cfg α ρ C) (g:δ→Tw cfg α ρ C):Tw cfg α ρ C:= .b3 o (.loop f b s) (fun r=> .x (R r).1 (R r).2) (fun r hr=>A.loop (h r hr)) t e g
def go {f:FuncId} {b:Code} {enc:α→Ex×S} {o:Option α} {s:S} (h:OkL cfg o f b s enc):Tl cfg f b enc:= .tl o (.normal,s) ⟨rfl,h⟩
end Tw
def ci (n:Int):C:= .int .i64 n
def cq {τ:Type} (e:τ→List C) (x:List τ):C:= .seq (eL e x)
def vi (n:Int):V:= .val false [.int .i64 n]
def vb (b:Bool):V:= .val false [.bool b]
def vs (x:List UInt8):V:= .val false [.str x]
def vq {τ:Type} (e:τ→List C) (x:List τ):V:= .val false [.seq (eL e x)]
def vr (i:Nat):V:= .val false [.ref i]
def vp (i o:Nat):V:= .val false [.ptr i o]
theorem dT {c:Prop} [Decidable c] (h:c):decide c=true:=decide_eq_true h
theorem dF {c:Prop} [Decidable c] (h:¬c):decide c=false:=decide_eq_false h
theorem nT {b:Bool} (h:b=true):(!b)=false:=by rw[h];rfl
theorem nF {b:Bool} (h:b=false):(!b)=true:=by rw[h];rfl
theorem bF {b:Bool} (h:¬b=true):b=false:=Bool.eq_false_iff.2 h
end Go.Am
