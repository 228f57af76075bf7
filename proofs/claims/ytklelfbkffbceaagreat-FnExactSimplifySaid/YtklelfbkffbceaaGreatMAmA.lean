/- The machine, part 1: a small deterministic machine over plain data, and the proof that what it answers the program answers too. Conditions: none beyond those written at each theorem. -/
import Derived.Calls
import Derived.WalkKit
import Derived.Laws.BytesString
import Derived.Laws.Small
set_option linter.unusedVariables false
set_option linter.unusedSimpArgs false
/- Definitions of a small deterministic machine over plain data that runs a program's own code: values, state, operations, regions, control, calls. Nothing is proved here. -/
namespace Go.Am
inductive C where
 | int (k : IntKind) (n : Int)
 | bool (b : Bool)
 | str (s : List UInt8)
 | nils
 | seq (l : List (List C))
 | own (sz : Nat) (l : List (List C))
 | ref (id : Nat)
 | ptr (id off : Nat)
 | eptr (id i sz off : Nat)
 | rptr (cs : List C)
 | fn (f : FuncId) (caps : List C)
 | box (cs : List C)
 | raw (v : Value)
 | opq
 deriving Inhabited
inductive V where
 | val (g : Bool) (cs : List C)
 | tup (vs : List (Bool × List C))
 | dead
 deriving Inhabited
inductive Entry where
 | var (cs : List C)
 | obj (sz : Nat) (l : List (List C))
 | hole (sz : Nat) (l : List (List C)) (i : Nat) (hs : List (Nat × Nat))
 | mp (es : List (List UInt8 × Bool × List C))
 | dead
 deriving Inhabited
def shape : Entry → Option (Nat × Nat)
 | .obj sz l => some (sz, l.length)
 | .hole sz l _ _ => some (sz, l.length)
 | .mp _ => some (0, 0)
 | _ => none
structure S where
 sl : List (Nat × V)
 st : List Entry
 k : Nat
inductive TD where
 | slice (e : TypeId)
 | struct (fs : List (Nat × TypeId))
 | array (n : Nat) (e : TypeId)
 | int (k : IntKind)
 | bool
 | string
 | ptr
 | map (k e : TypeId)
 | iface
 | other
 deriving DecidableEq
structure TI where
 d : TD
 agg : Bool
 size : Nat
 bytes : Nat
 zero : List C
inductive Tr where
 | nil
 | node (l : Tr) (k : Nat) (v : TI) (r : Tr)
def Tr.find : Tr → Nat → Option TI
 | .nil, _ => none
 | .node l k v r, t => bif Nat.beq t k then some v else bif Nat.blt t k then l.find t else r.find t
structure Cfg where
 T : TypeId → Option TI
 funcs : FuncId → Option (Code × Nat × List ResultVar)
 X : FuncId → List Entry → List V → Option (V × List Entry)
 lend : FuncId → List Nat
 keep : FuncId → Nat → List Nat
 frz : FuncId → Bool
 free : FuncId → Nat → List (Nat × Nat)
 ownT : FuncId → Nat → List Nat
 own : List Nat
 fzT : FuncId → Nat → List Nat
 fz : List Nat
 nlT : FuncId → Bool
 nl : Bool
 mv : FuncId → List (Nat × Nat)
 xk : FuncId → Nat → Option (List Nat)
 thT : FuncId → Nat → List Nat
 th : List Nat
 vz : FuncId → Nat → List Nat
inductive Ex where
 | normal
 | exit (id : Nat)
 | ret
 deriving DecidableEq
structure Prims where
 add : IntKind → Int → Int → Int
 sub : IntKind → Int → Int → Int
 mul : IntKind → Int → Int → Int
 quo : IntKind → Int → Int → Int
 rem : Int → Int → Int
 bit : BinOp → IntKind → Int → Int → Int
 neg : IntKind → Int → Int
 conv : IntKind → Int → Int
 nz : Int → Bool
 eqI : Int → Int → Bool
 ltI : Int → Int → Bool
 leI : Int → Int → Bool
 maxI : Int → Int → Int
 minI : Int → Int → Int
 eqB : Bool → Bool → Bool
 notB : Bool → Bool
 eqS : List UInt8 → List UInt8 → Bool
 fits : List UInt8 → List UInt8 → Bool
 catS : List UInt8 → List UInt8 → List UInt8
 ltS : List UInt8 → List UInt8 → Bool
 len : List (List C) → Int
 lenS : List UInt8 → Int
 nat : Int → Option Nat
 idx : List (List C) → Nat → Option (List C)
 idxS : List UInt8 → Nat → Option UInt8
 byteI : UInt8 → Int
 setL : List (List C) → Nat → List C → List (List C)
 app : List (List C) → List (List C) → List (List C)
 cut : List (List C) → Option Nat → Option Nat → Option (List (List C))
 cutS : List UInt8 → Option Nat → Option Nat → Option (List UInt8)
 rep : Nat → List C → List (List C)
 view : List (List C) → List (List C)
 pl : List (List C) → Bool
 uni : Nat → List (List C) → Bool
 room : Nat → List (List C) → List (List C) → Bool
 made : Nat → Int → Option Nat
 bytes : List (List C) → Option (List UInt8)
 ofStr : List UInt8 → List (List C)
 cln : List (List C) → Bool
 subA : List C → Nat → Nat → Nat → Nat → Option (List C)
 putA : List C → Nat → Nat → Nat → List C → Option (List C)
structure M where
 p : Prims
 call : FuncId → List Entry → List V → Option (V × List Entry)
 loop : FuncId → Code → S → Option (Ex × S)
/-! #### zB-ups -/
def zB : List (Nat × V) → Nat → V
 | [], _ => .dead
 | (j, v) :: r, i => if i = j then v else zB r i
def get : List Entry → Nat → Entry
 | [], _ => .dead
 | e :: _, 0 => e
 | _ :: r, n + 1 => get r n
def put : List Entry → Nat → Entry → List Entry
 | [], 0, e => [e]
 | [], n + 1, e => .dead :: put [] n e
 | _ :: r, 0, e => e :: r
 | x :: r, n + 1, e => x :: put r n e
def cC : Value → C
 | .int k n => .int k n
 | .bool b => .bool b
 | .string s => .str s.data.toList
 | .slice none 0 0 => .nils
 | v => .raw v
def simple : Value → Bool
 | .agg _ | .tuple _ => false
 | _ => true
def cV : Value → V
 | .agg cs => bif cs.toList.all simple then .val true (cs.toList.map cC) else .dead
 | .tuple _ => .dead
 | v => .val false [cC v]
def S.ev (s : S) : Operand → V
 | .tmp t => zB s.sl t
 | .const v => cV v
 | .func f => .val false [.fn f []]
 | .global _ => .dead
def V.cells : V → Option (List C)
 | .val _ cs => some cs
 | _ => none
def V.one : V → Option C
 | .val false [c] => some c
 | _ => none
def Xn : V → Option Bool
 | .val false [.bool b] => some b
 | _ => none
def mk (g : Bool) (cs : List C) : Option V := match g, cs with
 | true, cs => some (.val true cs)
 | false, [c] => some (.val false [c])
 | _, _ => none
/-! #### jc and views -/
mutual
def ZL : C → C
 | .own _ l => .seq (xX l)
 | .nils => .seq []
 | .box _ => .raw .nilFunc
 | c => c
def xX : List (List C) → List (List C)
 | [] => []
 | e :: l => y6 e :: xX l
def y6 : List C → List C
 | [] => []
 | c :: e => ZL c :: y6 e
end
mutual
def kL : C → Bool
 | .seq _ | .rptr _ | .fn _ _ | .box _ => false
 | .own _ l => jT l
 | _ => true
def jT : List (List C) → Bool
 | [] => true
 | e :: l => vJ e && jT l
def vJ : List C → Bool
 | [] => true
 | c :: e => kL c && vJ e
end
variable (m : Prims)
def jc (st : List Entry) (id : Nat) : Option (Nat × List (List C)) :=
 match get st id with
 | .obj sz l => some (sz, l)
 | _ => none
def vw (st : List Entry) : C → Option C
 | .ref id => (jc st id).map fun x => .seq (m.view x.2)
 | .own _ _ => none
 | .nils => some (.seq [])
 | c => some c
def vws (st : List Entry) : List C → Option (List C)
 | [] => some []
 | c :: cs => (vw m st c).bind fun x => (vws st cs).map fun xs => x :: xs
def Hr (st : List Entry) : C → Option (C × List Entry × List Nat)
 | .ref id => match get st id with
  | .obj sz l => some (.own sz l, put st id .dead, [id])
  | _ => none
 | .int k n => some (.int k n, st, [])
 | .bool b => some (.bool b, st, [])
 | .str s => some (.str s, st, [])
 | .nils => some (.nils, st, [])
 | .seq l => some (.seq l, st, [])
 | .raw v => some (.raw v, st, [])
 | _ => none
def QI (st : List Entry) : List C → Option (List C × List Entry × List Nat)
 | [] => some ([], st, [])
 | c :: cs => (Hr st c).bind fun x => (QI x.2.1 cs).map fun y => (x.1 :: y.1, y.2.1, x.2.2 ++ y.2.2)
def plain : C → Bool
 | .int .. | .bool _ | .str _ | .nils | .seq _ | .raw _ | .opq => true
 | _ => false
def qw (nid : Nat) : List C → List C × List Entry
 | [] => ([], [])
 | .own sz l :: cs => let r := qw (nid + 1) cs; (.ref nid :: r.1, .obj sz l :: r.2)
 | .box l :: cs => let r := qw (nid + 1) cs; (.ptr nid 0 :: r.1, .var l :: r.2)
 | c :: cs => let r := qw nid cs; (c :: r.1, r.2)
def Z5 (nid : Nat) : List (Bool × List C) → List (Bool × List C) × List Entry
 | [] => ([], [])
 | (g, cs) :: vs => let r := qw nid cs; let q := Z5 (nid + r.2.length) vs; ((g, r.1) :: q.1, r.2 ++ q.2)
def Ka (nid : Nat) : V → V × List Entry
 | .val g cs => let r := qw nid cs; (.val g r.1, r.2)
 | .tup vs => let r := Z5 nid vs; (.tup r.1, r.2)
 | .dead => (.dead, [])
def zhn (st : List Entry) (nid : Nat) : List Entry → List Entry
 | [] => st
 | e :: es => zhn (put st nid e) (nid + 1) es
/-! #### what an operation answers: the value for its slot, the store, the numbers of the entries that it has turned -/
abbrev R := Option (V × List Entry × List Nat)
def ret (s : S) (v : V) : R := some (v, s.st, [])
def U8 (k : IntKind) (op : BinOp) (a b : Int) : Option C :=
 match op with
 | .add => some (.int k (m.add k a b))
 | .sub => some (.int k (m.sub k a b))
 | .mul => some (.int k (m.mul k a b))
 | .quo => bif m.nz b then some (.int k (m.quo k a b)) else none
 | .rem => bif m.nz b then some (.int k (m.rem a b)) else none
 | .shl => bif m.leI 0 b then some (.int k (m.bit .shl k a b)) else none
 | .shr => bif m.leI 0 b then some (.int k (m.bit .shr k a b)) else none
 | .and => some (.int k (m.bit .and k a b))
 | .or => some (.int k (m.bit .or k a b))
 | .xor => some (.int k (m.bit .xor k a b))
 | .eql => some (.bool (m.eqI a b))
 | .neq => some (.bool (m.notB (m.eqI a b)))
 | .lss => some (.bool (m.ltI a b))
 | .leq => some (.bool (m.leI a b))
 | .gtr => some (.bool (m.ltI b a))
 | .geq => some (.bool (m.leI b a))
 | _ => none
def QJ : C → Bool
 | .ptr .. | .eptr .. | .rptr _ => true
 | _ => false
def Xo : C → Option Bool
 | .ptr _ _ | .eptr _ _ _ _ | .rptr _ => some false
 | .raw (.pointer none) => some true
 | _ => none
def Qm (op : BinOp) (td : TD) (x : Option Bool) : Option C :=
 match op, td with
 | .eql, .ptr => x.map .bool
 | .neq, .ptr => x.map fun b => .bool (!b)
 | _, _ => none
def Vz : C → Option Bool
 | .opq => some false
 | .raw .nilIface => some true
 | _ => none
def Mv (op : BinOp) (y : Operand) (a : C) : Option C :=
 match op, y with
 | .eql, .const .nilIface => (Vz a).map .bool
 | .neq, .const .nilIface => (Vz a).map fun b => .bool (!b)
 | _, _ => none
def Qf : TD → Bool
 | .iface => true
 | _ => false
def bin (op : BinOp) (td : TD) : C → C → Option C
 | .int k a, .int k' b => if k = k' then U8 m k op a b else none
 | .bool a, .bool b => match op, td with
  | .eql, .bool => some (.bool (m.eqB a b))
  | .neq, .bool => some (.bool (m.notB (m.eqB a b)))
  | _, _ => none
 | .str a, .str b => match op with
  | .eql => some (.bool (m.eqS a b))
  | .neq => some (.bool (m.notB (m.eqS a b)))
  | .add => bif m.fits a b then some (.str (m.catS a b)) else none
  | .lss => some (.bool (m.ltS a b))
  | .gtr => some (.bool (m.ltS b a))
  | .leq => some (.bool (m.notB (m.ltS b a)))
  | .geq => some (.bool (m.notB (m.ltS a b)))
  | _ => none
 | c, .raw (.pointer none) => Qm op td (Xo c)
 | _, _ => none
def un (op : UnOp) : C → Option C
 | .int k n => match op with | .neg => some (.int k (m.neg k n)) | _ => none
 | .bool b => match op with | .not => some (.bool (m.notB b)) | _ => none
 | _ => none
def bytesOf : List (List C) → Option (List UInt8)
 | [] => some []
 | [.int .u8 n] :: r => if 0 <= n ∧ n < 256 then (bytesOf r).map fun x => UInt8.ofNat n.toNat :: x else none
 | _ => none
def fill : List (Nat × Nat) → List C → List (Nat × List C) → Option (List C)
 | _, cs, [] => some cs
 | ps, cs, (i, v) :: r => match ps[i]? with
  | some (off, size) => if v.length = size ∧ off + size <= cs.length then fill ps (cs.take off ++ v ++ cs.drop (off + size)) r else none
  | none => none
def XF : Nat := 140737488355328
variable (cfg : Cfg)
def sizeOf? (t : TypeId) : Nat := ((cfg.T t).map (·.size)).getD 0
def zy (t : TypeId) : TD := ((cfg.T t).map (·.d)).getD .other
def Z6 : List (Nat × TypeId) → List (Nat × Nat)
 | [] => []
 | (o, t) :: r => (o, sizeOf? cfg t) :: Z6 r
def jP (s : S) : List (Nat × Operand) → Option (List (Nat × List C))
 | [] => some []
 | (i, x) :: r => ((s.ev x).cells).bind fun cs => (jP s r).map fun q => (i, cs) :: q
def YA (n sz : Nat) (lo : Nat) (st : List Entry) (ws : List Nat) (l : List (List C)) : List (Nat × List C) → Option (List (List C) × List Entry × List Nat)
 | [] => some (l, st, ws)
 | (i, cs) :: r => if cs.length = sz ∧ i < n ∧ lo <= i then (QI st cs).bind fun x => YA n sz (i + 1) x.2.1 (ws ++ x.2.2) (l.set i x.1) r else none
def YP : List C → List Nat → List C
 | [], _ => []
 | c :: cs, szs => match c, szs with
  | .nils, (sz + 1) :: r => .own (sz + 1) [] :: YP cs r
  | _, _ => ZL c :: YP cs szs.tail
def ZM : C → Option Nat
 | .int _ n => m.nat n
 | _ => none
def zq (s : S) (x : Operand) : Option C := (s.ev x).one
def Z7 (fl : Bool) (st : List Entry) : C → Option (List (List C) × List Entry × List Nat)
 | .nils => some ([], st, [])
 | .seq l => some (l, st, [])
 | .ref id => match get st id with
  | .obj _ l => bif fl then some (l, put st id .dead, [id]) else bif m.pl l then some (l, st, []) else some (l, put st id .dead, [id])
  | _ => none
 | .str s => some (m.ofStr s, st, [])
 | _ => none
def j6 (s : S) : Option Operand → Option (Option Nat)
 | none => some none
 | some x => (zq s x).bind fun c => (ZM m c).map some
/-! #### calls -/
def xC : List Nat → Nat → Nat → Option Nat
 | [], _, _ => none
 | i :: r, n, id => bif Nat.beq i id then some n else xC r (n + 1) id
def trC (ks : List Nat) : C → Option C
 | .ref id => (xC ks 0 id).map .ref
 | .ptr id off => (xC ks 0 id).map fun k => .ptr k off
 | .eptr id i sz off => (xC ks 0 id).map fun k => .eptr k i sz off
 | .fn _ _ => none
 | .own _ _ => none
 | .box _ => none
 | c => some c
def trS (ks : List Nat) : List C → Option (List C)
 | [] => some []
 | c :: cs => (trC ks c).bind fun x => (trS ks cs).map fun y => x :: y
def trE (ks : List Nat) : List C → Option (List C)
 | [] => some []
 | .fn f caps :: cs => (trS ks caps).bind fun x => (trE ks cs).map fun y => .fn f x :: y
 | c :: cs => (trC ks c).bind fun x => (trE ks cs).map fun y => x :: y
def y5 : List C → List Nat
 | [] => []
 | .ref id :: cs => id :: y5 cs
 | .ptr id _ :: cs => id :: y5 cs
 | .eptr id _ _ _ :: cs => id :: y5 cs
 | _ :: cs => y5 cs
def zu : List C → List Nat
 | [] => []
 | .ref id :: cs => id :: zu cs
 | .ptr id _ :: cs => id :: zu cs
 | .eptr id _ _ _ :: cs => id :: zu cs
 | .fn _ caps :: cs => y5 caps ++ zu cs
 | _ :: cs => zu cs
def zv : Entry → List Nat
 | .var cs => zu cs
 | .hole _ _ _ hs => hs.map (·.2)
 | _ => []
def Zn : List Nat → List Nat → List Nat
 | acc, [] => acc
 | acc, k :: r => if acc.contains k then Zn acc r else Zn (acc ++ [k]) r
def QK (st : List Entry) (ks : List Nat) : List Nat → Option (List Entry)
 | [] => some []
 | k :: r => match get st k with
  | .var cs => (trE ks cs).bind fun x => (QK st ks r).map fun es => .var x :: es
  | .obj sz l => (QK st ks r).map fun es => .obj sz l :: es
  | _ => none
def vn (st : List Entry) (lend : List Nat) : Nat → List V → Option (List V)
 | _, [] => some []
 | k, v :: vs => match v with
  | .val g cs => (if lend.contains k then some cs else vws m st cs).bind fun x => (vn st lend (k + 1) vs).map fun y => .val g x :: y
  | _ => none
def zZ : V → List Nat
 | .val _ cs => zu cs
 | .tup vs => vs.flatMap fun x => zu x.2
 | .dead => []
def yX : List V → List Nat
 | [] => []
 | v :: vs => zZ v ++ yX vs
def Qn (ks : List Nat) : List V → Option (List V)
 | [] => some []
 | .val g cs :: vs => (trE ks cs).bind fun x => (Qn ks vs).map fun y => .val g x :: y
 | _ => none
def Hs (ks : List Nat) : C → Option C
 | .ref k => (ks[k]?).map .ref
 | .ptr k off => (ks[k]?).map fun id => .ptr id off
 | .eptr k i sz off => (ks[k]?).map fun id => .eptr id i sz off
 | .fn _ _ => none
 | .own _ _ => none
 | .box _ => none
 | c => some c
def Kb (ks : List Nat) : List C → Option (List C)
 | [] => some []
 | c :: cs => (Hs ks c).bind fun x => (Kb ks cs).map fun y => x :: y
def U9 (ks : List Nat) : List (Bool × List C) → Option (List (Bool × List C))
 | [] => some []
 | (g, cs) :: vs => (Kb ks cs).bind fun x => (U9 ks vs).map fun y => (g, x) :: y
def QL (ks : List Nat) : V → Option V
 | .val g cs => (Kb ks cs).map (.val g)
 | .tup vs => (U9 ks vs).map .tup
 | .dead => some .dead
def clC : C → Bool
 | .seq _ | .rptr _ | .fn _ _ | .box _ => false
 | .own _ l => m.cln l
 | _ => true
def clV : V → Bool
 | .val _ cs => cs.all (clC m)
 | .tup vs => vs.all fun x => x.2.all (clC m)
 | .dead => true
def kI : Entry → Bool
 | .var cs => cs.all (clC m)
 | .obj _ l => m.cln l
 | .hole .. => false
 | .mp _ => false
 | .dead => true
def Kc : List C → List Nat
 | [] => []
 | .ref id :: cs => id :: Kc cs
 | _ :: cs => Kc cs
def ZN (lend : List Nat) : Nat → List V → List Nat
 | _, [] => []
 | k, v :: vs => (match v with | .val _ cs => bif lend.contains k then [] else Kc cs | _ => []) ++ ZN lend (k + 1) vs
def jK : Nat → List Entry → List Entry × List Entry
 | _, [] => ([], [])
 | nid, .var cs :: r => let q := qw nid cs; let z := jK (nid + q.2.length) r; (.var q.1 :: z.1, q.2 ++ z.2)
 | nid, e :: r => let z := jK nid r; (e :: z.1, z.2)
def yx (r : V × List Entry) : V × List Entry :=
 let q := Ka r.2.length r.1
 let z := jK (r.2.length + q.2.length) r.2
 (q.1, z.1 ++ (q.2 ++ z.2))
def Z8 (ks : List Nat) : List Nat → List Entry → List Entry → Option (List Entry)
 | id :: r, e :: es, st => match e with
  | .var cs => (Kb ks cs).bind fun x => Z8 ks r es (put st id (.var x))
  | .hole .. => none
  | e => Z8 ks r es (put st id e)
 | _, _, st => some st
variable (μ : M)
def callF (nid : Nat) (s : S) (f : FuncId) (args : List V) : R :=
 (vn μ.p s.st (cfg.lend f) 0 args).bind fun as =>
 let ks0 := Zn [] (yX as)
 let ks := Zn ks0 (ks0.flatMap fun k => zv (get s.st k))
 let vs := ZN (cfg.lend f) 0 args
 bif vs.any fun i => ks.contains i then none else
 (QK s.st ks ks).bind fun st0 => (Qn ks as).bind fun as' => (μ.call f st0 as').bind fun r =>
  bif Nat.beq r.2.length ks.length && (vs.isEmpty || (clV μ.p r.1 && r.2.all (kI μ.p))) then
   let q := yx r
   let ks' := ks ++ (List.range (q.2.length - ks.length)).map (nid + ·)
   (QL ks' q.1).bind fun v => (Z8 ks' ks' q.2 s.st).map fun st' => (v, st', ks')
  else none
def W3 : Nat → List V → List (Nat × V)
 | _, [] => []
 | i, v :: vs => (i, v) :: W3 (i + 1) vs
/-! #### what a call brings is read alone, but where it is wanted whole -/
def fzC (nid : Nat) (st : List Entry) : C → Option (C × List Entry × List Nat)
 | .ref id => bif Nat.blt id nid then some (.ref id, st, []) else match get st id with
  | .obj _ l => some (.seq (m.view l), put st id .dead, [id])
  | _ => none
 | .nils => some (.seq [], st, [])
 | .own _ _ => none
 | .fn _ _ => none
 | .box _ => none
 | c => some (c, st, [])
def fzE (nid : Nat) (st : List Entry) : List C → Option (List C × List Entry × List Nat)
 | [] => some ([], st, [])
 | c :: cs => (fzC m nid st c).bind fun x => (fzE nid x.2.1 cs).map fun y => (x.1 :: y.1, y.2.1, x.2.2 ++ y.2.2)
def fzT (nid : Nat) (st : List Entry) : List (Bool × List C) → Option (List (Bool × List C) × List Entry × List Nat)
 | [] => some ([], st, [])
 | (g, cs) :: vs => (fzE m nid st cs).bind fun x => (fzT nid x.2.1 vs).map fun y => ((g, x.1) :: y.1, y.2.1, x.2.2 ++ y.2.2)
def fzV (nid : Nat) (st : List Entry) : V → Option (V × List Entry × List Nat)
 | .val g cs => (fzE m nid st cs).map fun x => (.val g x.1, x.2)
 | .tup vs => (fzT m nid st vs).map fun x => (.tup x.1, x.2)
 | .dead => some (.dead, st, [])
def wanted (own : List Nat) : Option Tmp → Bool
 | some d => own.any (Nat.beq d)
 | none => false
def J6 (nid : Nat) (d : Option Tmp) (r : V × List Entry × List Nat) : R :=
 bif wanted cfg.own d then some r else (fzV m nid r.2.1 r.1).bind fun x =>
  bif x.2.2.all (fun g => r.2.2.any (Nat.beq g)) && r.2.2.all (fun j => (zv (get x.2.1 j)).all fun i => !x.2.2.any (Nat.beq i)) && (zZ x.1).all (fun i => !x.2.2.any (Nat.beq i)) then some (x.1, x.2.1, r.2.2) else none
/-! #### one operation -/
def PL : Nat → TypeId → List Nat
 | 0, _ => []
 | n + 1, t => match cfg.T t with
  | some i => match i.d with
   | .slice e => [sizeOf? cfg e]
   | .struct fs => fs.flatMap fun f => PL n f.2
   | _ => List.replicate i.size 0
  | none => []
def zi8 (s : S) : List Operand → List V := List.map s.ev
def M8 (fz : List Nat) : Operand → Bool
 | .tmp t => fz.any (Nat.beq t)
 | _ => false
def ZO (s : S) (nid : Nat) (b : Builtin) (ts : Array TypeId) (xs : List Operand) : R :=
 match b, xs with
 | .len, [x] => (zq s x).bind fun c => match (ts[0]?).map (zy cfg), c with
  | some (.slice _), .nils => ret s (.val false [.int .i64 0])
  | some (.slice _), .seq l => ret s (.val false [.int .i64 (m.len l)])
  | some .string, .str l => ret s (.val false [.int .i64 (m.lenS l)])
  | some (.slice _), .ref id => (jc s.st id).bind fun q => ret s (.val false [.int .i64 (m.len q.2)])
  | _, _ => none
 | .append, [x, y] => (zq s x).bind fun a => (zq s y).bind fun b =>
  match (ts[0]?).bind cfg.T with
  | some { d := .slice e, .. } => match cfg.T e with
   | some te =>
    (match a with
     | .nils => some ([], s.st, [])
     | .ref id => match get s.st id with
      | .obj sz l => if sz = te.size then some (l, put s.st id .dead, [id]) else none
      | _ => none
     | _ => none).bind fun (p : List (List C) × List Entry × List Nat) => (Z7 m (M8 cfg.fz y) p.2.1 b).bind fun q =>
    bif m.room te.bytes p.1 q.1 && m.uni te.size q.1 && Nat.blt 0 te.size && (match (ts[1]?).map (zy cfg) with | some (.slice _) => true | some .string => true | _ => false) then
     some (.val false [.ref nid], put q.2.1 nid (.obj te.size (m.app p.1 q.1)), p.2.2 ++ q.2.2 ++ [nid])
    else none
   | none => none
  | _ => none
 | .max, [x, y] => (zq s x).bind fun a => (zq s y).bind fun b => match a, b with
  | .int .i64 x, .int .i64 y => ret s (.val false [.int .i64 (m.maxI x y)])
  | _, _ => none
 | .min, [x, y] => (zq s x).bind fun a => (zq s y).bind fun b => match a, b with
  | .int .i64 x, .int .i64 y => ret s (.val false [.int .i64 (m.minI x y)])
  | _, _ => none
 | _, _ => none
def ZP (s : S) (t : TI) : C → Option V
 | .ptr id off => match get s.st id with
  | .var cs => if off + t.size <= cs.length then mk t.agg ((cs.drop off).take t.size) else none
  | _ => none
 | .eptr id i sz off => match get s.st id with
  | .obj s0 l => match m.idx l i with
   | some e => if s0 = sz ∧ e.length = sz ∧ off + t.size <= e.length then let q := (e.drop off).take t.size; bif q.all plain then mk t.agg q else none else none
   | none => none
  | .var cs => (m.subA cs i sz off t.size).bind (mk t.agg)
  | _ => none
 | .rptr cs => if t.size <= cs.length then mk t.agg (cs.take t.size) else none
 | _ => none
def Wm (s : S) (t : TI) (cs : List C) : C → R
 | .ptr id off => match get s.st id with
  | .var old => if cs.length = t.size ∧ off + t.size <= old.length then
    some (.dead, put s.st id (.var (old.take off ++ cs ++ old.drop (off + t.size))), [id]) else none
  | _ => none
 | .eptr id i sz off => match get s.st id with
  | .obj s0 l => match m.idx l i with
   | some e => if s0 = sz ∧ e.length = sz ∧ cs.length = t.size ∧ off + t.size <= e.length then
     (QI s.st cs).bind fun x =>
     if x.2.2.contains id then none
     else some (.dead, put x.2.1 id (.obj s0 (m.setL l i (e.take off ++ x.1 ++ e.drop (off + t.size)))), x.2.2 ++ [id])
    else none
   | none => none
  | .var old => if cs.length = t.size then (m.putA old i sz off cs).map fun x => (.dead, put s.st id (.var x), [id]) else none
  | _ => none
 | _ => none
def Qg (s : S) (t : TI) (nid : Nat) : C → R
 | .eptr id i sz off => match get s.st id with
  | .obj s0 l => (m.idx l i).bind fun e => match e[off]? with
   | some (.own sz' l') => bif Nat.beq s0 sz && Nat.beq e.length sz && Nat.beq t.size 1 && !t.agg then some (.val false [.ref nid], put (put s.st id (.hole s0 l i [(off, nid)])) nid (.obj sz' l'), [id, nid]) else none
   | _ => none
  | _ => none
 | _ => none
def YB (st : List Entry) (id s0 : Nat) (l : List (List C)) (j : Nat) : Nat → Nat → List C → Option (List C × List (Nat × Nat) × List Entry)
 | _, _, [] => some ([], [], put st id (.hole s0 l j []))
 | nid, p, c :: r => match c with
  | .own sz x => (YB st id s0 l j (nid + 1) (p + 1) r).map fun y => (.ref nid :: y.1, (p, nid) :: y.2.1, put (put y.2.2 id (.hole s0 l j ((p, nid) :: y.2.1))) nid (.obj sz x))
  | c => bif plain c then (YB st id s0 l j nid (p + 1) r).map fun y => (c :: y.1, y.2.1, y.2.2) else none
def Rz (s : S) (t : TI) (nid : Nat) : C → R
 | .eptr id i sz off => match get s.st id with
  | .obj s0 l => (m.idx l i).bind fun e => bif Nat.beq s0 sz && Nat.beq e.length sz && Nat.ble (off + t.size) e.length && t.agg then
    (YB s.st id s0 l i nid off ((e.drop off).take t.size)).map fun y => (.val true y.1, y.2.2, id :: y.2.1.map (·.2)) else none
  | _ => none
 | _ => none
def UA (st : List Entry) (id : Nat) : Option (List Entry × List Nat) :=
 match get st id with
 | .hole sz l i hs => match hs with
  | (off, h) :: r => match get st h with
   | .obj sz' l' => bif r.any (fun x => Nat.beq x.1 off) then none else (m.idx l i).map fun e => (put (put st h .dead) id (.hole sz (m.setL l i (e.set off (.own sz' l'))) i r), [id, h])
   | _ => none
  | [] => some (put st id (.obj sz l), [id])
 | _ => some (st, [])
def Kd : List Nat → List Entry → Option (List Entry × List Nat)
 | [], st => some (st, [])
 | id :: r, st => (UA m st id).bind fun x => (Kd r x.1).map fun y => (y.1, x.2 ++ y.2)
def Mw (st : List Entry) : List Nat → List Nat
 | [] => []
 | id :: r => match get st id with
  | .hole _ _ _ hs => id :: (hs.map fun _ => id) ++ Mw st r
  | _ => Mw st r
def foldL (ids : List Nat) (st : List Entry) : Option (List Entry × List Nat) := Kd m (Mw st ids) st
def ze1 : Entry → Bool
 | .hole .. => true
 | _ => false
def PM (s : S) (o : Oper) : List Nat :=
 (o.op.operands.toList.flatMap fun
  | .tmp t => zZ (zB s.sl t) ++ (zZ (zB s.sl t)).flatMap fun id => zv (get s.st id)
  | _ => []).filter fun id => ze1 (get s.st id)
def Mx : C → Bool
 | .fn _ _ => false
 | _ => true
def ZQ : List (List UInt8 × Bool × List C) → List UInt8 → Option (Bool × List C)
 | [], _ => none
 | e :: r, a => bif m.eqS a e.1 then some e.2 else ZQ r a
def Wc : TD → Bool
 | .string => true
 | _ => false
def stepOp (nid : Nat) (s : S) (o : Oper) : R :=
 match o.op with
 | .makeMap _ none => some (.val false [.ref nid], put s.st nid (.mp []), [nid])
 | .insert t q k x => (zq s q).bind fun c => (zq s k).bind fun d => match c, d, s.ev x, zy cfg t with
  | .ref id, .str a, .val g cs, .map kt _ => match get s.st id with
   | .mp es => bif Wc (zy cfg kt) && cs.all plain then match ZQ μ.p es a with
    | none => some (.dead, put s.st id (.mp (es ++ [(a, g, cs)])), [id])
    | some _ => none
    else none
   | _ => none
  | _, _, _, _ => none
 | .lookup t q k ok => (zq s q).bind fun c => (zq s k).bind fun d => match c, d, zy cfg t with
  | .ref id, .str a, .map kt et => match get s.st id with
   | .mp es => bif Wc (zy cfg kt) then match ZQ μ.p es a with
    | some (g, cs) => ret s (bif ok then .tup [(g, cs), (false, [.bool true])] else .val g cs)
    | none => (cfg.T et).bind fun i => ret s (bif ok then .tup [(i.agg, i.zero), (false, [.bool false])] else .val i.agg i.zero)
    else none
   | _ => none
  | _, _, _ => none
 | .move x | .assign x => ret s (s.ev x)
 | .pick c a b => (Xn (s.ev c)).bind fun t => ret s (if t = true then s.ev a else s.ev b)
 | .alloc t => (cfg.T t).bind fun i => some (.val false [.ptr nid 0], put s.st nid (.var i.zero), [nid])
 | .box _ x => ((s.ev x).cells).bind fun cs => some (.val false [.ptr nid 0], put s.st nid (.var cs), [nid])
 | .build t ps => (cfg.T t).bind fun i => (jP s ps.toList).bind fun q => match i.d with
  | .struct fs => (fill (Z6 cfg fs) i.zero q).bind fun cs => bif fs.all fun f => (cfg.T f.2).isSome then ret s (.val true cs) else none
  | .array _ e => match q with
   | [] => bif i.agg && (cfg.T e).isSome then ret s (.val true i.zero) else none
   | _ => none
  | _ => none
 | .buildSlice t n ps => match zy cfg t with
  | .slice e => (cfg.T e).bind fun te => (jP s ps.toList).bind fun q =>
   if n * te.size <= 2 ^ 24 then
    (YA n te.size 0 s.st [] (List.replicate n (y6 te.zero)) q).bind fun x =>
    some (.val false [.ref nid], put x.2.1 nid (.obj te.size x.1), x.2.2 ++ [nid])
   else none
  | _ => none
 | .load t x => (cfg.T t).bind fun i => (zq s x).bind fun a => bif wanted cfg.own o.dst then (bif i.agg then Rz μ.p s i nid a else Qg μ.p s i nid a) else (ZP μ.p s i a).bind fun v => ret s v
 | .store t x y => (cfg.T t).bind fun i => (zq s x).bind fun a => ((s.ev y).cells).bind fun cs => Wm μ.p s i cs a
 | .nilCheck x => (zq s x).bind fun a => if QJ a then ret s (.val false [a]) else none
 | .binOp op t x y _ => (zq s x).bind fun a => (zq s y).bind fun b => (bif Qf (zy cfg t) then Mv op y a else bin μ.p op (zy cfg t) a b).bind fun c => ret s (.val false [c])
 | .unOp op _ x => (zq s x).bind fun a => (un μ.p op a).bind fun c => ret s (.val false [c])
 | .convert a b x => (zq s x).bind fun c => match zy cfg a, zy cfg b, c with
  | .int _, .int k, .int _ n => ret s (.val false [.int k (μ.p.conv k n)])
  | .string, .string, .str l => ret s (.val false [.str l])
  | .slice e, .string, c => match zy cfg e with
   | .int .u8 => match c with
    | .nils => ret s (.val false [.str []])
    | .seq l => (μ.p.bytes l).bind fun q => ret s (.val false [.str q])
    | .ref id => (jc s.st id).bind fun q => (μ.p.bytes q.2).bind fun q => ret s (.val false [.str q])
    | _ => none
   | _ => none
  | .string, .slice e, .str l => match zy cfg e with
   | .int .u8 => some (.val false [.ref nid], put s.st nid (.obj 1 (μ.p.ofStr l)), [nid])
   | _ => none
  | .slice e, .slice _, .ref id => match zy cfg e, get s.st id with
   | .int .u8, .obj 1 l => bif Nat.beq a b && μ.p.ltI 0 (μ.p.len l) then some (.val false [.ref id], s.st, [id]) else none
   | _, _ => none
  | _, _, _ => none
 | .makeFunc (.func f) first caps => ((caps.toList.map s.ev).mapM V.one).bind fun cs => bif first.toList.isEmpty && cs.all Mx then ret s (.val false [.fn f cs]) else none
 | .makeSlice t n n2 => match zy cfg t with
  | .slice e => (cfg.T e).bind fun te => (zq s n).bind fun a => (zq s n2).bind fun b => match a, b with
   | .int .i64 x, .int .i64 y => bif μ.p.eqI x y && Nat.beq te.zero.length te.size then (μ.p.made te.bytes x).bind fun k =>
     some (.val false [.ref nid], put s.st nid (.obj te.size (μ.p.rep k (bif cfg.nl then YP te.zero (PL cfg 8 e) else y6 te.zero))), [nid]) else none
   | _, _ => none
  | _ => none
 | .slice t x lo hi mx => match mx with
  | none => (zq s x).bind fun a => (j6 μ.p s lo).bind fun l => (j6 μ.p s hi).bind fun h => match zy cfg t, a with
   | .string, .str q => (μ.p.cutS q l h).bind fun b => ret s (.val false [.str b])
   | .slice e, .nils => (μ.p.cut [] l h).bind fun _ => bif Nat.blt 0 (sizeOf? cfg e) then ret s (.val false [.nils]) else none
   | .slice e, .seq q => (μ.p.cut q l h).bind fun b => bif μ.p.uni (sizeOf? cfg e) q && Nat.blt 0 (sizeOf? cfg e) then ret s (.val false [.seq b]) else none
   | .slice e, .ref id => match get s.st id with
    | .obj sz q => (μ.p.cut q l h).bind fun b => if sz = sizeOf? cfg e ∧ 0 < sz then
      some (.val false [.ref nid], put (put s.st id .dead) nid (.obj sz b), [id, nid]) else none
    | _ => none
   | _, _ => none
  | some _ => none
 | .fieldAddr t x f => (cfg.T t).bind fun i => (zq s x).bind fun a => match i.d with
  | .struct fs => match fs[f]? with
   | some (o, ft) => if sizeOf? cfg ft = 0 then none else match a with
    | .ptr id off => ret s (.val false [.ptr id (off + o)])
    | .eptr id j sz off => ret s (.val false [.eptr id j sz (off + o)])
    | .rptr cs => if o < cs.length then ret s (.val false [.rptr ((cs.drop o).take (sizeOf? cfg ft))]) else none
    | _ => none
   | none => none
  | _ => none
 | .field t x f => (cfg.T t).bind fun i => ((s.ev x).cells).bind fun cs => match i.d, s.ev x with
  | .struct fs, .val true _ => match fs[f]? with
   | some (o, ft) => (cfg.T ft).bind fun j => if o + j.size <= cs.length then (mk j.agg ((cs.drop o).take j.size)).bind (ret s) else none
   | none => none
  | _, _ => none
 | .indexAddr t x y => (zq s x).bind fun a => (zq s y).bind fun b => (ZM μ.p b).bind fun i => match zy cfg t, a with
  | .slice e, .seq l => match μ.p.idx l i with
   | some q => if q.length = sizeOf? cfg e ∧ 0 < q.length then ret s (.val false [.rptr q]) else none
   | none => none
  | .slice e, .ref id => (jc s.st id).bind fun q => match μ.p.idx q.2 i with
   | some _ => if q.1 = sizeOf? cfg e ∧ 0 < q.1 then ret s (.val false [.eptr id i q.1 0]) else none
   | none => none
  | .array n e, .ptr id off => match get s.st id with
   | .var _ => bif μ.p.ltI i n && Nat.beq off 0 && Nat.blt 0 (sizeOf? cfg e) then ret s (.val false [.eptr id i (sizeOf? cfg e) 0]) else none
   | _ => none
  | _, _ => none
 | .index t x y => (zq s y).bind fun b => (ZM μ.p b).bind fun i => match zy cfg t, s.ev x with
  | .string, .val false [.str l] => match μ.p.idxS l i with
   | some b => ret s (.val false [.int .u8 (μ.p.byteI b)])
   | none => none
  | .array n e, .val true cs => (cfg.T e).bind fun te => bif μ.p.ltI i n then (μ.p.subA cs i te.size 0 te.size).bind fun x => (mk te.agg x).bind (ret s) else none
  | _, _ => none
 | .extract x i => match s.ev x with
  | .tup vs => match vs[i]? with
   | some (g, cs) => ret s (.val g cs)
   | none => none
  | _ => none
 | .call cl => match cl.callee with
  | .builtin b => ZO μ.p cfg s nid b cl.argTypes cl.args.toList
  | .value g => match (s.ev g).one with
   | some (.fn f caps) => (callF cfg μ nid s f (cl.args.toList.map s.ev ++ caps.map fun c => .val false [c])).bind (J6 μ.p cfg nid o.dst)
   | _ => none
  | .invoke .. => none
 | _ => none
def PN (fz : List Nat) (s : S) (o : Oper) : List Tmp := match o.op with
 | .buildSlice _ _ ps => ps.toList.filterMap fun p => match p.2 with
  | .tmp t => bif fz.any (Nat.beq t) then some t else none
  | _ => none
 | .store _ x (.tmp t) => match zq s x with
  | some (.eptr ..) => bif fz.any (Nat.beq t) then [t] else []
  | _ => []
 | .insert _ _ _ (.tmp t) => bif fz.any (Nat.beq t) then [t] else []
 | .call cl => match cl.callee with
  | .value _ => cl.args.toList.filterMap fun x => match x with
   | .tmp t => bif fz.any (Nat.beq t) then some t else none
   | _ => none
  | _ => []
 | _ => []
def QM (m : Prims) : List Tmp → List (Nat × V) → List Entry → Option (List (Nat × V) × List Entry × List Nat)
 | [], sl, st => some (sl, st, [])
 | t :: r, sl, st => (fzV m 0 st (zB sl t)).bind fun x =>
   bif (zZ x.1).all fun i => !x.2.2.any (Nat.beq i) then (QM m r ((t, x.1) :: sl) x.2.1).map fun y => (y.1, y.2.1, x.2.2 ++ y.2.2) else none
/-! #### nil slices as own ones of no elements -/
def My : Nat → List C → List Nat → List (Nat × Nat)
 | _, [], _ => []
 | j, c :: cs, szs => match c, szs with
  | .nils, (sz + 1) :: r => (j, sz + 1) :: My (j + 1) cs r
  | _, _ => My (j + 1) cs szs.tail
def Ev (cs : List C) : Bool := cs.any fun | .nils => true | _ => false
def jd (nid : Nat) (st : List Entry) : Nat := bif Nat.ble nid st.length then st.length else nid
def QN (n : Nat) (r : V × List Entry × List Nat) : Bool := (zZ r.1).all (fun i => Nat.blt i n) && r.2.2.all fun j => (zv (get r.2.1 j)).all fun i => Nat.blt i n
def W4 (nid : Nat) (r : V × List Entry × List Nat) (p : Nat × Nat) : V × List Entry × List Nat :=
 match r.1 with
 | .val g cs => match cs[p.1]? with
  | some .nils => bif QN (jd nid r.2.1) r then (.val g (cs.set p.1 (.ref (jd nid r.2.1))), put r.2.1 (jd nid r.2.1) (.obj p.2 []), r.2.2 ++ [jd nid r.2.1]) else r
  | _ => r
 | _ => r
def XG (nid id : Nat) (r : V × List Entry × List Nat) (p : Nat × Nat) : V × List Entry × List Nat :=
 match get r.2.1 id with
 | .var cs => match cs[p.1]? with
  | some .nils => bif QN (jd nid r.2.1) r && r.2.2.any (Nat.beq id) && Nat.blt id (jd nid r.2.1) then
    (r.1, put (put r.2.1 (jd nid r.2.1) (.obj p.2 [])) id (.var (cs.set p.1 (.ref (jd nid r.2.1)))), r.2.2 ++ [jd nid r.2.1]) else r
  | _ => r
 | _ => r
def za4 (t : TypeId) : V → List (Nat × Nat)
 | .val _ cs => bif Ev cs then My 0 cs (PL cfg 8 t) else []
 | _ => []
def Ht (t : TypeId) (off : Nat) : Entry → List (Nat × Nat)
 | .var cs => bif Ev cs then My 0 cs (List.replicate off 0 ++ PL cfg 8 t) else []
 | _ => []
def Wn (nid : Nat) (s : S) (o : Oper) (r : V × List Entry × List Nat) : V × List Entry × List Nat :=
 match o.op with
 | .move _ | .assign _ => (za4 cfg o.type r.1).foldl (W4 nid) r
 | .build t _ => (za4 cfg t r.1).foldl (W4 nid) r
 | .alloc t => (Ht cfg t 0 (get r.2.1 nid)).foldl (XG nid nid) r
 | .box t _ => (Ht cfg t 0 (get r.2.1 nid)).foldl (XG nid nid) r
 | .store t x _ => match zq s x with
  | some (.ptr id off) => (Ht cfg t off (get r.2.1 id)).foldl (XG nid id) r
  | _ => r
 | _ => r
def stepN (nid : Nat) (s : S) (o : Oper) : R :=
 bif cfg.nl then (stepOp cfg μ nid s o).map (Wn cfg nid s o) else stepOp cfg μ nid s o
def stepW (nid : Nat) (s : S) (o : Oper) : R :=
 match PN cfg.fz s o with
 | [] => stepN cfg μ nid s o
 | t :: r => (QM μ.p (t :: r) s.sl s.st).bind fun x => (stepN cfg μ nid ⟨x.1, x.2.1, s.k⟩ o).map fun y => (y.1, y.2.1, y.2.2 ++ x.2.2)
def PO (th : List Nat) (s : S) (o : Oper) : List Nat :=
 bif th.isEmpty then [] else o.op.operands.toList.flatMap fun
  | .tmp t => bif th.any (Nat.beq t) then match zB s.sl t with
   | .val false [.ref id] => [id]
   | _ => []
   else []
  | _ => []
def R1 (m : Prims) (st : List Entry) (id : Nat) : List Entry × List Nat :=
 match get st id with
 | .obj sz l => (put st id (.obj sz (m.view l)), [id])
 | _ => (st, [])
def WX (m : Prims) : List Nat → List Entry → List Entry × List Nat
 | [], st => (st, [])
 | id :: r, st => let x := R1 m st id; let y := WX m r x.1; (y.1, x.2 ++ y.2)
def stepT (nid : Nat) (s : S) (o : Oper) : R :=
 match PO cfg.th s o with
 | [] => stepW cfg μ nid s o
 | id :: r => let x := WX μ.p (id :: r) s.st; (stepW cfg μ nid ⟨s.sl, x.1, s.k⟩ o).map fun y => (y.1, y.2.1, y.2.2 ++ x.2)
def stepH (nid : Nat) (s : S) (o : Oper) : R :=
 match PM s o with
 | [] => stepT cfg μ nid s o
 | id :: r => (foldL μ.p (id :: r) s.st).bind fun x => (stepT cfg μ nid ⟨s.sl, x.1, s.k⟩ o).map fun y => (y.1, y.2.1, y.2.2 ++ x.2)
def step1 (ops : List Oper) (nid : Nat) (s : S) (o : Oper) : R :=
 match o.guard with
 | none => stepH cfg μ nid s o
 | some (j, want) => match (ops[j]?).bind (·.dst) with
  | some d => match zB s.sl d with
   | .val false [.bool b] => if b = want then stepH cfg μ nid s o else ret s (.tup [])
   | .tup [] => ret s (.tup [])
   | _ => none
  | none => none
def QO (sl : List (Nat × V)) : Option Tmp → V → List (Nat × V)
 | some d, v => (d, v) :: sl
 | none, _ => sl
def region (all : List Oper) : List Oper → S → Option S
 | [], s => some s
 | o :: r, s => (step1 cfg μ all s.st.length s o).bind fun x =>
   bif Nat.ble s.st.length x.2.1.length && (zZ x.1).all (fun i => Nat.blt i x.2.1.length) && x.2.2.all (fun j => (zv (get x.2.1 j)).all fun i => Nat.blt i x.2.1.length) then
    region all r ⟨QO s.sl o.dst x.1, x.2.1, s.k⟩ else none
/-! #### regions that draw their order: what each operation reads and writes -/
def WY (all : List Oper) (o : Oper) : List Nat :=
  (o.op.operands.toList.filterMap fun | .tmp t => some t | _ => none) ++
  (match o.guard with
   | some (g, _) => ((all[g]?).bind (·.dst)).toList
   | none => [])
def reads (all : List Oper) (s : S) (o : Oper) : List Nat :=
 let a := (WY all o).flatMap fun t => zZ (zB s.sl t)
 match o.op with
 | .move _ | .assign _ | .nilCheck .. | .fieldAddr .. => a
 | _ => a ++ a.flatMap fun id => zv (get s.st id)
structure Foot where
 rs : List Nat
 ws : List Nat
 ri : List Nat
 wi : List Nat
def apart (x y : Foot) : Bool :=
 x.ws.all (fun d => !y.rs.contains d && !y.ws.contains d) && y.ws.all (fun d => !x.rs.contains d) &&
 x.wi.all (fun d => !y.ri.contains d && !y.wi.contains d) && y.wi.all (fun d => !x.ri.contains d)
def trim (sl : List (Nat × V)) : List Nat → List (Nat × V)
 | [] => []
 | i :: r => (i, zB sl i) :: trim sl r
def ZR (st : List Entry) : List Nat → List Entry
 | [] => []
 | id :: r => put (ZR st r) id (get st id)
def ZS (st st' : List Entry) : List Nat → List Entry
 | [] => st
 | id :: r => put (ZS st st' r) id (get st' id)
def QP (nid : Nat) (rd : List Nat) (x : V × List Entry × List Nat) : Bool :=
 x.2.2.all (fun j => Nat.ble nid j || rd.contains j) &&
 (zZ x.1 ++ x.2.2.flatMap fun j => zv (get x.2.1 j)).all fun i => rd.contains i || (x.2.2.contains i && Nat.ble nid i)
def za5 (all : List Oper) (s : S) (o : Oper) : R :=
 step1 cfg μ all s.st.length ⟨trim s.sl (WY all o), ZR s.st (reads all s o), s.k⟩ o
def regionD (all : List Oper) : List Oper → S → List Foot → Option (S × List Foot)
 | [], s, fs => some (s, fs)
 | o :: r, s, fs => (za5 cfg μ all s o).bind fun x =>
   bif QP s.st.length (reads all s o) x then
    regionD all r ⟨QO s.sl o.dst x.1, ZS s.st x.2.1 x.2.2, s.k⟩ (fs ++ [⟨WY all o, o.dst.toList, reads all s o, x.2.2⟩]) else none
def qR : List Nat → List Nat → List Nat
 | acc, [] => acc
 | acc, k :: r => bif acc.any (Nat.beq k) then qR acc r else qR (acc ++ [k]) r
def Xp : List Oper → List (List Nat) → List (List Nat)
 | [], acc => acc
 | o :: r, acc => Xp r (acc ++ [qR [] (o.after.toList.flatMap fun e => if Region.binds .any e then e.on :: acc.getD e.on [] else [])])
def M9 (prs : List (Nat × Nat)) (fs : List Foot) : Bool :=
 prs.all fun p => apart (fs.getD p.1 ⟨[], [], [], []⟩) (fs.getD p.2 ⟨[], [], [], []⟩)
def PP (all : List Oper) (prs : List (Nat × Nat)) : Bool :=
 let b := Xp all []
 (List.range all.length).all fun j => (List.range j).all fun i => (b.getD j []).contains i || prs.contains (i, j)
def fwd (all : List Oper) : Bool := (List.range all.length).all fun j => match all[j]? with
 | some o => o.after.toList.all fun e => !Region.binds .any e || e.on < j
 | none => true
def runRegion (prs : List (Nat × Nat)) (ops : List Oper) (draw : Bool) (s : S) : Option S :=
 if draw then (regionD cfg μ ops ops s []).bind fun x => if M9 prs x.2 then some x.1 else none
 else region cfg μ ops ops s
/-! #### control -/
def andThen (r : Option (Ex × S)) (k : S → Option (Ex × S)) : Option (Ex × S) :=
 match r with
 | some (.normal, s) => k s
 | r => r
def Ke (id : Nat) (r : Option (Ex × S)) : Option (Ex × S) :=
 match r with
 | some (.exit i, s) => if i = id then some (.normal, s) else some (.exit i, s)
 | r => r
def MA (t : Option Bool) (x y : Option (Ex × S)) : Option (Ex × S) :=
 match t with
 | some t => if t = true then x else y
 | none => none
/-! #### entries under new numbers, those alone that something names -/
def ZT : List (Nat × V) → List Nat
 | [] => []
 | (_, v) :: r => zZ v ++ ZT r
def Js (st : List Entry) (ks : List Nat) : List Nat := qR ks (ks.flatMap fun k => zv (get st k))
def qS : Nat → List Nat
 | 0 => []
 | n + 1 => qS n ++ [n]
def nrC (ks : List Nat) : C → Option C
 | .ref id => (xC ks 0 id).map .ref
 | .ptr id off => (xC ks 0 id).map fun k => .ptr k off
 | .eptr id i sz off => (xC ks 0 id).map fun k => .eptr k i sz off
 | .fn _ _ => none
 | .own _ _ => none
 | .box _ => none
 | c => some c
def nrS (ks : List Nat) : List C → Option (List C)
 | [] => some []
 | c :: cs => (nrC ks c).bind fun x => (nrS ks cs).map fun y => x :: y
def nrE (ks : List Nat) : List C → Option (List C)
 | [] => some []
 | .fn f caps :: cs => (nrS ks caps).bind fun x => (nrE ks cs).map fun y => .fn f x :: y
 | c :: cs => (nrC ks c).bind fun x => (nrE ks cs).map fun y => x :: y
def nrT (ks : List Nat) : List (Bool × List C) → Option (List (Bool × List C))
 | [] => some []
 | (g, cs) :: vs => (nrE ks cs).bind fun x => (nrT ks vs).map fun y => (g, x) :: y
def nrV (ks : List Nat) : V → Option V
 | .val g cs => (nrE ks cs).map (.val g)
 | .tup vs => (nrT ks vs).map .tup
 | .dead => some .dead
def PQ (ks : List Nat) : List (Nat × V) → Option (List (Nat × V))
 | [] => some []
 | (i, v) :: r => (nrV ks v).bind fun x => (PQ ks r).map fun y => (i, x) :: y
def za6 (ks : List Nat) : Entry → Option Entry
 | .var cs => (nrE ks cs).map .var
 | .hole .. => none
 | e => some e
def PR (ks : List Nat) (st : List Entry) : List Nat → Option (List Entry)
 | [] => some []
 | k :: r => (za6 ks (get st k)).bind fun x => (PR ks st r).map fun y => x :: y
def norm (s : S) : S :=
 let ks := Js s.st (Js s.st (Js s.st (qR (qS s.k) (ZT s.sl))))
 match PQ ks s.sl, PR ks s.st ks with
 | some sl, some st => bif Nat.ble s.k ks.length then ⟨sl, st, s.k⟩ else s
 | _, _ => s
def nilOwn : List (Nat × Nat) → S → S
 | [], s => s
 | (j, sz) :: r, s => nilOwn r (match zB s.sl j with
  | .val false [.nils] => ⟨(j, .val false [.ref s.st.length]) :: s.sl, s.st ++ [.obj sz []], s.k⟩
  | _ => s)
def PS (st : List Entry) : List (Nat × Nat) → List (Nat × V) → List Nat
 | [], _ => []
 | (j, _) :: r, sl => (match zB sl j with
  | .val false [.ref id] => [id]
  | .val false [.ptr id _] => match get st id with
   | .var cs => Kc cs
   | _ => []
  | _ => []) ++ PS st r sl
def Xq (n : Nat) (ms : List Nat) : List Nat := (qS n).map (fun i => bif ms.any (Nat.beq i) then n + i else i) ++ ms
def V0 : List Nat → Bool
 | [] => true
 | x :: r => !r.any (Nat.beq x) && V0 r
def normK (ks : List Nat) (s : S) : S :=
 match PQ ks s.sl, PR ks s.st ks with
 | some sl, some st => ⟨sl, st, s.k⟩
 | _, _ => s
def takeOver (mv : List (Nat × Nat)) (s : S) : S :=
 match mv with
 | [] => s
 | _ =>
  let s1 := nilOwn mv s
  let ms := (PS s1.st mv s1.sl).filter fun i => Nat.blt i s1.k
  bif V0 (Xq s1.st.length ms) then normK (Xq s1.st.length ms) s1 else s1
def DU (l : Option (List Nat)) (s : S) : S := match l with
 | none => s
 | some l => norm ⟨trim s.sl l, s.st, s.k⟩
def frzVar (m : Prims) (st : List Entry) (id : Nat) : Option (List Entry) :=
 match get st id with
 | .var cs => (fzE m 0 st cs).bind fun x => bif (zu x.1).all fun i => !x.2.2.any (Nat.beq i) then some (put x.2.1 id (.var x.1)) else none
 | _ => some st
def frzVars (m : Prims) : List Nat → List Entry → Option (List Entry)
 | [], st => some st
 | id :: r, st => (frzVar m st id).bind fun x => frzVars m r x
def T1 (k : Nat) (sl : List (Nat × V)) (st : List Entry) : List Nat := Js st (Js st (Js st (qR (qS k) (ZT sl))))
def exec (f : FuncId) : Code → S → Option (Ex × S)
 | .skip, s => some (.normal, s)
 | .region id ops draw, s => match runRegion { cfg with own := cfg.ownT f id, fz := cfg.fzT f id, nl := cfg.nlT f, th := cfg.thT f id } μ (cfg.free f id) ops.toList draw s with
  | some s' => (foldL μ.p (T1 s'.k (trim s'.sl (cfg.keep f id)) s'.st) s'.st).bind fun x => (frzVars μ.p (cfg.vz f id) x.1).map fun y => (.normal, norm ⟨trim s'.sl (cfg.keep f id), y, s'.k⟩)
  | none => none
 | .seq a b, s => andThen (exec f a s) (exec f b)
 | .cond x a b, s => MA (Xn (s.ev x)) (exec f a s) (exec f b s)
 | .block id b, s => Ke id (exec f b s)
 | .loop b, s => μ.loop f b s
 | .exit id, s => some (.exit id, DU (cfg.xk f id) s)
 | .ret, s => some (.ret, s)
 | _, _ => none
/-! #### the end of a call -/
def W5 (fl : Bool) (k : Nat) (st : List Entry) : C → Option (C × List Entry)
 | .ref id => if id < k then some (.ref id, st) else match get st id with
  | .obj sz l => some (.own sz l, put st id .dead)
  | _ => none
 | .ptr id off => if id < k then some (.ptr id off, st) else bif fl && Nat.beq off 0 then match get st id with
  | .var cs => bif cs.all plain then some (.box cs, put st id .dead) else none
  | _ => none
  else none
 | .eptr id i sz off => if id < k then some (.eptr id i sz off, st) else none
 | .own _ _ => none
 | .fn _ _ => none
 | .box _ => none
 | c => some (c, st)
def Kf (fl : Bool) (k : Nat) (st : List Entry) : List C → Option (List C × List Entry)
 | [] => some ([], st)
 | c :: cs => (W5 fl k st c).bind fun x => (Kf fl k x.2 cs).map fun y => (x.1 :: y.1, y.2)
def W6 (k : Nat) (st : List Entry) : List Entry → Option (List Entry × List Entry)
 | [] => some ([], st)
 | .var cs :: r => (Kf false k st cs).bind fun x => (W6 k x.2 r).map fun y => (.var x.1 :: y.1, y.2)
 | .hole .. :: _ => none
 | e :: r => (W6 k st r).map fun y => (e :: y.1, y.2)
def Qo (s : S) : ResultVar → Option (Bool × List C)
 | .tmp t => match zB s.sl t with
  | .val g cs => some (g, cs)
  | _ => none
 | .cell a t => match (zB s.sl a).one, cfg.T t with
  | some c, some i => match ZP m s i c with
   | some (.val g cs) => some (g, cs)
   | _ => none
  | _, _ => none
def Jt (fl : Bool) (k : Nat) (st : List Entry) : List (Bool × List C) → Option (List (Bool × List C) × List Entry)
 | [] => some ([], st)
 | (g, cs) :: r => (Kf fl k st cs).bind fun x => (Jt fl k x.2 r).map fun y => ((g, x.1) :: y.1, y.2)
def vt : List (Bool × List C) → V
 | [(g, cs)] => .val g cs
 | vs => .tup vs
def PT : V → V
 | .val g cs => .val g (y6 cs)
 | .tup vs => .tup (vs.map fun x => (x.1, y6 x.2))
 | .dead => .dead
def Xr (f : FuncId) (k : Nat) (rs : List ResultVar) (s : S) : Option (V × List Entry) :=
 (rs.mapM (Qo m cfg s)).bind fun vs => (Jt (!cfg.frz f) k s.st vs).bind fun x => (W6 k x.2 (s.st.take k)).map fun y =>
  (if cfg.frz f then PT (vt x.1) else vt x.1, y.1)
def q5 (free : Nat → List (Nat × Nat)) : Code → Bool
 | .region id ops d => !d || (fwd ops.toList && PP ops.toList (free id))
 | .seq a b => q5 free a && q5 free b
 | .cond _ a b => q5 free a && q5 free b
 | .block _ b => q5 free b
 | .loop b => q5 free b
 | _ => true
def j7 (n : Nat) : Code → Bool
 | .region _ ops _ => ops.toList.all fun o => match o.dst with | some d => Nat.blt d n | none => true
 | .seq a b => j7 n a && j7 n b
 | .cond _ a b => j7 n a && j7 n b
 | .block _ b => j7 n b
 | .loop b => j7 n b
 | _ => true
def body (f : FuncId) (st : List Entry) (args : List V) (code : Code) (nt : Nat) (rs : List ResultVar) : Option (V × List Entry) :=
 bif !j7 nt code then none else match exec cfg μ f code (takeOver (cfg.mv f) ⟨W3 0 args, st, st.length⟩) with
 | some (.normal, s) => Xr μ.p cfg f st.length rs s
 | some (.ret, s) => Xr μ.p cfg f st.length rs s
 | _ => none
/-! #### the data's part, as it is -/
def Wd (lo hi : Option Nat) (n : Nat) : Option (Nat × Nat) :=
 if lo.getD 0 <= hi.getD n ∧ hi.getD n <= n then some (lo.getD 0, hi.getD n) else none
def Qp (op : BinOp) (k : IntKind) (a b : Int) : Int :=
 match op with
 | .shl => k.wrap (a * 2 ^ (min b.toNat k.bits))
 | .shr => a.fdiv (2 ^ (min b.toNat k.bits))
 | .and => k.wrap (BitVec.ofInt k.bits a &&& BitVec.ofInt k.bits b).toNat
 | .or => k.wrap (BitVec.ofInt k.bits a ||| BitVec.ofInt k.bits b).toNat
 | _ => k.wrap (BitVec.ofInt k.bits a ^^^ BitVec.ofInt k.bits b).toNat
def prims : Prims where
 add k a b := k.wrap (a + b)
 sub k a b := k.wrap (a - b)
 mul k a b := k.wrap (a * b)
 quo k a b := k.wrap (a.tdiv b)
 rem a b := a.tmod b
 bit := Qp
 neg k a := k.wrap (0 - a)
 conv k a := k.wrap a
 nz a := !(a == 0)
 eqI a b := a == b
 ltI a b := decide (a < b)
 leI a b := decide (a <= b)
 maxI a b := if a < b then b else a
 minI a b := if b < a then b else a
 eqB a b := a == b
 notB a := !a
 eqS a b := a == b
 fits a b := decide (a.length + b.length <= 1000000)
 catS a b := a ++ b
 ltS a b := Op.bytesLess a b
 len l := l.length
 lenS l := l.length
 nat n := if 0 <= n then some n.toNat else none
 idx l i := l[i]?
 idxS l i := l[i]?
 byteI b := b.toNat
 setL l i e := l.set i e
 app a b := a ++ b
 cut l lo hi := (Wd lo hi l.length).map fun b => (l.take b.2).drop b.1
 cutS l lo hi := (Wd lo hi l.length).map fun b => (l.take b.2).drop b.1
 rep n z := List.replicate n z
 view l := xX l
 pl l := l.all (·.all plain)
 uni n l := l.all (·.length == n)
 room n a b := decide ((a.length + b.length) * n <= XF ∧ a.length + b.length <= 2 ^ 62)
 made n x := if 0 <= x ∧ x < 2 ^ 62 ∧ n * x <= 140737488355328 then some x.toNat else none
 bytes l := bytesOf l
 ofStr s := s.map fun b => [C.int .u8 b.toNat]
 cln l := jT l
 subA cs i sz off k := if i * sz + off + k <= cs.length then some ((cs.drop (i * sz + off)).take k) else none
 putA cs i sz off x := if i * sz + off + x.length <= cs.length then some (cs.take (i * sz + off) ++ x ++ cs.drop (i * sz + off + x.length)) else none
def apx : Nat → M
 | 0 => { p := prims, call := fun _ _ _ => none, loop := fun _ _ _ => none }
 | n + 1 => {
   p := prims
   call := fun f st args => match cfg.X f st args with
    | some r => some r
    | none => match cfg.funcs f with
     | some (code, nt, rs) => body cfg (apx n) f st args code nt rs
     | none => none
   loop := fun f b s => andThen (exec cfg (apx n) f b s) fun s' => (apx n).loop f b s' }
open Classical in
noncomputable def zx : M := {
 p := prims
 call := fun f st args => if h : ∃ r n, (apx cfg n).call f st args = some r then some h.choose else none
 loop := fun f b s => if h : ∃ r n, (apx cfg n).loop f b s = some r then some h.choose else none }
def We : Code → List Code
 | .seq a b => We a ++ We b
 | .cond _ a b => We a ++ We b
 | .block _ b => We b
 | .loop b => b :: We b
 | _ => []
end Go.Am
/- What a caller may use of the machine: its data's part as it is, a call's equation, a loop's equation. -/
namespace Go.Am
abbrev Orc := FuncId → List Entry → List V → Option (V × List Entry)
abbrev Lp := FuncId → Code → S → Option (Ex × S)
def wth (c : Orc) (l : Lp) : M := { p := prims, call := c, loop := l }
section
variable (cfg : Cfg)
def cs (n : Nat) : Orc := (apx cfg n).call
def ls (n : Nat) : Lp := (apx cfg n).loop
noncomputable def cz : Orc := (zx cfg).call
noncomputable def lz : Lp := (zx cfg).loop
theorem ZU (n : Nat) : apx cfg n = wth (cs cfg n) (ls cfg n) := by cases n <;> rfl
theorem T2 : zx cfg = wth (cz cfg) (lz cfg) := rfl
structure Le (c c' : Orc) (l l' : Lp) : Prop where
 call : ∀ f st as r, c f st as = some r → c' f st as = some r
 loop : ∀ f b s r, l f b s = some r → l' f b s = some r
theorem Le.trans {c c' c'' : Orc} {l l' l'' : Lp} (h : Le c c' l l') (g : Le c' c'' l' l'') : Le c c'' l l'' :=
 ⟨fun _ _ _ _ x => g.call _ _ _ _ (h.call _ _ _ _ x), fun _ _ _ _ x => g.loop _ _ _ _ (h.loop _ _ _ _ x)⟩
structure Cont {α : Type} (F : M → Option α) : Prop where
 mono : ∀ {c c' : Orc} {l l' : Lp}, Le c c' l l' → ∀ r, F (wth c l) = some r → F (wth c' l') = some r
 lim : (∀ n k, Le (cs cfg n) (cs cfg (n + k)) (ls cfg n) (ls cfg (n + k))) →
  (∀ f st as r, cz cfg f st as = some r → ∃ n, cs cfg n f st as = some r) → (∀ f b s r, lz cfg f b s = some r → ∃ n, ls cfg n f b s = some r) →
  ∀ r, F (zx cfg) = some r → ∃ n, F (apx cfg n) = some r
end
section
variable {cfg : Cfg} {α β : Type}
theorem Cont.const (x : Option α) : Cont cfg (fun _ => x) := ⟨fun _ _ h => h, fun _ _ _ _ h => ⟨0, h⟩⟩
theorem Cont.bind {F : M → Option α} {G : α → M → Option β} (hF : Cont cfg F) (hG : ∀ x, Cont cfg (G x)) : Cont cfg (fun m => (F m).bind fun x => G x m) := by
 refine ⟨fun hl _ h => ?_, fun hm hc hl _ h => ?_⟩
 ·obtain ⟨x, h1, h2⟩ := Option.bind_eq_some_iff.1 h
  exact Option.bind_eq_some_iff.2 ⟨x, hF.mono hl _ h1, (hG x).mono hl _ h2⟩
 ·obtain ⟨x, h1, h2⟩ := Option.bind_eq_some_iff.1 h
  obtain ⟨n1, e1⟩ := hF.lim hm hc hl _ h1
  obtain ⟨n2, e2⟩ := (hG x).lim hm hc hl _ h2
  refine ⟨n1 + n2, Option.bind_eq_some_iff.2 ⟨x, ?_, ?_⟩⟩
  ·rw [ZU] at e1 ⊢; exact hF.mono (hm n1 n2) _ e1
  ·rw [ZU] at e2 ⊢; rw [Nat.add_comm]; exact (hG x).mono (hm n2 n1) _ e2
theorem Cont.congr {F G : M → Option α} (h : ∀ c l, F (wth c l) = G (wth c l)) (hG : Cont cfg G) : Cont cfg F := by
 refine ⟨fun hl r e => ?_, fun hm hc hl r e => ?_⟩
 ·rw [h] at e ⊢; exact hG.mono hl r e
 ·rw [T2, h, <- T2] at e
  obtain ⟨n, e'⟩ := hG.lim hm hc hl r e
  exact ⟨n, by rw [ZU] at e' ⊢; rw [h]; exact e'⟩
def w0 : M := wth (fun _ _ _ => none) (fun _ _ _ => none)
theorem Cont.data {F : M → Option α} (h : ∀ c l, F (wth c l) = F w0) : Cont cfg F := Cont.congr h (Cont.const _)
theorem Cont.call (f : FuncId) (st : List Entry) (as : List V) : Cont cfg (fun m => m.call f st as) :=
 ⟨fun hl _ h => hl.call _ _ _ _ h, fun _ hc _ _ h => hc _ _ _ _ h⟩
theorem Cont.loop (f : FuncId) (b : Code) (s : S) : Cont cfg (fun m => m.loop f b s) :=
 ⟨fun hl _ h => hl.loop _ _ _ _ h, fun _ _ hl _ h => hl _ _ _ _ h⟩
theorem Cont.callF (cf : Cfg) (nid : Nat) (s : S) (f : FuncId) (args : List V) : Cont cfg (fun m => Am.callF cf m nid s f args) := by
 unfold Am.callF
 refine Cont.bind (F := fun m => vn m.p s.st (cf.lend f) 0 args) (Cont.data fun _ _ => rfl) fun as => ?_
 dsimp only
 generalize (ZN (cf.lend f) 0 args).any _ = bad
 cases bad
 case true => exact Cont.const none
 refine Cont.bind (Cont.const _) fun st0 => ?_
 refine Cont.bind (Cont.const _) fun as' => ?_
 refine Cont.bind (Cont.call _ _ _) fun r => ?_
 exact Cont.data fun _ _ => rfl
theorem Cont.stepOp (cf : Cfg) (nid : Nat) (s : S) (o : Oper) : Cont cfg (fun m => Am.stepOp cf m nid s o) := by
 obtain ⟨dst, op, type, pos, after, guard⟩ := o
 cases op with
 | call cl =>
  obtain ⟨callee, args, ts⟩ := cl
  cases callee with
  | value g =>
   show Cont cfg (fun m => match (s.ev g).one with
    | some (.fn f caps) => (Am.callF cf m nid s f (args.toList.map s.ev ++ caps.map fun c => .val false [c])).bind (J6 m.p cf nid dst)
    | _ => none)
   split
   ·exact Cont.bind (Cont.callF _ _ _ _ _) fun x => Cont.data fun _ _ => rfl
   ·exact Cont.const none
  | _ => exact Cont.data fun _ _ => rfl
 | makeFunc fn first captured => cases fn <;> exact Cont.data fun _ _ => rfl
 | makeMap t r => cases r <;> exact Cont.data fun _ _ => rfl
 | _ => exact Cont.data fun _ _ => rfl
theorem Cont.stepN (cf : Cfg) (nid : Nat) (s : S) (o : Oper) : Cont cfg (fun m => Am.stepN cf m nid s o) := by
 unfold Am.stepN
 cases cf.nl
 ·exact Cont.stepOp _ _ _ _
 ·simp only [cond_true, Option.map_eq_bind]
  exact Cont.bind (Cont.stepOp _ _ _ _) fun y => Cont.const _
theorem Cont.stepW (cf : Cfg) (nid : Nat) (s : S) (o : Oper) : Cont cfg (fun m => Am.stepW cf m nid s o) := by
 unfold Am.stepW
 split
 ·exact Cont.stepN _ _ _ _
 ·rename_i t r _
  refine Cont.bind (F := fun m => QM m.p (t :: r) s.sl s.st) (Cont.data fun _ _ => rfl) fun x => ?_
  simp only [Option.map_eq_bind]
  exact Cont.bind (Cont.stepN _ _ _ _) fun y => Cont.const _
theorem Cont.stepT (cf : Cfg) (nid : Nat) (s : S) (o : Oper) : Cont cfg (fun m => Am.stepT cf m nid s o) := by
 unfold Am.stepT
 split
 ·exact Cont.stepW _ _ _ _
 ·rename_i t r _
  simp only [Option.map_eq_bind]
  refine Cont.congr (G := fun m => (some (WX m.p (t :: r) s.st)).bind fun x => (Am.stepW cf m nid ⟨s.sl, x.1, s.k⟩ o).bind (some ∘ fun y => (y.1, y.2.1, y.2.2 ++ x.2))) (fun _ _ => rfl) ?_
  exact Cont.bind (F := fun m => some (WX m.p (t :: r) s.st)) (Cont.data fun _ _ => rfl) fun x => Cont.bind (Cont.stepW _ _ _ _) fun y => Cont.const _
theorem Cont.stepH (cf : Cfg) (nid : Nat) (s : S) (o : Oper) : Cont cfg (fun m => Am.stepH cf m nid s o) := by
 unfold Am.stepH
 split
 ·exact Cont.stepT _ _ _ _
 ·rename_i t r _
  refine Cont.bind (F := fun m => foldL m.p (t :: r) s.st) (Cont.data fun _ _ => rfl) fun x => ?_
  simp only [Option.map_eq_bind]
  exact Cont.bind (Cont.stepT _ _ _ _) fun y => Cont.const _
theorem Cont.step1 (cf : Cfg) (ops : List Oper) (nid : Nat) (s : S) (o : Oper) : Cont cfg (fun m => Am.step1 cf m ops nid s o) := by
 unfold Am.step1
 split
 ·exact Cont.stepH _ _ _ _
 ·split
  ·split
   ·split
    ·exact Cont.stepH _ _ _ _
    ·exact Cont.const _
   ·exact Cont.const _
   ·exact Cont.const _
  ·exact Cont.const _
theorem Cont.region (cf : Cfg) (all : List Oper) (ops : List Oper) : ∀ s : S, Cont cfg (fun m => Am.region cf m all ops s) := by
 induction ops with
 | nil => exact fun s => Cont.const (some s)
 | cons o r ih =>
  refine fun s => Cont.bind (Cont.step1 _ _ _ _ _) fun x => ?_
  generalize (Nat.ble s.st.length x.2.1.length && (zZ x.1).all _ && _) = ok
  cases ok
  ·exact Cont.const none
  ·exact ih _
theorem Cont.regionD (cf : Cfg) (all : List Oper) (ops : List Oper) : ∀ (s : S) (fs : List Foot), Cont cfg (fun m => Am.regionD cf m all ops s fs) := by
 induction ops with
 | nil => exact fun s fs => Cont.const (some (s, fs))
 | cons o r ih =>
  refine fun s fs => Cont.bind (Cont.step1 _ _ _ _ _) fun x => ?_
  generalize QP s.st.length (reads all s o) x = ok
  cases ok
  ·exact Cont.const none
  ·exact ih _ _
theorem Cont.runRegion (cf : Cfg) (prs : List (Nat × Nat)) (ops : List Oper) (d : Bool) (s : S) : Cont cfg (fun m => Am.runRegion cf m prs ops d s) := by
 unfold Am.runRegion
 split
 ·exact Cont.bind (Cont.regionD _ _ _ _ _) fun x => Cont.const _
 ·exact Cont.region _ _ _ _
theorem jU (r : Option (Ex × S)) (k : S → Option (Ex × S)) : andThen r k = r.bind fun x => if x.1 = .normal then k x.2 else some x := by
 cases r with
 | none => rfl
 | some x => obtain ⟨e, s⟩ := x; cases e <;> rfl
theorem Cont.exec (f : FuncId) (code : Code) : ∀ s : S, Cont cfg (fun m => exec cfg m f code s) := by
 induction code with
 | region id ops d =>
  intro s
  refine Cont.congr (G := fun m => (Am.runRegion { cfg with own := cfg.ownT f id, fz := cfg.fzT f id, nl := cfg.nlT f, th := cfg.thT f id } m (cfg.free f id) ops.toList d s).bind fun s' => (foldL m.p (T1 s'.k (trim s'.sl (cfg.keep f id)) s'.st) s'.st).bind fun x => (frzVars m.p (cfg.vz f id) x.1).map fun y => (.normal, norm ⟨trim s'.sl (cfg.keep f id), y, s'.k⟩)) (fun c l => ?_) (Cont.bind (Cont.runRegion _ _ _ _ _) fun x => Cont.data fun _ _ => rfl)
  show (match Am.runRegion { cfg with own := cfg.ownT f id, fz := cfg.fzT f id, nl := cfg.nlT f, th := cfg.thT f id } (wth c l) (cfg.free f id) ops.toList d s with | some s' => _ | none => none) = _
  cases Am.runRegion { cfg with own := cfg.ownT f id, fz := cfg.fzT f id, nl := cfg.nlT f, th := cfg.thT f id } (wth c l) (cfg.free f id) ops.toList d s <;> rfl
 | seq a b iha ihb =>
  intro s
  refine Cont.congr (G := fun m => (Am.exec cfg m f a s).bind fun x => if x.1 = .normal then Am.exec cfg m f b x.2 else some x) (fun c l => jU _ _) (Cont.bind (iha s) fun x => ?_)
  split
  ·exact ihb _
  ·exact Cont.const _
 | cond x a b iha ihb =>
  intro s
  show Cont cfg (fun m => MA (Xn (s.ev x)) (Am.exec cfg m f a s) (Am.exec cfg m f b s))
  cases Xn (s.ev x) with
  | none => exact Cont.const none
  | some t => cases t; exact ihb s; exact iha s
 | block id b ih =>
  intro s
  refine Cont.congr (G := fun m => (Am.exec cfg m f b s).bind fun x => Ke id (some x)) (fun c l => ?_) (Cont.bind (ih s) fun x => Cont.const _)
  show Ke id (Am.exec cfg (wth c l) f b s) = _
  cases Am.exec cfg (wth c l) f b s <;> rfl
 | loop b ih => exact fun s => Cont.loop f b s
 | _ => exact fun s => Cont.data fun _ _ => rfl
theorem Cont.body (f : FuncId) (st : List Entry) (args : List V) (code : Code) (nt : Nat) (rs : List ResultVar) : Cont cfg (fun m => body cfg m f st args code nt rs) := by
 unfold Am.body
 cases j7 nt code
 case false => exact Cont.const none
 refine Cont.congr (G := fun m => (Am.exec cfg m f code (takeOver (cfg.mv f) ⟨W3 0 args, st, st.length⟩)).bind fun x => match x with
  | (.normal, s) => Xr prims cfg f st.length rs s
  | (.ret, s) => Xr prims cfg f st.length rs s
  | _ => none) (fun c l => ?_) (Cont.bind (Cont.exec _ _ _) fun x => Cont.const _)
 show (match Am.exec cfg (wth c l) f code (takeOver (cfg.mv f) ⟨W3 0 args, st, st.length⟩) with
  | some (.normal, s) => Xr prims cfg f st.length rs s
  | some (.ret, s) => Xr prims cfg f st.length rs s
  | _ => none) = _
 cases h : Am.exec cfg (wth c l) f code (takeOver (cfg.mv f) ⟨W3 0 args, st, st.length⟩) with
 | none => rfl
 | some x => obtain ⟨e, s⟩ := x; cases e <;> rfl
theorem zbp : ∀ n, Le (cs cfg n) (cs cfg (n + 1)) (ls cfg n) (ls cfg (n + 1)) := by
 intro n
 induction n with
 | zero => exact ⟨fun _ _ _ _ h => by simp [cs, apx, prims] at h, fun _ _ _ _ h => by simp [ls, apx, prims] at h⟩
 | succ n ih =>
  refine ⟨fun f st as r h => ?_, fun f b s r h => ?_⟩
  ·simp only [cs, apx] at h ⊢
   split at h
   ·exact h
   ·split at h
    ·have := (Cont.body (cfg := cfg) f st as _ _ _).mono ih r (by rw [<- ZU]; exact h)
     rw [<- ZU] at this
     exact this
    ·exact h
  ·simp only [ls, apx] at h ⊢
   rw [jU] at h ⊢
   obtain ⟨x, h1, h2⟩ := Option.bind_eq_some_iff.1 h
   refine Option.bind_eq_some_iff.2 ⟨x, ?_, ?_⟩
   ·have := (Cont.exec (cfg := cfg) f b s).mono ih x (by rw [<- ZU]; exact h1)
    rw [<- ZU] at this
    exact this
   ·split
    ·rename_i hn; rw [if_pos hn] at h2; exact ih.loop _ _ _ _ h2
    ·rename_i hn; rw [if_neg hn] at h2; exact h2
theorem Qq (n k : Nat) : Le (cs cfg n) (cs cfg (n + k)) (ls cfg n) (ls cfg (n + k)) := by
 induction k with
 | zero => exact ⟨fun _ _ _ _ h => h, fun _ _ _ _ h => h⟩
 | succ k ih => exact ih.trans (zbp (n + k))
open Classical in
theorem Xc {f : FuncId} {st : List Entry} {as : List V} {r : V × List Entry} : cz cfg f st as = some r ↔ ∃ n, cs cfg n f st as = some r := by
 show (if h : ∃ r n, (apx cfg n).call f st as = some r then some h.choose else none) = some r ↔ _
 constructor
 ·intro h
  split at h
  ·rename_i hx
   obtain ⟨n, hn⟩ := hx.choose_spec
   exact ⟨n, by injection h with h; rw [<- h]; exact hn⟩
  ·cases h
 ·rintro ⟨n, hn⟩
  have hx : ∃ r n, (apx cfg n).call f st as = some r := ⟨r, n, hn⟩
  rw [dif_pos hx]
  obtain ⟨k, hk⟩ := hx.choose_spec
  have h1 := (Qq n k).call _ _ _ _ hn
  have h2 := (Qq k n).call _ _ _ _ hk
  rw [Nat.add_comm, h1] at h2
  exact h2.symm
open Classical in
theorem Qh {f : FuncId} {b : Code} {s : S} {r : Ex × S} : lz cfg f b s = some r ↔ ∃ n, ls cfg n f b s = some r := by
 show (if h : ∃ r n, (apx cfg n).loop f b s = some r then some h.choose else none) = some r ↔ _
 constructor
 ·intro h
  split at h
  ·rename_i hx
   obtain ⟨n, hn⟩ := hx.choose_spec
   exact ⟨n, by injection h with h; rw [<- h]; exact hn⟩
  ·cases h
 ·rintro ⟨n, hn⟩
  have hx : ∃ r n, (apx cfg n).loop f b s = some r := ⟨r, n, hn⟩
  rw [dif_pos hx]
  obtain ⟨k, hk⟩ := hx.choose_spec
  have h1 := (Qq n k).loop _ _ _ _ hn
  have h2 := (Qq k n).loop _ _ _ _ hk
  rw [Nat.add_comm, h1] at h2
  exact h2.symm
theorem Cont.fin {F : M → Option α} (h : Cont cfg F) {r : α} (e : F (zx cfg) = some r) : ∃ n, F (apx cfg n) = some r :=
 h.lim Qq (fun _ _ _ _ => Xc.1) (fun _ _ _ _ => Qh.1) r e
theorem Cont.up {F : M → Option α} (h : Cont cfg F) {n : Nat} {r : α} (e : F (apx cfg n) = some r) : F (zx cfg) = some r := by
 rw [T2]
 rw [ZU] at e
 exact h.mono ⟨fun _ _ _ _ x => Xc.2 ⟨n, x⟩, fun _ _ _ _ x => Qh.2 ⟨n, x⟩⟩ r e
theorem Li {f : FuncId} {st : List Entry} {as : List V} {code : Code} {nt : Nat} {rs : List ResultVar} {r : V × List Entry}
  (hX : cfg.X f st as = none) (hf : cfg.funcs f = some (code, nt, rs)) (h : body cfg (zx cfg) f st as code nt rs = some r) : (zx cfg).call f st as = some r := by
 obtain ⟨n, hn⟩ := (Cont.body f st as code nt rs).fin h
 refine Xc.2 ⟨n + 1, ?_⟩
 simp only [cs, apx, hX, hf]
 exact hn
theorem ze2 {f : FuncId} {st : List Entry} {as : List V} {r : V × List Entry} (hX : cfg.X f st as = some r) : (zx cfg).call f st as = some r :=
 Xc.2 ⟨1, by simp only [cs, apx, hX]⟩
theorem V1 (f : FuncId) (b : Code) (s : S) : (zx cfg).loop f b s = andThen (exec cfg (zx cfg) f b s) fun s' => (zx cfg).loop f b s' := by
 apply Option.ext
 intro r
 constructor
 ·intro h
  obtain ⟨n, hn⟩ := Qh.1 h
  cases n with
  | zero => simp [ls, apx, prims] at hn
  | succ n =>
   simp only [ls, apx] at hn
   rw [jU] at hn ⊢
   obtain ⟨x, h1, h2⟩ := Option.bind_eq_some_iff.1 hn
   refine Option.bind_eq_some_iff.2 ⟨x, (Cont.exec f b s).up h1, ?_⟩
   split
   ·rename_i hx; rw [if_pos hx] at h2; exact Qh.2 ⟨n, h2⟩
   ·rename_i hx; rw [if_neg hx] at h2; exact h2
 ·intro h
  rw [jU] at h
  obtain ⟨x, h1, h2⟩ := Option.bind_eq_some_iff.1 h
  obtain ⟨n, hn⟩ := (Cont.exec f b s).fin h1
  refine Qh.2 ?_
  by_cases hx : x.1 = .normal
  ·rw [if_pos hx] at h2
   obtain ⟨k, hk⟩ := Qh.1 h2
   refine ⟨n + k + 1, ?_⟩
   simp only [ls, apx]
   rw [jU]
   refine Option.bind_eq_some_iff.2 ⟨x, ?_, ?_⟩
   ·rw [ZU] at hn ⊢; exact (Cont.exec f b s).mono (Qq n k) _ hn
   ·rw [if_pos hx]; have := (Qq k n).loop _ _ _ _ hk; rw [Nat.add_comm] at this; exact this
  ·rw [if_neg hx] at h2
   refine ⟨n + 1, ?_⟩
   simp only [ls, apx]
   rw [jU]
   exact Option.bind_eq_some_iff.2 ⟨x, hn, by rw [if_neg hx]; exact h2⟩
end
end Go.Am
/- How the machine's cells stand for the model's memory: what a value reads as, who owns a block, and what xF when memory is turned elsewhere. -/
namespace Go.Am
abbrev Cls := Nat → Option (List Nat)
abbrev Hdr := List Nat → Value
def Blk (z : Nat) (w : World) (b : Nat) (arr : Array Value) : Prop :=
 ∃ E fz, w.heap[b]? = some (.cells arr E fz) ∧ fz.1 <= fz.2 ∧ (∀ o, o < arr.size → ¬ (fz.1 <= o ∧ o < fz.2)) ∧ (1 < z → fz.1 = fz.2)
inductive RepC (w : World) (cls : Cls) (hdr : Hdr) : Option (List Nat) → Value → C → Prop
 | int (q k n) : RepC w cls hdr q (.int k n) (.int k n)
 | bool (q b) : RepC w cls hdr q (.bool b) (.bool b)
 | str (q s b) (h : b = ⟨s.toArray⟩) : RepC w cls hdr q (.string b) (.str s)
 | nils (q) : RepC w cls hdr q (.slice none 0 0) .nils
 | raw (q v) (h : simple v = true) : RepC w cls hdr q v (.raw v)
 | opq (q t u) : RepC w cls hdr q (.iface t u) .opq
 | seq (q A n cap sz l) (us : Nat → Nat → Value) (hn : l.length = n) (hc : n <= cap) (hs : ∀ e ∈ l, e.length = sz)
   (hcell : ∀ i j e c, l[i]? = some e → e[j]? = some c → ∃ a : Addr, A = some a ∧ cls a.block = none ∧ w.cell? (a.add (i * sz + j)) = some (us i j))
   (hrep : ∀ i j e c, l[i]? = some e → e[j]? = some c → RepC w cls hdr none (us i j) c) : RepC w cls hdr q (.slice A n cap) (.seq l)
 | nown (t sz) : RepC w cls hdr (some t) (.slice none 0 0) (.own sz [])
 | own (t A n cap sz l) (us : Nat → Nat → Value) (hh : hdr t = .slice A n cap) (hn : l.length = n) (hc : n <= cap) (hs : ∀ e ∈ l, e.length = sz)
   (hblk : (A = none ∧ n = 0 ∧ cap = 0) ∨ ∃ a arr, A = some a ∧ a.spot = none ∧ cls a.block = some t ∧ Blk sz w a.block arr ∧ a.off + cap * sz <= arr.size ∧
    ∀ i j e c, l[i]? = some e → e[j]? = some c → arr[a.off + (i * sz + j)]? = some (us i j))
   (hrep : ∀ i j e c, l[i]? = some e → e[j]? = some c → RepC w cls hdr (some (t ++ [i, j])) (us i j) c) : RepC w cls hdr (some t) (.slice A n cap) (.own sz l)
section
variable {w w' : World} {cls cls' : Cls} {hdr hdr' : Hdr}
theorem RepC.simple {q : Option (List Nat)} {u : Value} {c : C} (h : RepC w cls hdr q u c) : simple u = true := by
 cases h <;> first | rfl | assumption
theorem PU {a : Addr} {v : Value} (h : w.cell? a = some v) : a.block < w.heap.size := by
 unfold World.cell? at h
 rcases Nat.lt_or_ge a.block w.heap.size with hl | hl
 ·exact hl
 ·rw [Array.getElem?_eq_none hl] at h; cases h
theorem Wo {a : Addr} (h : w'.heap[a.block]? = w.heap[a.block]?) : w'.cell? a = w.cell? a := by
 unfold World.cell?; rw [h]
theorem qT (a : Addr) (n : Nat) : (a.add n).block = a.block := by unfold Addr.add; split <;> rfl
theorem Blk.lt {z b : Nat} {arr : Array Value} (h : Blk z w b arr) : b < w.heap.size := by
 obtain ⟨E, fz, h, _⟩ := h
 rcases Nat.lt_or_ge b w.heap.size with hl | hl
 ·exact hl
 ·rw [Array.getElem?_eq_none hl] at h; cases h
theorem Blk.same {z b : Nat} {arr : Array Value} (h : Blk z w b arr) (e : w'.heap[b]? = w.heap[b]?) : Blk z w' b arr := by
 obtain ⟨E, fz, h, g⟩ := h
 exact ⟨E, fz, e.trans h, g⟩
theorem Blk.cell {z : Nat} {a : Addr} {arr : Array Value} (h : Blk z w a.block arr) (hsp : a.spot = none) (k : Nat) : w.cell? (a.add k) = arr[a.off + k]? := by
 obtain ⟨E, fz, hE, _⟩ := h
 obtain ⟨b, o, sp⟩ := a
 simp only at hsp hE
 subst hsp
 unfold Addr.add
 split
 ·rename_i h0; subst h0; simp [World.cell?, hE]
 ·simp [World.cell?, hE]
theorem RepC.move {q : Option (List Nat)} {u : Value} {c : C} (h : RepC w cls hdr q u c) : ∀ {q' : Option (List Nat)},
  (∀ b, b < w.heap.size → cls b = none → w'.heap[b]? = w.heap[b]? ∧ cls' b = none) →
  (∀ t, q = some t → ∃ t', q' = some t' ∧ (∀ s, hdr' (t' ++ s) = hdr (t ++ s)) ∧ ∀ b s, b < w.heap.size → cls b = some (t ++ s) → w'.heap[b]? = w.heap[b]? ∧ cls' b = some (t' ++ s)) →
  RepC w' cls' hdr' q' u c := by
 induction h with
 | int q k n => exact fun _ _ => .int _ _ _
 | bool q b => exact fun _ _ => .bool _ _
 | str q s b h => exact fun _ _ => .str _ _ _ h
 | nils q => exact fun _ _ => .nils _
 | raw q v h => exact fun _ _ => .raw _ _ h
 | opq q t u => exact fun _ _ => .opq _ _ _
 | seq q A n cap sz l us hn hc hs hcell hrep ih =>
  intro q' hro hown
  refine .seq _ A n cap sz l us hn hc hs (fun i j e c h1 h2 => ?_) (fun i j e c h1 h2 => ih i j e c h1 h2 hro (fun t ht => by cases ht))
  obtain ⟨a, rfl, hb, hcl⟩ := hcell i j e c h1 h2
  have hlt := PU hcl
  rw [qT] at hlt
  obtain ⟨g1, g2⟩ := hro a.block hlt hb
  exact ⟨a, rfl, g2, by rw [Wo (w := w) (by rw [qT]; exact g1)]; exact hcl⟩
 | nown t sz => exact fun _ hown => by obtain ⟨t', rfl, _⟩ := hown t rfl; exact .nown _ _
 | own t A n cap sz l us hh hn hc hs hblk hrep ih =>
  intro q' hro hown
  obtain ⟨t', rfl, hhd, hbl⟩ := hown t rfl
  refine .own t' A n cap sz l us ?_ hn hc hs ?_ (fun i j e c h1 h2 => ih i j e c h1 h2 hro fun s hs => ?_)
  ·have := hhd []; rw [List.append_nil, List.append_nil] at this; rw [this]; exact hh
  ·rcases hblk with h | ⟨a, arr, rfl, hsp, hcl, hB, hle, hcells⟩
   ·exact .inl h
   ·obtain ⟨g1, g2⟩ := hbl a.block [] hB.lt (by rw [List.append_nil]; exact hcl)
    exact .inr ⟨a, arr, rfl, hsp, by rw [g2, List.append_nil], hB.same g1, hle, hcells⟩
  ·injection hs with hs
   subst hs
   exact ⟨t' ++ [i, j], rfl, fun s => by rw [List.append_assoc, List.append_assoc]; exact hhd _, fun b s hb hcb => by
    rw [List.append_assoc] at hcb ⊢; exact hbl b _ hb hcb⟩
theorem QQ (l : List (List C)) (i : Nat) : (xX l)[i]? = (l[i]?).map y6 := by
 induction l generalizing i with
 | nil => simp [xX]
 | cons e l ih => cases i <;> simp [xX, ih]
theorem Wp (l : List C) (i : Nat) : (y6 l)[i]? = (l[i]?).map ZL := by
 induction l generalizing i with
 | nil => simp [y6]
 | cons e l ih => cases i <;> simp [y6, ih]
theorem V2 (l : List (List C)) : (xX l).length = l.length := by
 induction l with
 | nil => rfl
 | cons e l ih => simp [xX, ih]
theorem V3 (l : List C) : (y6 l).length = l.length := by
 induction l with
 | nil => rfl
 | cons e l ih => simp [y6, ih]
theorem KT {l : List (List C)} {sz : Nat} (h : ∀ e ∈ l, e.length = sz) : ∀ e ∈ xX l, e.length = sz := by
 induction l with
 | nil => intro e he; simp [xX] at he
 | cons x l ih =>
  intro e he
  simp only [xX, List.mem_cons] at he
  rcases he with rfl | he
  ·rw [V3]; exact h x (by simp)
  ·exact ih (fun e he => h e (List.mem_cons_of_mem _ he)) e he
theorem RepC.view {q : Option (List Nat)} {u : Value} {c : C} (h : RepC w cls hdr q u c) : ∀ {q' : Option (List Nat)},
  (∀ b, b < w.heap.size → cls b = none → w'.heap[b]? = w.heap[b]? ∧ cls' b = none) →
  (∀ t, q = some t → ∀ b s, b < w.heap.size → cls b = some (t ++ s) → w'.heap[b]? = w.heap[b]? ∧ cls' b = none) →
  RepC w' cls' hdr' q' u (ZL c) := by
 induction h with
 | int q k n => exact fun _ _ => .int _ _ _
 | bool q b => exact fun _ _ => .bool _ _
 | str q s b h => exact fun _ _ => .str _ _ _ h
 | nils q => exact fun _ _ => .seq _ none 0 0 0 [] (fun _ _ => .bool true) rfl (Nat.le_refl _) (by simp) (by simp) (by simp)
 | raw q v h => exact fun _ _ => .raw _ _ h
 | opq q t u => exact fun _ _ => .opq _ _ _
 | seq q A n cap sz l us hn hc hs hcell hrep ih =>
  intro q' hro hown
  exact RepC.move (.seq none A n cap sz l us hn hc hs hcell hrep) hro (fun t ht => by cases ht)
 | nown t sz => exact fun _ _ => .seq _ none 0 0 0 [] (fun _ _ => .bool true) rfl (Nat.le_refl _) (by simp) (by simp) (by simp)
 | own t A n cap sz l us hh hn hc hs hblk hrep ih =>
  intro q' hro hown
  have hbl := hown t rfl
  refine .seq _ A n cap sz (xX l) us (by rw [V2]; exact hn) hc (KT hs) (fun i j e c h1 h2 => ?_) (fun i j e c h1 h2 => ?_)
  ·rw [QQ] at h1
   obtain ⟨e0, h1', rfl⟩ := Option.map_eq_some_iff.1 h1
   rw [Wp] at h2
   obtain ⟨c0, h2', rfl⟩ := Option.map_eq_some_iff.1 h2
   rcases hblk with ⟨_, h0, _⟩ | ⟨a, arr, rfl, hsp, hcl, hB, hle, hcells⟩
   ·have : l = [] := List.eq_nil_of_length_eq_zero (hn.trans h0)
    subst this; simp at h1'
   ·obtain ⟨g1, g2⟩ := hbl a.block [] hB.lt (by rw [List.append_nil]; exact hcl)
    exact ⟨a, rfl, g2, by rw [(hB.same g1).cell hsp]; exact hcells i j e0 c0 h1' h2'⟩
  ·rw [QQ] at h1
   obtain ⟨e0, h1', rfl⟩ := Option.map_eq_some_iff.1 h1
   rw [Wp] at h2
   obtain ⟨c0, h2', rfl⟩ := Option.map_eq_some_iff.1 h2
   exact ih i j e0 c0 h1' h2' hro fun s hs b s' hb hcb => by
    injection hs with hs; subst hs
    rw [List.append_assoc] at hcb
    exact hbl b _ hb hcb
end
end Go.Am
/- The machine's state beside the model's: slots, entries, and what xF of them from one operation to the next. -/
namespace Go.Am
inductive All2 {α β : Type} (R : α → β → Prop) : List α → List β → Prop
 | nil : All2 R [] []
 | cons {a b as bs} (h : R a b) (t : All2 R as bs) : All2 R (a :: as) (b :: bs)
namespace All2
variable {α β : Type} {R R' : α → β → Prop} {as as' : List α} {bs bs' : List β}
theorem length (h : All2 R as bs) : as.length = bs.length := by induction h <;> simp [*]
theorem mono (h : All2 R as bs) (hr : ∀ a b, b ∈ bs → R a b → R' a b) : All2 R' as bs := by
 induction h with
 | nil => exact .nil
 | cons h t ih => exact .cons (hr _ _ (by simp) h) (ih fun a b hb => hr a b (List.mem_cons_of_mem _ hb))
theorem get (h : All2 R as bs) : ∀ {i : Nat} {b : β}, bs[i]? = some b → ∃ a, as[i]? = some a ∧ R a b := by
 induction h with
 | nil => intro i b h; simp at h
 | cons h t ih => intro i b hb; cases i with
  | zero => simp at hb; exact ⟨_, rfl, hb ▸ h⟩
  | succ i => exact ih (by simpa using hb)
theorem getL (h : All2 R as bs) : ∀ {i : Nat} {a : α}, as[i]? = some a → ∃ b, bs[i]? = some b ∧ R a b := by
 induction h with
 | nil => intro i b h; simp at h
 | cons h t ih => intro i b hb; cases i with
  | zero => simp at hb; exact ⟨_, rfl, hb ▸ h⟩
  | succ i => exact ih (by simpa using hb)
theorem append (h : All2 R as bs) (g : All2 R as' bs') : All2 R (as ++ as') (bs ++ bs') := by
 induction h with
 | nil => exact g
 | cons h t ih => exact .cons h ih
theorem take (h : All2 R as bs) : ∀ n, All2 R (as.take n) (bs.take n) := by
 induction h with
 | nil => intro n; simp; exact .nil
 | cons h t ih => intro n; cases n with
  | zero => exact .nil
  | succ n => exact .cons h (ih n)
theorem drop (h : All2 R as bs) : ∀ n, All2 R (as.drop n) (bs.drop n) := by
 induction h with
 | nil => intro n; simp; exact .nil
 | cons h t ih => intro n; cases n with
  | zero => exact .cons h t
  | succ n => exact ih n
theorem of_get (hl : as.length = bs.length) (h : ∀ (i : Nat) a b, as[i]? = some a → bs[i]? = some b → R a b) : All2 R as bs := by
 induction as generalizing bs with
 | nil => cases bs with
  | nil => exact .nil
  | cons b bs => simp at hl
 | cons a as ih => cases bs with
  | nil => simp at hl
  | cons b bs => exact .cons (h 0 a b rfl rfl) (ih (by simpa using hl) fun i x y hx hy => h (i + 1) x y (by simpa using hx) (by simpa using hy))
end All2
section
variable (w : World) (cls : Cls) (hdr : Hdr) (vb : Nat → Nat) (st : List Entry)
def YQ (u : Value) : C → Prop
 | .ref id => Am.simple u = true ∧ ∀ p, shape (get st id) = some p → u = hdr [id]
 | .ptr id off => (∃ a, u = .pointer (some a)) ∧ ∀ cs, get st id = .var cs → u = .pointer (some ⟨vb id, off, none⟩)
 | .eptr id i sz off => (∃ a, u = .pointer (some a)) ∧ (∀ n, shape (get st id) = some (sz, n) → i < n →
   ∃ a n cap, hdr [id] = .slice (some a) n cap ∧ u = .pointer (some ⟨a.block, a.off + (i * sz + off), none⟩)) ∧
   ∀ cs, get st id = .var cs → u = .pointer (some ⟨vb id, i * sz + off, none⟩)
 | .rptr cs => ∃ a : Addr, u = .pointer (some a) ∧ ∀ (j : Nat) c, cs[j]? = some c → ∃ v, cls a.block = none ∧ w.cell? (a.add j) = some v ∧ RepC w cls hdr none v c
 | .fn _ _ => False
 | .own _ _ => False
 | c => RepC w cls hdr none u c
def zo (u : Value) : C → Prop
 | .fn f caps => ∃ vs : List Value, u = .func (.func f) #[] vs.toArray ∧ All2 (YQ w cls hdr vb st) vs caps
 | c => YQ w cls hdr vb st u c
def wV (u : Value) (g : Bool) (cs : List C) : Prop :=
 ∃ arr : List Value, All2 (zo w cls hdr vb st) arr cs ∧ if g then u = .agg arr.toArray else arr = [u]
def yp (u : Value) : V → Prop
 | .val g cs => wV w cls hdr vb st u g cs
 | .tup vs => ∃ us : List Value, u = .tuple us.toArray ∧ All2 (fun u x => wV w cls hdr vb st u x.1 x.2) us vs
 | .dead => True
def MB (m : MapEntry) (e : List UInt8 × Bool × List C) : Prop :=
 m.key = .string ⟨e.1.toArray⟩ ∧ ∃ arr : List Value, All2 (RepC w cls hdr none) arr e.2.2 ∧ if e.2.1 = true then m.val = .agg arr.toArray else arr = [m.val]
def w4 : List C → List (Nat × Nat) → List Value → List C
 | e, (p, _) :: r, v :: vs => (w4 e r vs).set p (.raw v)
 | e, _, _ => e
def yd (id : Nat) : Entry → Prop
 | .mp es => ∃ (b clock : Nat) (ms : Array MapEntry), hdr [id] = .map (some b) ∧ cls b = some [id] ∧ w.heap[b]? = some (.map ms clock) ∧ All2 (MB w cls hdr) ms.toList es
 | .var cs => cls (vb id) = some [id] ∧ ∃ arr : List Value, Blk 0 w (vb id) arr.toArray ∧ All2 (zo w cls hdr vb st) arr cs
 | .obj sz l => RepC w cls hdr (some [id]) (hdr [id]) (.own sz l)
 | .hole sz l i hs => ∃ e vs, l[i]? = some e ∧ RepC w cls hdr (some [id]) (hdr [id]) (.own sz (l.set i (w4 e hs vs))) ∧
   All2 (fun (v : Value) (x : Nat × Nat) => x.1 < e.length ∧ Am.simple v = true ∧ ∀ p, shape (get st x.2) = some p → v = hdr [x.2]) vs hs
 | .dead => True
structure Sim (sl : List (Nat × V)) (tmps : Array Value) : Prop where
 slot : ∀ i, yp w cls hdr vb st (tmps.getD i undef) (zB sl i)
 ent : ∀ id, yd w cls hdr vb st id (get st id)
end
section
variable {w w' : World} {cls cls' : Cls} {hdr hdr' : Hdr} {vb vb' : Nat → Nat} {st st' : List Entry}
theorem YQ.simple {u : Value} {c : C} (h : YQ w cls hdr vb st u c) : simple u = true := by
 cases c with
 | ref id => exact h.1
 | ptr id off => obtain ⟨⟨a, rfl⟩, _⟩ := h; rfl
 | eptr id i sz off => obtain ⟨⟨a, rfl⟩, _⟩ := h; rfl
 | rptr cs => obtain ⟨a, rfl, _⟩ := h; rfl
 | fn f cs => exact h.elim
 | own sz l => exact h.elim
 | _ => exact RepC.simple (show RepC w cls hdr none u _ from h)
theorem V4 {u : Value} {c : C} (hc : ∀ f cs, c ≠ .fn f cs) : zo w cls hdr vb st u c = YQ w cls hdr vb st u c := by
 cases c <;> first | rfl | exact (hc _ _ rfl).elim
theorem zo.simple {u : Value} {c : C} (h : zo w cls hdr vb st u c) : simple u = true := by
 by_cases hc : ∀ f cs, c ≠ .fn f cs
 ·rw [V4 hc] at h; exact h.simple
 ·cases c with
  | fn f cs => obtain ⟨vs, rfl, _⟩ := h; rfl
  | _ => exact (hc fun _ _ e => by cases e).elim
def Wq (w w' : World) : Prop := w'.os = w.os ∧ w'.output = w.output ∧ w'.tape = w.tape
structure Keep (w : World) (cls : Cls) (hdr : Hdr) (vb : Nat → Nat) (st : List Entry) (w' : World) (cls' : Cls) (hdr' : Hdr) (vb' : Nat → Nat) (st' : List Entry) (ok : Nat → Prop) : Prop where
 ro : ∀ b, b < w.heap.size → cls b = none → w'.heap[b]? = w.heap[b]? ∧ cls' b = none
 var : ∀ id, ok id → ∀ cs, get st' id = .var cs → (∃ cs0, get st id = .var cs0) ∧ vb' id = vb id
 obj : ∀ id, ok id → ∀ sz n, shape (get st' id) = some (sz, n) → (∃ n0, shape (get st id) = some (sz, n0) ∧ n <= n0) ∧ hdr' [id] = hdr [id]
 size : w.heap.size <= w'.heap.size
 io : Wq w w'
def XH : List (String × List C) :=
  [("strconv.ErrSyntax", [.opq]), ("strconv.ErrRange", [.opq]),
   ("internal/strconv.uint64pow10", (List.range 20).map fun i => .int .u64 ((10 ^ i : Nat) : Int))]
def vu (P : Program) (w : World) (cls : Cls) (hdr : Hdr) : Prop :=
 ∀ n cs, (n, cs) ∈ XH → ∀ g, P.globalNamed n = some g → g < w.heap.size ∧ cls g = none ∧ (∀ (i : Nat) c, cs[i]? = some c → ∃ u, w.cell? ⟨g, i, none⟩ = some u ∧ RepC w cls hdr none u c) ∧ ∀ vs, w.var? P n = some vs → vs.size = cs.length
variable {ok : Nat → Prop}
theorem RepC.keep {u : Value} {c : C} (k : Keep w cls hdr vb st w' cls' hdr' vb' st' ok) (h : RepC w cls hdr none u c) : RepC w' cls' hdr' none u c :=
 h.move k.ro fun t ht => by cases ht
theorem DV {P : Program} {n : String} {g : Nat} {w w' : World} (hg : P.globalNamed n = some g) (e : w'.heap[g]? = w.heap[g]?) : w'.var? P n = w.var? P n := by unfold World.var?; rw [hg]; simp only [Option.bind_some]; rw [e]
theorem vu.keep {P : Program} (k : Keep w cls hdr vb st w' cls' hdr' vb' st' ok) (h : vu P w cls hdr) : vu P w' cls' hdr' := by
 intro n cs hm g hg
 obtain ⟨h1, h2, h3, h4⟩ := h n cs hm g hg
 obtain ⟨e1, e2⟩ := k.ro g h1 h2
 refine ⟨Nat.lt_of_lt_of_le h1 k.size, e2, fun i c hc => ?_, fun vs hv => h4 vs ((DV hg e1).symm.trans hv)⟩
 obtain ⟨u, hu, hr⟩ := h3 i c hc
 exact ⟨u, by rw [Wo (w := w) (a := ⟨g, i, none⟩) e1]; exact hu, hr.keep k⟩
theorem vu.recls {P : Program} (hc : ∀ b, cls b = none → cls' b = none) (h : vu P w cls hdr) : vu P w cls' hdr' := by
 intro n cs hm g hg
 obtain ⟨h1, h2, h3, h4⟩ := h n cs hm g hg
 refine ⟨h1, hc _ h2, fun i c hi => ?_, h4⟩
 obtain ⟨u, hu, hr⟩ := h3 i c hi
 exact ⟨u, hu, hr.move (fun b _ hb => ⟨rfl, hc b hb⟩) (fun t ht => by cases ht)⟩
theorem MB.keep {m : MapEntry} {e : List UInt8 × Bool × List C} (k : Keep w cls hdr vb st w' cls' hdr' vb' st' ok) (h : MB w cls hdr m e) : MB w' cls' hdr' m e := by
 obtain ⟨h1, arr, h2, h3⟩ := h
 exact ⟨h1, arr, h2.mono fun _ _ _ hr => hr.keep k, h3⟩
theorem YQ.keep {u : Value} {c : C} (k : Keep w cls hdr vb st w' cls' hdr' vb' st' ok) (hok : ∀ id ∈ y5 [c], ok id) (h : YQ w cls hdr vb st u c) : YQ w' cls' hdr' vb' st' u c := by
 cases c with
 | ref id =>
  obtain ⟨h1, h2⟩ := h
  refine ⟨h1, fun p hg => ?_⟩
  obtain ⟨⟨l0, hl, _⟩, he⟩ := k.obj id (hok id (by simp [y5])) p.1 p.2 hg
  rw [he]; exact h2 _ hl
 | ptr id off =>
  obtain ⟨h1, h2⟩ := h
  refine ⟨h1, fun cs hg => ?_⟩
  obtain ⟨⟨c0, hl⟩, he⟩ := k.var id (hok id (by simp [y5])) cs hg
  rw [he]; exact h2 c0 hl
 | eptr id i sz off =>
  obtain ⟨h1, h2, h3⟩ := h
  refine ⟨h1, fun l hg hi => ?_, fun cs hg => ?_⟩
  ·obtain ⟨⟨l0, hl, hle⟩, he⟩ := k.obj id (hok id (by simp [y5])) sz l hg
   rw [he]; exact h2 l0 hl (Nat.lt_of_lt_of_le hi hle)
  ·obtain ⟨⟨c0, hl⟩, he⟩ := k.var id (hok id (by simp [y5])) cs hg
   rw [he]; exact h3 c0 hl
 | rptr cs =>
  obtain ⟨a, rfl, h2⟩ := h
  refine ⟨a, rfl, fun j c hj => ?_⟩
  obtain ⟨v, hb, hc, hr⟩ := h2 j c hj
  have hlt := PU hc
  rw [qT] at hlt
  obtain ⟨g1, g2⟩ := k.ro a.block hlt hb
  exact ⟨v, g2, by rw [Wo (w := w) (by rw [qT]; exact g1)]; exact hc, hr.keep k⟩
 | fn f cs => exact h.elim
 | own sz l => exact h.elim
 | _ => exact RepC.keep k h
theorem MC {c : C} {cs : List C} (h : c ∈ cs) : ∀ id ∈ y5 [c], id ∈ y5 cs := by
 induction cs with
 | nil => cases h
 | cons x cs ih =>
  intro id hid
  rcases List.mem_cons.1 h with rfl | h
  ·cases c <;> simp [y5] at hid ⊢ <;> simp [hid]
  ·have := ih h id hid
   cases x <;> simp [y5, this]
theorem T3 {c : C} {cs : List C} (h : c ∈ cs) : ∀ id ∈ zu [c], id ∈ zu cs := by
 induction cs with
 | nil => cases h
 | cons x cs ih =>
  intro id hid
  rcases List.mem_cons.1 h with rfl | h
  ·cases c <;> simp [zu] at hid ⊢ <;> simp [hid]
  ·have := ih h id hid
   cases x <;> simp [zu, this]
theorem Lj {c : C} : ∀ id ∈ y5 [c], id ∈ zu [c] := by
 intro id h
 cases c <;> simp [y5] at h <;> simp [zu, h]
theorem zo.keep {u : Value} {c : C} (k : Keep w cls hdr vb st w' cls' hdr' vb' st' ok) (hok : ∀ id ∈ zu [c], ok id) (h : zo w cls hdr vb st u c) : zo w' cls' hdr' vb' st' u c := by
 cases c with
 | fn f caps =>
  obtain ⟨vs, rfl, h2⟩ := h
  exact ⟨vs, rfl, h2.mono fun a b hb hr => hr.keep k fun id hid => hok id (by simp only [zu, List.append_nil]; exact MC hb id hid)⟩
 | _ =>
  rw [V4 (fun _ _ e => by cases e)] at h ⊢
  exact h.keep k (fun id hid => hok id (Lj id hid))
theorem zo.keeps {us : List Value} {cs : List C} (k : Keep w cls hdr vb st w' cls' hdr' vb' st' ok) (hok : ∀ id ∈ zu cs, ok id) (h : All2 (zo w cls hdr vb st) us cs) :
  All2 (zo w' cls' hdr' vb' st') us cs :=
 h.mono fun _ _ hb hr => hr.keep k fun id hid => hok id (T3 hb id hid)
theorem wV.keep {u : Value} {g : Bool} {cs : List C} (k : Keep w cls hdr vb st w' cls' hdr' vb' st' ok) (hok : ∀ id ∈ zu cs, ok id) (h : wV w cls hdr vb st u g cs) :
  wV w' cls' hdr' vb' st' u g cs :=
 let ⟨arr, h1, h2⟩ := h
 ⟨arr, zo.keeps k hok h1, h2⟩
theorem yp.keep {u : Value} {v : V} (k : Keep w cls hdr vb st w' cls' hdr' vb' st' ok) (hok : ∀ id ∈ zZ v, ok id) (h : yp w cls hdr vb st u v) : yp w' cls' hdr' vb' st' u v := by
 cases v with
 | val g cs => exact wV.keep k hok h
 | tup vs =>
  obtain ⟨us, rfl, h2⟩ := h
  exact ⟨us, rfl, h2.mono fun a b hb hr => hr.keep k fun id hid => hok id (List.mem_flatMap.2 ⟨b, hb, hid⟩)⟩
 | dead => trivial
theorem yd.keep {id : Nat} {e : Entry} (k : Keep w cls hdr vb st w' cls' hdr' vb' st' ok) (hok : ∀ i ∈ zv e, ok i)
  (hb : ∀ b s, b < w.heap.size → cls b = some (id :: s) → w'.heap[b]? = w.heap[b]? ∧ cls' b = some (id :: s)) (hh : ∀ s, hdr' (id :: s) = hdr (id :: s)) (hv : vb' id = vb id)
  (h : yd w cls hdr vb st id e) : yd w' cls' hdr' vb' st' id e := by
 cases e with
 | var cs =>
  obtain ⟨h1, arr, h2, h3⟩ := h
  obtain ⟨g1, g2⟩ := hb (vb id) [] h2.lt h1
  exact ⟨by rw [hv]; exact g2, arr, by rw [hv]; exact h2.same g1, zo.keeps k hok h3⟩
 | obj sz l =>
  have h : RepC w cls hdr (some [id]) (hdr [id]) (.own sz l) := h
  show RepC w' cls' hdr' (some [id]) (hdr' [id]) (.own sz l)
  rw [hh []]
  exact h.move k.ro fun t ht => by
   injection ht with ht; subst ht
   exact ⟨[id], rfl, fun s => hh s, fun b s hlt hc => hb b s hlt hc⟩
 | hole sz l i hs =>
  obtain ⟨e, vs, h1, h4, h5⟩ := h
  refine ⟨e, vs, h1, ?_, h5.mono fun v x hx hr => ⟨hr.1, hr.2.1, fun p hp => ?_⟩⟩
  ·rw [hh []]
   exact h4.move k.ro fun t ht => by
    injection ht with ht; subst ht
    exact ⟨[id], rfl, fun s => hh s, fun b s hlt hc => hb b s hlt hc⟩
  ·obtain ⟨⟨n0, g1, _⟩, g2⟩ := k.obj x.2 (hok x.2 (List.mem_map.2 ⟨x, hx, rfl⟩)) p.1 p.2 hp
   rw [g2]; exact hr.2.2 _ g1
 | mp es =>
  obtain ⟨b, clock, ms, h1, h2, h3, h4⟩ := h
  have hlt : b < w.heap.size := by
   rcases Nat.lt_or_ge b w.heap.size with hl | hl
   ·exact hl
   ·rw [Array.getElem?_eq_none hl] at h3; cases h3
  obtain ⟨g1, g2⟩ := hb b [] hlt h2
  exact ⟨b, clock, ms, by rw [hh []]; exact h1, g2, by rw [g1]; exact h3, h4.mono fun _ _ _ hm => hm.keep k⟩
 | dead => trivial
end
end Go.Am
/- The model's own memory operations, run on blocks whose cells are known. -/
namespace Go.Am
theorem Hu (v : Value) : simple v = v.oneCell' := by cases v <;> rfl
structure TypeOk (P : Program) (t : TypeId) (i : TI) : Prop where
 info : ∃ x, P.info? t = some x ∧ x.size = i.size ∧ x.bytes = i.bytes ∧ ∃ z, x.zero = some z ∧ z.cells.size = i.size ∧ All2 (RepC default (fun _ => none) (fun _ => .nilIface) none) z.cells.toList i.zero ∧
  (if i.agg then z = .agg z.cells else z.cells = #[z])
 und : ∃ d, P.underlying t = some d ∧ (i.agg = match d with | .struct _ | .array _ _ => true | _ => false) ∧
  match i.d with
  | .slice e => d = .slice e
  | .struct fs => ∃ fl, d = .struct fl ∧ fl.toList.map (fun f => (f.offset, f.type)) = fs
  | .array n e => d = .array n e
  | .int k => d = .int k
  | .bool => d = .bool
  | .string => d = .string
  | .ptr => ∃ e, d = .pointer e
  | .map k e => d = .map k e
  | .iface => ∃ ms, d = .interface ms
  | .other => True
section
variable {P : Program} {w : World}
theorem W7 {t : TypeId} {x : TypeInfo} (h : P.info? t = some x) (w : World) : (typeInfo t).run P w = .ok x w := by
 simp [typeInfo, h]
theorem zP {t : TypeId} {d : TypeDesc} (h : P.underlying t = some d) (w : World) : (underlying t).run P w = .ok d w := by
 simp [underlying, h]
theorem TypeOk.size {t : TypeId} {i : TI} (h : TypeOk P t i) (w : World) : (sizeOf t).run P w = .ok i.size w := by
 obtain ⟨x, h1, h2, _⟩ := h.info
 simp [sizeOf, W7 h1, h2]
theorem TypeOk.isAgg {t : TypeId} {i : TI} (h : TypeOk P t i) (w : World) : (isAgg t).run P w = .ok i.agg w := by
 obtain ⟨d, h1, h2, _⟩ := h.und
 rw [h2]
 unfold Go.isAgg
 simp only [Sem.run_bind, zP h1, Result.andThen_ok]
 cases d <;> rfl
theorem TypeOk.zero {t : TypeId} {i : TI} (h : TypeOk P t i) : ∃ z, (∀ w, (zeroValue t).run P w = .ok z w) ∧ z.cells.size = i.size ∧
  All2 (RepC default (fun _ => none) (fun _ => .nilIface) none) z.cells.toList i.zero ∧ (if i.agg then z = .agg z.cells else z.cells = #[z]) := by
 obtain ⟨x, h1, _, _, z, hz, h3, h4, h5⟩ := h.info
 exact ⟨z, fun w => by simp [zeroValue, W7 h1, hz], h3, h4, h5⟩
theorem ze3 (b : Nat) : (default : World).heap[b]? = none := rfl
theorem RepC.anywhere {q q' : Option (List Nat)} {u : Value} {c : C} {cls : Cls} {hdr : Hdr} (h : RepC default (fun _ => none) (fun _ => .nilIface) q u c) (hq : q = none) : RepC w cls hdr q' u c :=
 h.move (fun b hb _ => by exact absurd hb (by simp [show (default : World).heap = #[] from rfl])) (fun t ht => by rw [hq] at ht; cases ht)
theorem Lk {a : Addr} {v : Value} (h : w.cell? a = some v) : (load a).run P w = .ok v w := by
 simp [h]
theorem Qr {t : TypeId} {i : TI} (h : TypeOk P t i) (a : Addr) (arr : List Value) (hl : arr.length = i.size) (hc : ∀ (j : Nat) v, arr[j]? = some v → w.cell? (a.add j) = some v)
  (h1 : i.agg = true ∨ arr.length = 1) : ∃ u, (loadVar t a).run P w = .ok u w ∧ if i.agg then u = .agg arr.toArray else arr = [u] := by
 cases hg : i.agg with
 | true =>
  refine ⟨.agg arr.toArray, ?_, rfl⟩
  simp only [loadVar, Sem.run_bind, h.isAgg, Result.andThen_ok, hg, if_true, h.size, <- hl, run_loadCells_list w a arr hc, Sem.run_pure]
 | false =>
  have h1 : arr.length = 1 := h1.resolve_left (by simp [hg])
  obtain ⟨v, rfl⟩ : ∃ v, arr = [v] := by
   match arr, h1 with
   | [v], _ => exact ⟨v, rfl⟩
  refine ⟨v, ?_, rfl⟩
  have := hc 0 v rfl
  simp only [loadVar, Sem.run_bind, h.isAgg, Result.andThen_ok, hg]
  exact Lk (by simpa [Addr.add] using this)
theorem QR {z : Nat} (b o : Nat) : ∀ (vs : List Value) (i : Nat) (arr : Array Value) (w : World), Blk z w b arr → o + i + vs.length <= arr.size → (∀ v ∈ vs, simple v = true) →
  ∃ w', (storeCells ⟨b, o, none⟩ vs i).run P w = .ok () w' ∧ Blk z w' b (arr.toList.take (o + i) ++ vs ++ arr.toList.drop (o + i + vs.length)).toArray ∧
   (∀ c, c ≠ b → w'.heap[c]? = w.heap[c]?) ∧ w'.heap.size = w.heap.size ∧ Wq w w' := by
 intro vs
 induction vs with
 | nil =>
  intro i arr w h _ _
  exact ⟨w, by simp [storeCells], by simpa using h, fun _ _ => rfl, rfl, rfl, rfl, rfl⟩
 | cons v rest ih =>
  intro i arr w h hl h1
  simp only [List.length_cons] at hl
  obtain ⟨E, fz, hE, hfz⟩ := h
  have hi : o + i < arr.size := by omega
  have hadd : (⟨b, o, none⟩ : Addr).add i = ⟨b, o + i, none⟩ := by unfold Addr.add; split <;> simp_all
  have hcell : w.cell? ⟨b, o + i, none⟩ = some arr[o + i] := by simp [World.cell?, hE, hi]
  have hfro : w.frozen? ⟨b, o + i, none⟩ = false := by
   have := hfz.2.1 (o + i) hi
   obtain ⟨lo, hi'⟩ := fz
   simp only [World.frozen?, hE]
   simp only at this
   by_cases h1 : lo <= o + i
   ·have : ¬ o + i < hi' := fun h2 => this ⟨h1, h2⟩
    simp [this]
   ·simp [h1]
  have hheap : (w.setCell ⟨b, o + i, none⟩ v).heap[b]? = some (.cells (arr.setIfInBounds (o + i) v) E fz) := by
   simp [World.setCell, Array.getElem?_modify, hE]
  have hB : Blk z (w.setCell ⟨b, o + i, none⟩ v) b (arr.setIfInBounds (o + i) v) := ⟨E, fz, hheap, by simpa using hfz⟩
  obtain ⟨w', hr, hb, hoth, hsz, hio⟩ := ih (i + 1) _ _ hB (by simp; omega) (fun x hx => h1 x (by simp [hx]))
  refine ⟨w', ?_, ?_, fun c hc => ?_, ?_, hio⟩
  ·simp only [storeCells, Sem.run_bind, hadd]
   rw [run_store P w _ v _ (by rw [<- Hu]; exact h1 v (by simp)), hcell]
   simp only [hfro, Bool.false_eq_true, if_false, Result.andThen_ok]
   exact hr
  ·have e : (arr.setIfInBounds (o + i) v).toList.take (o + (i + 1)) ++ rest ++ (arr.setIfInBounds (o + i) v).toList.drop (o + (i + 1) + rest.length) =
     arr.toList.take (o + i) ++ (v :: rest) ++ arr.toList.drop (o + i + (v :: rest).length) := by
    simp only [Array.toList_setIfInBounds, List.length_cons]
    rw [show o + (i + 1) = o + i + 1 by omega]
    rw [List.take_set, List.drop_set_of_lt (by omega)]
    rw [List.take_succ_eq_append_getElem (by simpa using hi)]
    rw [List.set_append]
    simp only [List.length_take, Array.length_toList]
    rw [if_neg (by omega)]
    rw [show o + i - min (o + i) arr.size = 0 by omega]
    simp [show o + i + 1 + rest.length = o + i + (rest.length + 1) by omega]
   rw [e] at hb
   exact hb
  ·rw [hoth c hc]
   simp [World.setCell, Array.getElem?_modify, Ne.symm hc]
  ·rw [hsz]; simp [World.setCell]
theorem Qs (w : World) (o : Obj) : (∀ b, b < w.heap.size → ({ w with heap := w.heap.push o } : World).heap[b]? = w.heap[b]?) ∧
  ({ w with heap := w.heap.push o } : World).heap[w.heap.size]? = some o ∧ ({ w with heap := w.heap.push o } : World).heap.size = w.heap.size + 1 := by
 refine ⟨fun b hb => ?_, by simp, by simp⟩
 simp [Array.getElem?_push, Nat.ne_of_lt hb]
theorem Blk.new {z : Nat} (w : World) (arr : Array Value) (E : TypeId) : Blk z { w with heap := w.heap.push (.cells arr E) } w.heap.size arr :=
 ⟨E, (0, 0), by simp, Nat.le_refl _, fun o _ h => by simp only at h; omega, fun _ => rfl⟩
end
end Go.Am
/- Operations that only read. -/
namespace Go.Am
theorem Keep.refl (w : World) (cls : Cls) (hdr : Hdr) (vb : Nat → Nat) (st : List Entry) (ok : Nat → Prop) : Keep w cls hdr vb st w cls hdr vb st ok :=
 ⟨fun _ _ h => ⟨rfl, h⟩, fun _ _ cs h => ⟨⟨cs, h⟩, rfl⟩, fun _ _ _ l h => ⟨⟨l, h, Nat.le_refl _⟩, rfl⟩, Nat.le_refl _, rfl, rfl, rfl⟩
section
variable {w : World} {cls : Cls} {hdr : Hdr} {vb : Nat → Nat} {st : List Entry} {u : Value}
theorem R2 {v : V} {c : C} (h : v.one = some c) : v = .val false [c] := by
 unfold V.one at h
 split at h
 ·injection h with h; rw [h]
 ·cases h
theorem QS {v : V} {cs : List C} (h : v.cells = some cs) : ∃ g, v = .val g cs := by
 cases v with
 | val g x => simp [V.cells] at h; exact ⟨g, by rw [h]⟩
 | _ => simp [V.cells] at h
theorem Ll {v : V} {b : Bool} (h : Xn v = some b) : v = .val false [.bool b] := by
 unfold Xn at h
 split at h
 ·injection h with h; rw [h]
 ·cases h
theorem yp.one {c : C} (h : yp w cls hdr vb st u (.val false [c])) : zo w cls hdr vb st u c := by
 obtain ⟨arr, h1, h2⟩ := h
 simp only [Bool.false_eq_true, if_false] at h2
 subst h2
 cases h1 with
 | cons h t => exact h
theorem zo.val {c : C} (h : zo w cls hdr vb st u c) : yp w cls hdr vb st u (.val false [c]) :=
 ⟨[u], .cons h .nil, rfl⟩
theorem zo.int {k : IntKind} {n : Int} (h : zo w cls hdr vb st u (.int k n)) : u = .int k n := by
 have h : RepC w cls hdr none u (.int k n) := h
 cases h; rfl
theorem zo.bool {b : Bool} (h : zo w cls hdr vb st u (.bool b)) : u = .bool b := by
 have h : RepC w cls hdr none u (.bool b) := h
 cases h; rfl
theorem zo.str {s : List UInt8} (h : zo w cls hdr vb st u (.str s)) : u = .string ⟨s.toArray⟩ := by
 have h : RepC w cls hdr none u (.str s) := h
 cases h with
 | str _ _ _ h => rw [h]
theorem zo.nils (h : zo w cls hdr vb st u .nils) : u = .slice none 0 0 := by
 have h : RepC w cls hdr none u .nils := h
 cases h; rfl
theorem zo.raw {v : Value} (h : zo w cls hdr vb st u (.raw v)) : u = v := by
 have h : RepC w cls hdr none u (.raw v) := h
 cases h; rfl
theorem zo.of {c : C} (h : RepC w cls hdr none u c) (hc : plain c = true) : zo w cls hdr vb st u c := by
 cases c <;> first | exact h | (simp [plain] at hc)
theorem zo.to {c : C} (h : zo w cls hdr vb st u c) (hc : plain c = true) : RepC w cls hdr none u c := by
 cases c <;> first | exact h | (simp [plain] at hc)
theorem UB {v : Value} (h : simple v = true) : zo w cls hdr vb st v (cC v) := by
 unfold cC
 split
 ·exact RepC.int _ _ _
 ·exact RepC.bool _ _
 ·rename_i s; exact RepC.str _ _ _ (by cases s; rfl)
 ·exact RepC.nils _
 ·exact RepC.raw _ _ h
theorem Ew (v : Value) : yp w cls hdr vb st v (cV v) := by
 unfold cV
 split
 ·rename_i cs
  cases h : cs.toList.all Am.simple with
  | false => trivial
  | true =>
   rw [List.all_eq_true] at h
   refine ⟨cs.toList, ?_, rfl⟩
   refine All2.of_get (by simp) fun i a b ha hb => ?_
   rw [List.getElem?_map, ha] at hb
   simp at hb
   subst hb
   exact UB (h a (List.mem_of_getElem? ha))
 ·trivial
 ·rename_i h1 h2
  refine ⟨[v], .cons (UB ?_) .nil, rfl⟩
  cases v <;> first | rfl | exact (h1 _ rfl).elim | exact (h2 _ rfl).elim
theorem w7 {sl : List (Nat × V)} {k : Nat} {a : Act} (h : Sim w cls hdr vb st sl a.tmps) (x : Operand) : yp w cls hdr vb st (a.eval x) (S.ev ⟨sl, st, k⟩ x) := by
 cases x with
 | tmp t => exact h.slot t
 | const v => exact Ew v
 | global g => trivial
 | func f => exact ⟨[_], .cons (show zo w cls hdr vb st (.func (.func f) #[] #[]) (.fn f []) from ⟨[], rfl, .nil⟩) .nil, rfl⟩
theorem z5 {sl : List (Nat × V)} {k : Nat} {a : Act} (h : Sim w cls hdr vb st sl a.tmps) {x : Operand} {c : C} (e : zq ⟨sl, st, k⟩ x = some c) : zo w cls hdr vb st (a.eval x) c := by
 have := w7 (k := k) h x
 rw [R2 e] at this
 exact this.one
end
end Go.Am
/- Each operation that only reads: what it answers in the model is what the machine says. -/
namespace Go.Am
structure Frm (w : World) (cls : Cls) (hdr : Hdr) (vb : Nat → Nat) (st : List Entry) (w' : World) (cls' : Cls) (hdr' : Hdr) (vb' : Nat → Nat) (st' : List Entry) (ws : List Nat) : Prop where
 hid : ∀ b, b < w.heap.size → cls b = some [] → w'.heap[b]? = w.heap[b]? ∧ cls' b = some []
 ent : ∀ id, id ∉ ws → get st' id = get st id
 vb : ∀ id, id ∉ ws → vb' id = vb id
 hdr : ∀ id, id ∉ ws → ∀ s, hdr' (id :: s) = hdr (id :: s)
 blk : ∀ id, id ∉ ws → ∀ b s, b < w.heap.size → cls b = some (id :: s) → w'.heap[b]? = w.heap[b]? ∧ cls' b = some (id :: s)
theorem Frm.refl (w : World) (cls : Cls) (hdr : Hdr) (vb : Nat → Nat) (st : List Entry) (ws : List Nat) : Frm w cls hdr vb st w cls hdr vb st ws :=
 ⟨fun _ _ h => ⟨rfl, h⟩, fun _ _ => rfl, fun _ _ => rfl, fun _ _ _ => rfl, fun _ _ _ _ _ h => ⟨rfl, h⟩⟩
def yr (P : Program) (a : Act) (o : Oper) (w : World) (cls : Cls) (hdr : Hdr) (vb : Nat → Nat) (st : List Entry) (nid : Nat) (v : V) (st' : List Entry) (ws : List Nat) : Prop :=
 ∃ u w' cls' hdr' vb', ((execOp a.eval o).run P w = .ok (.value u) w' ∨ ((execOp a.eval o).run P w = .ok .skip w' ∧ u = undef)) ∧
  Keep w cls hdr vb st w' cls' hdr' vb' st' (fun id => ¬ (id ∈ ws ∧ nid <= id)) ∧ yp w' cls' hdr' vb' st' u v ∧ (∀ id, yd w' cls' hdr' vb' st' id (get st' id)) ∧ Frm w cls hdr vb st w' cls' hdr' vb' st' ws
section
variable {P : Program} {cfg : Cfg} {a : Act} {o : Oper} {w : World} {cls : Cls} {hdr : Hdr} {vb : Nat → Nat} {st : List Entry} {sl : List (Nat × V)} {k nid : Nat} {v : V}
theorem yB {u : Value} (sim : Sim w cls hdr vb st sl a.tmps) (hr : (execOp a.eval o).run P w = .ok (.value u) w) (hu : yp w cls hdr vb st u v) : yr P a o w cls hdr vb st nid v st [] :=
 ⟨u, w, cls, hdr, vb, .inl hr, Keep.refl _ _ _ _ _ _, hu, sim.ent, Frm.refl _ _ _ _ _ _⟩
theorem GM (sim : Sim w cls hdr vb st sl a.tmps) {x : Operand} (ho : o.op = .move x ∨ o.op = .assign x) : yr P a o w cls hdr vb st nid (S.ev ⟨sl, st, k⟩ x) st [] := by
 refine yB (u := a.eval x) sim ?_ (w7 sim x)
 rcases ho with h | h <;> simp [execOp, h]
theorem zbq (sim : Sim w cls hdr vb st sl a.tmps) {c x y : Operand} {t : Bool} (ho : o.op = .pick c x y) (ht : Xn (S.ev ⟨sl, st, k⟩ c) = some t) :
  yr P a o w cls hdr vb st nid (if t = true then S.ev ⟨sl, st, k⟩ x else S.ev ⟨sl, st, k⟩ y) st [] := by
 have hc := w7 (k := k) sim c
 rw [Ll ht] at hc
 have hc := hc.one.bool
 refine yB (u := if t = true then a.eval x else a.eval y) sim ?_ ?_
 ·cases t <;> simp [execOp, ho, hc, asBool]
 ·cases t
  ·exact w7 sim y
  ·exact w7 sim x
theorem Gt (sim : Sim w cls hdr vb st sl a.tmps) {x : Operand} {c : C} (ho : o.op = .nilCheck x) (hc : zq ⟨sl, st, k⟩ x = some c) (hp : QJ c = true) :
  yr P a o w cls hdr vb st nid (.val false [c]) st [] := by
 have h := z5 sim hc
 refine yB (u := a.eval x) sim ?_ h.val
 have : ∃ q, a.eval x = .pointer (some q) := by
  cases c <;> simp [QJ] at hp
  ·exact h.1
  ·exact h.1
  ·obtain ⟨q, hq, _⟩ := h; exact ⟨q, hq⟩
 obtain ⟨q, hq⟩ := this
 simp [execOp, ho, hq]
theorem Ey (op : BinOp) (t : TypeId) (x y : Operand) (kd : IntKind) (n : Int) (q : Value) : (eqGuard op t x y (.int kd n) q).run P w = .ok () w := by
 cases op <;> simp [eqGuard]
theorem UC (op : BinOp) (t : TypeId) (x y : Operand) (n : Bool) (q : Value) : (eqGuard op t x y (.bool n) q).run P w = .ok () w := by
 cases op <;> simp [eqGuard]
theorem Z9 (op : BinOp) (t : TypeId) (x y : Operand) (n : ByteArray) (q : Value) : (eqGuard op t x y (.string n) q).run P w = .ok () w := by
 cases op <;> simp [eqGuard]
theorem Ez (op : BinOp) (t : TypeId) (x y : Operand) (n : Option Addr) (q : Value) : (eqGuard op t x y (.pointer n) q).run P w = .ok () w := by
 cases op <;> simp [eqGuard]
theorem zh7 (sim : Sim w cls hdr vb st sl a.tmps) {x : Operand} {c : C} (hc : zq ⟨sl, st, k⟩ x = some c) (hp : QJ c = true) : ∃ q, a.eval x = .pointer (some q) := by
 have h := z5 sim hc
 cases c <;> simp [QJ] at hp
 ·exact h.1
 ·exact h.1
 ·obtain ⟨q, hq, _⟩ := h; exact ⟨q, hq⟩
theorem DW {kd : IntKind} {op : BinOp} {m n : Int} {c : C} (h : U8 prims kd op m n = some c) :
  ∃ u, (∀ w, (binOp op 0 (.int kd m) (.int kd n)).run P w = .ok u w) ∧ (∀ t w, (binOp op t (.int kd m) (.int kd n)).run P w = (binOp op 0 (.int kd m) (.int kd n)).run P w) ∧ zo w cls hdr vb st u c := by
 cases op <;> simp only [U8] at h
 case andNot => cases h
 case quo =>
  cases hz : prims.nz n <;> rw [hz] at h <;> simp at h
  subst h
  have hz : ¬ n = 0 := by simpa [prims] using hz
  exact ⟨_, fun w => by simp [binOp, Op.intDiv, hz]; rfl, fun _ _ => rfl, RepC.int _ _ _⟩
 case rem =>
  cases hz : prims.nz n <;> rw [hz] at h <;> simp at h
  subst h
  have hz : ¬ n = 0 := by simpa [prims] using hz
  exact ⟨_, fun w => by simp [binOp, Op.intDiv, hz]; rfl, fun _ _ => rfl, RepC.int _ _ _⟩
 case shl =>
  cases h1 : prims.leI 0 n <;> rw [h1] at h <;> simp only [cond_true, cond_false] at h <;> try (cases h; done)
  simp only [Option.some.injEq] at h
  subst h
  have h1 : 0 <= n := by simpa [prims] using h1
  exact ⟨_, fun w => by simp only [binOp, Op.shift]; rw [if_neg (by omega)]; rfl, fun _ _ => rfl, RepC.int _ _ _⟩
 case shr =>
  cases h1 : prims.leI 0 n <;> rw [h1] at h <;> simp only [cond_true, cond_false] at h <;> try (cases h; done)
  simp only [Option.some.injEq] at h
  subst h
  have h1 : 0 <= n := by simpa [prims] using h1
  exact ⟨_, fun w => by simp only [binOp, Op.shift]; rw [if_neg (by omega)]; rfl, fun _ _ => rfl, RepC.int _ _ _⟩
 case and =>
  simp only [Option.some.injEq] at h
  subst h
  exact ⟨_, fun w => by simp only [binOp, Op.intBits]; rw [if_neg (by simp)]; rfl, fun _ _ => rfl, RepC.int _ _ _⟩
 case or =>
  simp only [Option.some.injEq] at h
  subst h
  exact ⟨_, fun w => by simp only [binOp, Op.intBits]; rw [if_neg (by simp)]; rfl, fun _ _ => rfl, RepC.int _ _ _⟩
 case xor =>
  simp only [Option.some.injEq] at h
  subst h
  exact ⟨_, fun w => by simp only [binOp, Op.intBits]; rw [if_neg (by simp)]; rfl, fun _ _ => rfl, RepC.int _ _ _⟩
 all_goals
  simp only [Option.some.injEq] at h
  subst h
  exact ⟨_, fun w => by simp [binOp, Op.intArith, Op.intCmp]; rfl, fun _ _ => rfl, by first | exact RepC.int _ _ _ | exact RepC.bool _ _⟩
def TOk (P : Program) (cfg : Cfg) : Prop := ∀ t i, cfg.T t = some i → TypeOk P t i
theorem zbr {t : TypeId} {d : TD} (h : zy cfg t = d) (hd : d ≠ .other) : ∃ i, cfg.T t = some i ∧ i.d = d := by
 unfold zy at h
 cases ht : cfg.T t with
 | none => rw [ht] at h; exact (hd h.symm).elim
 | some i => rw [ht] at h; exact ⟨i, rfl, h⟩
def zho (d : TD) (x : TypeDesc) : Prop :=
 match d with
 | .slice e => x = .slice e
 | .struct fs => ∃ fl, x = .struct fl ∧ fl.toList.map (fun f => (f.offset, f.type)) = fs
 | .array n e => x = .array n e
 | .int k => x = .int k
 | .bool => x = .bool
 | .string => x = .string
 | .ptr => ∃ e, x = .pointer e
 | .map k e => x = .map k e
 | .iface => ∃ ms, x = .interface ms
 | .other => True
theorem yy (T : TOk P cfg) {t : TypeId} {d : TD} (h : zy cfg t = d) (hd : d ≠ .other) : ∃ x, P.underlying t = some x ∧ zho d x := by
 obtain ⟨i, hi, rfl⟩ := zbr h hd
 obtain ⟨x, h1, _, h2⟩ := (T t i hi).und
 exact ⟨x, h1, h2⟩
theorem QT (t : TypeId) (x y : Value) : Op.equal t x y = Op.equalIn (9999 + 1) t x y := rfl
theorem Hv {t : TypeId} (h : P.underlying t = some .bool) (d : Nat) (m n : Bool) (w : World) : (Op.equalIn (d + 1) t (.bool m) (.bool n)).run P w = .ok (m == n) w := by
 simp [Op.equalIn, zP h]
theorem E0 {t e : TypeId} (h : P.underlying t = some (.pointer e)) (d : Nat) (z : Addr) (w : World) : (Op.equalIn (d + 1) t (.pointer (some z)) (.pointer none)).run P w = .ok false w := by
 simp [Op.equalIn, zP h]
theorem E3 {t e : TypeId} (h : P.underlying t = some (.pointer e)) (d : Nat) (w : World) : (Op.equalIn (d + 1) t (.pointer none) (.pointer none)).run P w = .ok true w := by
 simp [Op.equalIn, zP h]
theorem Gu (op : BinOp) (d : TD) : Qm op d none = none := by
 unfold Qm; split <;> rfl
theorem T4 : ∀ (a b : List UInt8), (!(Op.bytesLess a b || a == b)) = Op.bytesLess b a
 | [], [] => by simp [Op.bytesLess]
 | [], _ :: _ => by simp [Op.bytesLess]
 | _ :: _, [] => by simp [Op.bytesLess]
 | x :: a, y :: b => by
  have ih := T4 a b
  simp only [Op.bytesLess]
  by_cases h1 : x < y
  ·have h2 : ¬ y < x := fun h => by exact absurd (UInt8.lt_trans h1 h) (UInt8.lt_irrefl x)
   have h3 : ¬ y = x := fun h => by subst h; exact absurd h1 (UInt8.lt_irrefl y)
   simp [h1, h2, h3]
  ·by_cases h2 : y < x
   ·have h3 : ¬ x = y := fun h => by subst h; exact absurd h2 (UInt8.lt_irrefl x)
    simp [h1, h2, h3]
   ·have h3 : x = y := by
     have a1 := UInt8.not_lt.1 h1
     have a2 := UInt8.not_lt.1 h2
     exact UInt8.le_antisymm a2 a1
    subst h3
    rw [<- ih]
    by_cases h4 : a = b <;> simp [h1, h4]
theorem PV {p : Prims} {op : BinOp} {d : TD} {c : C} (v : Value) (hc : Xo c = none) : bin p op d c (.raw v) = none := by
 cases v with
 | pointer z => cases z with
  | none => cases c <;> simp [bin, Gu, hc]
  | some z => cases c <;> simp [bin]
 | _ => cases c <;> simp [bin]
theorem ze4 (T : TOk P cfg) (sim : Sim w cls hdr vb st sl a.tmps) {op : BinOp} {t t2 : TypeId} {x y : Operand} {p q c : C} (ho : o.op = .binOp op t x y t2) (hx : zq ⟨sl, st, k⟩ x = some p) (hy : zq ⟨sl, st, k⟩ y = some q)
  (h : bin prims op (zy cfg t) p q = some c) : yr P a o w cls hdr vb st nid (.val false [c]) st [] := by
 have gx := z5 sim hx
 have gy := z5 sim hy
 have fin : ∀ u, (eqGuard op t x y (a.eval x) (a.eval y)).run P w = .ok () w → (binOp op t (a.eval x) (a.eval y)).run P w = .ok u w → zo w cls hdr vb st u c →
   yr P a o w cls hdr vb st nid (.val false [c]) st [] := fun u h1 h2 h3 =>
  yB (u := u) sim (by simp [execOp, ho, h1, h2]) h3.val
 have nilcase : q = .raw (.pointer none) → (∀ k n, p ≠ .int k n) → (∀ b, p ≠ .bool b) → (∀ s, p ≠ .str s) → yr P a o w cls hdr vb st nid (.val false [c]) st [] := by
  rintro rfl n1 n2 n3
  have hb : bin prims op (zy cfg t) p (.raw (.pointer none)) = Qm op (zy cfg t) (Xo p) := by
   cases p <;> first | rfl | exact (n1 _ _ rfl).elim | exact (n2 _ rfl).elim | exact (n3 _ rfl).elim
  rw [hb] at h
  have hq : a.eval y = .pointer none := gy.raw
  have hp : ∀ b, Xo p = some b → (b = false ∧ ∃ z, a.eval x = .pointer (some z)) ∨ (b = true ∧ a.eval x = .pointer none) := by
   intro b hb
   cases p with
   | ptr id off => simp [Xo] at hb; exact .inl ⟨hb, gx.1⟩
   | eptr id i sz off => simp [Xo] at hb; exact .inl ⟨hb, gx.1⟩
   | rptr cs => simp [Xo] at hb; obtain ⟨z, hz, _⟩ := gx; exact .inl ⟨hb, z, hz⟩
   | raw v =>
    have hv := gx.raw
    cases v with
    | pointer z => cases z with
     | none => simp [Xo] at hb; exact .inr ⟨hb, hv⟩
     | some z => simp [Xo] at hb
    | _ => simp [Xo] at hb
   | _ => simp [Xo] at hb
  have go : ∀ b, Xo p = some b → zy cfg t = .ptr → ∀ w, (Op.equal t (a.eval x) (a.eval y)).run P w = .ok b w := by
   intro b hb ht w
   obtain ⟨d, hd, e, rfl⟩ := yy T ht (by simp)
   rcases hp b hb with ⟨rfl, z, hz⟩ | ⟨rfl, hz⟩
   ·rw [QT, hz, hq]; exact E0 hd _ _ _
   ·rw [QT, hz, hq]; exact E3 hd _ _
  have hgd : (eqGuard op t x y (a.eval x) (a.eval y)).run P w = .ok () w := by
   cases hn : Xo p with
   | none => rw [hn] at h; exfalso; revert h; unfold Qm; split <;> simp
   | some b => rcases hp b hn with ⟨_, z, hz⟩ | ⟨_, hz⟩ <;> rw [hz] <;> exact Ez _ _ _ _ _ _
  unfold Qm at h
  split at h
  ·rename_i ht
   obtain ⟨b, hb, rfl⟩ := Option.map_eq_some_iff.1 h
   refine fin (.bool b) hgd ?_ (RepC.bool _ _)
   have := go b hb ht w
   rcases hp b hb with ⟨_, z, hz⟩ | ⟨_, hz⟩ <;> rw [hz, hq] at this ⊢ <;> simp [binOp, this]
  ·rename_i ht
   obtain ⟨b, hb, rfl⟩ := Option.map_eq_some_iff.1 h
   refine fin (.bool (!b)) hgd ?_ (RepC.bool _ _)
   have := go b hb ht w
   rcases hp b hb with ⟨_, z, hz⟩ | ⟨_, hz⟩ <;> rw [hz, hq] at this ⊢ <;> simp [binOp, this]
  ·cases h
 cases p with
 | int k1 m => cases q with
  | int k2 n =>
   simp only [bin] at h
   split at h
   ·rename_i e
    subst e
    obtain ⟨u, h1, h2, h3⟩ := DW (P := P) (w := w) (cls := cls) (hdr := hdr) (vb := vb) (st := st) h
    refine fin u (by rw [gx.int]; exact Ey _ _ _ _ _ _ _) ?_ h3
    rw [gx.int, gy.int, h2]; exact h1 w
   ·cases h
  | raw v => rw [PV v rfl] at h; cases h
  | _ => simp [bin] at h
 | bool m => cases q with
  | bool n =>
   simp only [bin] at h
   have ex := gx.bool
   have ey := gy.bool
   have go : zy cfg t = .bool → ∀ w, (Op.equal t (.bool m) (.bool n)).run P w = .ok (m == n) w := by
    intro ht w
    obtain ⟨d, hd, rfl⟩ := yy T ht (by simp)
    rw [QT]; exact Hv hd _ _ _ _
   split at h
   ·rename_i ht
    injection h with h; subst h
    exact fin (.bool (m == n)) (by rw [ex]; exact UC _ _ _ _ _ _) (by rw [ex, ey]; simp [binOp, go ht]) (RepC.bool _ _)
   ·rename_i ht
    injection h with h; subst h
    exact fin (.bool (!(m == n))) (by rw [ex]; exact UC _ _ _ _ _ _) (by rw [ex, ey]; simp [binOp, go ht]) (RepC.bool _ _)
   ·cases h
  | raw v => rw [PV v rfl] at h; cases h
  | _ => simp [bin] at h
 | str m => cases q with
  | str n =>
   have ex := gx.str
   have ey := gy.str
   have e1 : ((⟨m.toArray⟩ : ByteArray).toList == (⟨n.toArray⟩ : ByteArray).toList) = (m == n) := by simp
   cases op <;> simp only [bin] at h
   case eql =>
    injection h with h; subst h
    exact fin (.bool (m == n)) (by rw [ex]; exact Z9 _ _ _ _ _ _) (by rw [ex, ey]; simp [binOp, Op.stringOp]) (RepC.bool _ _)
   case neq =>
    injection h with h; subst h
    exact fin (.bool (!(m == n))) (by rw [ex]; exact Z9 _ _ _ _ _ _) (by rw [ex, ey]; simp [binOp, Op.stringOp]) (RepC.bool _ _)
   case add =>
    cases hf : prims.fits m n <;> rw [hf] at h <;> simp at h
    subst h
    have hf : m.length + n.length <= 1000000 := by simpa [prims] using hf
    refine fin (.string (⟨m.toArray⟩ ++ ⟨n.toArray⟩)) (by rw [ex]; exact Z9 _ _ _ _ _ _) ?_ (RepC.str _ _ _ ?_)
    ·rw [ex, ey]
     have h1 : (⟨m.toArray⟩ : ByteArray).size = m.length := by simp [ByteArray.size]
     have h2 : (⟨n.toArray⟩ : ByteArray).size = n.length := by simp [ByteArray.size]
     simp only [binOp, Op.stringOp, h1, h2]
     rw [if_neg (by show ¬ ((m.length + n.length : Nat) : Int) > 9223372036854775807; omega)]
     rfl
    ·apply ByteArray.ext
     show (_ : ByteArray).data = (m ++ n).toArray
     rw [ByteArray.data_append]; simp
   case lss =>
    injection h with h; subst h
    exact fin (.bool (Op.bytesLess m n)) (by rw [ex]; exact Z9 _ _ _ _ _ _) (by rw [ex, ey]; simp [binOp, Op.stringOp]) (RepC.bool _ _)
   case gtr =>
    injection h with h; subst h
    exact fin (.bool (Op.bytesLess n m)) (by rw [ex]; exact Z9 _ _ _ _ _ _) (by rw [ex, ey]; simp [binOp, Op.stringOp, <- T4 m n]) (RepC.bool _ _)
   case leq =>
    injection h with h; subst h
    exact fin (.bool (!(Op.bytesLess n m))) (by rw [ex]; exact Z9 _ _ _ _ _ _) (by rw [ex, ey]; simp [binOp, Op.stringOp, <- T4 m n]) (RepC.bool _ _)
   case geq =>
    injection h with h; subst h
    exact fin (.bool (!(Op.bytesLess m n))) (by rw [ex]; exact Z9 _ _ _ _ _ _) (by rw [ex, ey]; simp [binOp, Op.stringOp]) (RepC.bool _ _)
   all_goals simp at h
  | raw v => rw [PV v rfl] at h; cases h
  | _ => simp [bin] at h
 | _ =>
  cases q with
  | raw v => cases v with
   | pointer z => cases z with
    | none => exact nilcase rfl (fun _ _ e => by cases e) (fun _ e => by cases e) (fun _ e => by cases e)
    | some z => simp [bin] at h
   | _ => simp [bin] at h
  | _ => simp [bin] at h
theorem DX {t : TypeId} {ms : Array (String × TypeId)} (h : P.underlying t = some (.interface ms)) (d : Nat) (s : TypeId) (u : Value) (w : World) : (Op.equalIn (d + 1) t (.iface s u) .nilIface).run P w = .ok false w := by
 simp [Op.equalIn, zP h]
theorem E4 {t : TypeId} {ms : Array (String × TypeId)} (h : P.underlying t = some (.interface ms)) (d : Nat) (w : World) : (Op.equalIn (d + 1) t .nilIface .nilIface).run P w = .ok true w := by
 simp [Op.equalIn, zP h]
theorem DY {op : BinOp} {t : TypeId} {x : Operand} {v : Value} (hv : v = .nilIface ∨ ∃ s u, v = .iface s u) : (eqGuard op t x (.const .nilIface) v .nilIface).run P w = .ok () w := by
 rcases hv with rfl | ⟨s, u, rfl⟩ <;> cases op <;> simp [eqGuard]
theorem DZ (T : TOk P cfg) (sim : Sim w cls hdr vb st sl a.tmps) {op : BinOp} {t t2 : TypeId} {x y : Operand} {p c : C} (ho : o.op = .binOp op t x y t2) (hx : zq ⟨sl, st, k⟩ x = some p)
  (ht : Qf (zy cfg t) = true) (h : Mv op y p = some c) : yr P a o w cls hdr vb st nid (.val false [c]) st [] := by
 have gx := z5 sim hx
 have ht' : zy cfg t = .iface := by
  revert ht
  cases zy cfg t <;> simp [Qf]
 obtain ⟨d, hd, ms, rfl⟩ := yy T ht' (by simp)
 have hy : ∀ (b : Bool), Vz p = some b → (b = false ∧ ∃ s u, a.eval x = .iface s u) ∨ (b = true ∧ a.eval x = .nilIface) := by
  intro b hb
  cases p with
  | opq =>
   simp [Vz] at hb
   have : RepC w cls hdr none (a.eval x) .opq := gx
   cases hv : a.eval x <;> rw [hv] at this <;> cases this
   exact .inl ⟨hb, _, _, rfl⟩
  | raw v =>
   have hv := gx.raw
   cases v <;> simp [Vz] at hb
   exact .inr ⟨hb, hv⟩
  | _ => simp [Vz] at hb
 have hex : a.eval (.const .nilIface) = .nilIface := rfl
 have eqv : ∀ b, Vz p = some b → ∀ w, (Op.equal t (a.eval x) .nilIface).run P w = .ok b w := by
  intro b hb w
  rw [QT]
  rcases hy b hb with ⟨rfl, s, u, hz⟩ | ⟨rfl, hz⟩
  ·rw [hz]; exact DX hd _ _ _ _
  ·rw [hz]; exact E4 hd _ _
 have hg : ∀ b, Vz p = some b → ∀ op w, (eqGuard op t x (.const .nilIface) (a.eval x) .nilIface).run P w = .ok () w := fun b hb op w => DY (by
  rcases hy b hb with ⟨_, s, u, hz⟩ | ⟨_, hz⟩
  ·exact .inr ⟨s, u, hz⟩
  ·exact .inl hz)
 have fin : ∀ u, (eqGuard op t x y (a.eval x) (a.eval y)).run P w = .ok () w → (binOp op t (a.eval x) (a.eval y)).run P w = .ok u w → zo w cls hdr vb st u c →
   yr P a o w cls hdr vb st nid (.val false [c]) st [] := fun u h1 h2 h3 =>
  yB (u := u) sim (by simp [execOp, ho, h1, h2]) h3.val
 unfold Mv at h
 split at h
 ·obtain ⟨b, hb, rfl⟩ := Option.map_eq_some_iff.1 h
  refine fin (.bool b) (hg b hb _ w) ?_ (RepC.bool _ _)
  have := eqv b hb w
  rw [hex]
  rcases hy b hb with ⟨_, s, u, hz⟩ | ⟨_, hz⟩ <;> rw [hz] at this ⊢ <;> simp [binOp, this]
 ·obtain ⟨b, hb, rfl⟩ := Option.map_eq_some_iff.1 h
  refine fin (.bool (!b)) (hg b hb _ w) ?_ (RepC.bool _ _)
  have := eqv b hb w
  rw [hex]
  rcases hy b hb with ⟨_, s, u, hz⟩ | ⟨_, hz⟩ <;> rw [hz] at this ⊢ <;> simp [binOp, this]
 ·cases h
end
end Go.Am
/- More operations that only read: loads, Z6, cuts, conversions. -/
namespace Go.Am
section
variable {P : Program} {cfg : Cfg} {a : Act} {o : Oper} {w : World} {cls : Cls} {hdr : Hdr} {vb : Nat → Nat} {st : List Entry} {sl : List (Nat × V)} {k nid : Nat} {v : V}
theorem zgr (sim : Sim w cls hdr vb st sl a.tmps) {op : UnOp} {t : TypeId} {x : Operand} {p c : C} (ho : o.op = .unOp op t x) (hx : zq ⟨sl, st, k⟩ x = some p) (h : un prims op p = some c) :
  yr P a o w cls hdr vb st nid (.val false [c]) st [] := by
 have gx := z5 sim hx
 cases p with
 | int kd n => cases op <;> simp [un] at h; subst h; exact yB (u := .int kd (kd.wrap (0 - n))) sim (by simp [execOp, ho, gx.int, Op.unary, Op.intArith]) (zo.val (RepC.int _ _ _))
 | bool b => cases op <;> simp [un] at h; subst h; exact yB (u := .bool (!b)) sim (by simp [execOp, ho, gx.bool, Op.unary]) (zo.val (RepC.bool _ _))
 | _ => simp [un] at h
theorem RepC.plain {q q' : Option (List Nat)} {u : Value} {c : C} (h : RepC w cls hdr q u c) (hpl : plain c = true) : RepC w cls hdr q' u c := by
 cases h with
 | int => exact .int _ _ _
 | bool => exact .bool _ _
 | str _ _ _ h => exact .str _ _ _ h
 | nils => exact .nils _
 | raw _ _ h => exact .raw _ _ h
 | opq => exact .opq _ _ _
 | seq _ A n cap sz l us hn hc hs hcell hrep => exact .seq _ A n cap sz l us hn hc hs hcell hrep
 | own => simp [Am.plain] at hpl
 | nown => simp [Am.plain] at hpl
theorem E5 {g : Bool} {cs : List C} {v : V} (h : mk g cs = some v) : v = .val g cs ∧ (g = true ∨ cs.length = 1) := by
 unfold mk at h
 split at h
 ·simp at h; exact ⟨h.symm, .inl rfl⟩
 ·simp at h; exact ⟨h.symm, .inr rfl⟩
 ·cases h
theorem UD {i : TI} {P : Program} {t : TypeId} (ht : TypeOk P t i) {cs : List C} (h : mk i.agg cs = some v) (ad : Addr) (arr : List Value) (hl : cs.length = i.size)
  (hc : ∀ (j : Nat) u, arr[j]? = some u → w.cell? (ad.add j) = some u) (hr : All2 (zo w cls hdr vb st) arr cs) :
  ∃ u, (loadVar t ad).run P w = .ok u w ∧ yp w cls hdr vb st u v := by
 obtain ⟨rfl, hv⟩ := E5 h
 obtain ⟨u, h1, h2⟩ := Qr ht ad arr (hr.length.trans hl) hc (by rw [hr.length]; exact hv)
 exact ⟨u, h1, arr, hr, h2⟩
theorem PW (q : Addr) (i j : Nat) (h : q.spot = none) : (q.add i).add j = q.add (i + j) := by
 obtain ⟨b, o, s⟩ := q
 simp only at h
 subst h
 unfold Addr.add
 by_cases hi : i = 0 <;> by_cases hj : j = 0 <;> simp [hi, hj]
 ·omega
theorem Qt (q : Addr) (i : Nat) (h : q.spot = none) : q.add i = ⟨q.block, q.off + i, none⟩ := by
 obtain ⟨b, o, s⟩ := q
 simp only at h
 subst h
 unfold Addr.add
 split <;> simp_all
theorem qU {id sz : Nat} {l : List (List C)} (h : yd w cls hdr vb st id (.obj sz l)) : ∃ A n cap, hdr [id] = .slice A n cap ∧ n = l.length ∧ n <= cap ∧ (∀ e ∈ l, e.length = sz) ∧
  ((A = none ∧ n = 0 ∧ cap = 0) ∨ ∃ q arr, A = some q ∧ q.spot = none ∧ cls q.block = some [id] ∧ Blk sz w q.block arr ∧ q.off + cap * sz <= arr.size ∧
   ∀ (i : Nat) (e : List C), l[i]? = some e → ∃ us : List Value, us.length = sz ∧ (∀ (j : Nat) u, us[j]? = some u → arr[q.off + (i * sz + j)]? = some u) ∧
    ∀ (j : Nat) u c, us[j]? = some u → e[j]? = some c → RepC w cls hdr (some [id, i, j]) u c) := by
 have h : RepC w cls hdr (some [id]) (hdr [id]) (.own sz l) := h
 generalize hH : hdr [id] = H at h
 cases h with
 | nown => exact ⟨none, 0, 0, rfl, rfl, Nat.le_refl _, by simp, .inl ⟨rfl, rfl, rfl⟩⟩
 | own _ A n cap _ _ us hh hn hc hs hblk hrep =>
  refine ⟨A, n, cap, by rw [<- hh, hH], hn.symm, hc, hs, ?_⟩
  rcases hblk with h | ⟨q, arr, rfl, hsp, hcl, hB, hle, hcells⟩
  ·exact .inl h
  ·refine .inr ⟨q, arr, rfl, hsp, hcl, hB, hle, fun i e he => ⟨(List.range sz).map (us i), by simp, fun j u hu => ?_, fun j u c hu hc => ?_⟩⟩
   ·rw [List.getElem?_map] at hu
    obtain ⟨j', hj, rfl⟩ := Option.map_eq_some_iff.1 hu
    have hj' : j < sz := by
     have := List.getElem?_eq_some_iff.1 hj
     obtain ⟨h1, _⟩ := this
     simpa using h1
    rw [List.getElem?_range hj'] at hj
    injection hj with hj
    subst hj
    have : e.length = sz := hs e (List.mem_of_getElem? he)
    exact hcells i j e e[j] he (by simp)
   ·rw [List.getElem?_map] at hu
    obtain ⟨j', hj, rfl⟩ := Option.map_eq_some_iff.1 hu
    have hj' : j < sz := by
     obtain ⟨h1, _⟩ := List.getElem?_eq_some_iff.1 hj
     simpa using h1
    rw [List.getElem?_range hj'] at hj
    injection hj with hj
    subst hj
    exact hrep i j e c he hc
theorem MD (sim : ∀ id, yd w cls hdr vb st id (get st id)) {t : TypeId} {i : TI} (ht : TypeOk P t i) {u : Value} {p : C} (gx : zo w cls hdr vb st u p) (h : ZP prims ⟨sl, st, k⟩ i p = some v) :
  ∃ r, (Instr.loadAt t u).run P w = .ok r w ∧ yp w cls hdr vb st r v := by
 cases p with
 | ptr id off =>
  simp only [ZP] at h
  split at h
  ·rename_i cs hg
   split at h
   ·rename_i hle
    have hE := sim id
    rw [hg] at hE
    obtain ⟨hcl, arr, hB, hr⟩ := hE
    have hu := gx.2 cs hg
    obtain ⟨r, h1, h2⟩ := UD (st := st) (vb := vb) ht h ⟨vb id, off, none⟩ ((arr.drop off).take i.size) (by simp; omega) (fun j u hu => by
     have hj : j < i.size := by
      obtain ⟨h1, _⟩ := List.getElem?_eq_some_iff.1 hu
      simp at h1; omega
     rw [Blk.cell (a := ⟨vb id, off, none⟩) hB rfl]
     rw [List.getElem?_take_of_lt hj, List.getElem?_drop] at hu
     simpa using hu) ((hr.drop off).take i.size)
    exact ⟨r, by rw [hu]; simp [Instr.loadAt, Instr.sureAddr, h1], h2⟩
   ·cases h
  ·cases h
 | eptr id ei sz off =>
  simp only [ZP] at h
  cases hg : get st id with
  | var cs =>
   rw [hg] at h
   simp only [prims] at h
   split at h
   ·rename_i hle
    simp only [Option.bind_some] at h
    have hE := sim id
    rw [hg] at hE
    obtain ⟨hcl, arr, hB, hr⟩ := hE
    have hu := gx.2.2 cs hg
    obtain ⟨r, h1, h2⟩ := UD (st := st) (vb := vb) ht h ⟨vb id, ei * sz + off, none⟩ ((arr.drop (ei * sz + off)).take i.size) (by have := hr.length; simp; omega) (fun j u hu => by
     have hj : j < i.size := by
      obtain ⟨h1, _⟩ := List.getElem?_eq_some_iff.1 hu
      simp at h1; omega
     rw [Blk.cell (a := ⟨vb id, ei * sz + off, none⟩) hB rfl]
     rw [List.getElem?_take_of_lt hj, List.getElem?_drop] at hu
     simpa using hu) ((hr.drop (ei * sz + off)).take i.size)
    exact ⟨r, by rw [hu]; simp [Instr.loadAt, Instr.sureAddr, h1], h2⟩
   ·cases h
  | obj s0 l =>
   rw [hg] at h
   simp only [prims] at h
   split at h
   ·rename_i e he
    split at h
    ·rename_i hc
     obtain ⟨rfl, hel, hle⟩ := hc
     cases hp : ((e.drop off).take i.size).all plain with
     | false => rw [hp] at h; simp at h
     | true =>
      rw [hp] at h
      simp only [cond_true] at h
      have hE := sim id
      rw [hg] at hE
      obtain ⟨A, n, cap, hh, hn, hnc, hs, hb⟩ := qU hE
      have hlt : ei < l.length := (List.getElem?_eq_some_iff.1 he).1
      obtain ⟨q, n', cap', hh', hu⟩ := gx.2.1 l.length (by rw [hg]; rfl) hlt
      rcases hb with ⟨_, h0, _⟩ | ⟨q2, arr, rfl, hsp, hcl, hB, hle2, hcells⟩
      ·omega
      ·rw [hh] at hh'
       injection hh' with hq _ _
       injection hq with hq
       subst hq
       obtain ⟨us, hul, huc, hur⟩ := hcells ei e he
       obtain ⟨r, h1, h2⟩ := UD (st := st) (vb := vb) (cls := cls) (hdr := hdr) ht h ⟨q2.block, q2.off + (ei * s0 + off), none⟩ ((us.drop off).take i.size) (by simp; omega) (fun j u hu => by
        have hj : j < i.size := by
         obtain ⟨h1, _⟩ := List.getElem?_eq_some_iff.1 hu
         simp at h1; omega
        rw [Blk.cell (a := ⟨q2.block, _, none⟩) hB rfl]
        rw [List.getElem?_take_of_lt hj, List.getElem?_drop] at hu
        have := huc _ _ hu
        rw [<- this]; congr 1; simp only; omega) (All2.of_get (by simp; omega) fun j u c hu hc => by
         have hpl : plain c = true := List.all_eq_true.1 hp c (List.mem_of_getElem? hc)
         have hj : j < i.size := by
          obtain ⟨h1, _⟩ := List.getElem?_eq_some_iff.1 hu
          simp at h1; omega
         rw [List.getElem?_take_of_lt hj, List.getElem?_drop] at hu hc
         exact zo.of ((hur _ u c hu hc).plain hpl) hpl)
       exact ⟨r, by rw [hu]; simp [Instr.loadAt, Instr.sureAddr, h1], h2⟩
    ·cases h
   ·cases h
  | _ => rw [hg] at h; simp at h
 | rptr cs =>
  simp only [ZP] at h
  split at h
  ·rename_i hle
   obtain ⟨q, hq, hcs⟩ := gx
   have hx : ∃ arr : List Value, arr.length = cs.length ∧ ∀ (j : Nat) u c, arr[j]? = some u → cs[j]? = some c → w.cell? (q.add j) = some u ∧ RepC w cls hdr none u c := by
    clear h hle hq
    refine ⟨(List.range cs.length).map fun j => (w.cell? (q.add j)).getD undef, by simp, fun j u c hu hc => ?_⟩
    obtain ⟨v, _, hv, hr⟩ := hcs j c hc
    have hj : j < cs.length := (List.getElem?_eq_some_iff.1 hc).1
    rw [List.getElem?_map, List.getElem?_range hj] at hu
    simp [hv] at hu
    subst hu
    exact ⟨hv, hr⟩
   obtain ⟨arr, hal, har⟩ := hx
   obtain ⟨r, h1, h2⟩ := UD (st := st) (vb := vb) (cls := cls) (hdr := hdr) ht h q (arr.take i.size) (by simp; omega) (fun j u hu => by
     have hj : j < i.size := by
      obtain ⟨h1, _⟩ := List.getElem?_eq_some_iff.1 hu
      simp at h1; omega
     rw [List.getElem?_take_of_lt hj] at hu
     have hj2 : j < cs.length := by omega
     exact (har j u cs[j] hu (by simp)).1) (All2.of_get (by simp; omega) fun j u c hu hc => by
     have hj : j < i.size := by
      obtain ⟨h1, _⟩ := List.getElem?_eq_some_iff.1 hu
      simp at h1; omega
     rw [List.getElem?_take_of_lt hj] at hu hc
     have hr := (har j u c hu hc).2
     have hpl : plain c = true := by cases hr <;> rfl
     exact zo.of hr hpl)
   exact ⟨r, by rw [hq]; simp [Instr.loadAt, Instr.sureAddr, h1], h2⟩
  ·cases h
 | _ => simp [ZP] at h
theorem zbs (T : TOk P cfg) (sim : Sim w cls hdr vb st sl a.tmps) {t : TypeId} {x : Operand} {i : TI} {p : C} (ho : o.op = .load t x) (hi : cfg.T t = some i) (hx : zq ⟨sl, st, k⟩ x = some p)
  (h : ZP prims ⟨sl, st, k⟩ i p = some v) : yr P a o w cls hdr vb st nid v st [] := by
 obtain ⟨r, h1, h2⟩ := MD sim.ent (T t i hi) (z5 sim hx) h
 exact yB (u := r) sim (by simp [execOp, ho, h1]) h2
theorem W8 (T : TOk P cfg) (sim : Sim w cls hdr vb st sl a.tmps) {t : TypeId} {x : Operand} {f : Nat} {i : TI} {fs : List (Nat × TypeId)} {off : Nat} {ft : TypeId} {p c : C}
  (ho : o.op = .fieldAddr t x f) (hi : cfg.T t = some i) (hd : i.d = .struct fs) (hf : fs[f]? = some (off, ft)) (hz : sizeOf? cfg ft ≠ 0) (hx : zq ⟨sl, st, k⟩ x = some p)
  (hc : (∃ id q, p = .ptr id q ∧ c = .ptr id (q + off)) ∨ (∃ id j sz q, p = .eptr id j sz q ∧ c = .eptr id j sz (q + off)) ∨ (∃ cs n, p = .rptr cs ∧ off < cs.length ∧ c = .rptr ((cs.drop off).take n))) :
  yr P a o w cls hdr vb st nid (.val false [c]) st [] := by
 have gx := z5 sim hx
 obtain ⟨d, hu, _, hfl⟩ := (T t i hi).und
 rw [hd] at hfl
 obtain ⟨fl, rfl, hfl⟩ := hfl
 have hfld : ∃ g : Field, fl[f]? = some g ∧ g.offset = off ∧ g.type = ft := by
  rw [<- hfl, List.getElem?_map] at hf
  obtain ⟨g, hg, he⟩ := Option.map_eq_some_iff.1 hf
  injection he with e1 e2
  exact ⟨g, by rw [<- Array.getElem?_toList]; exact hg, e1, e2⟩
 obtain ⟨g, hg, rfl, rfl⟩ := hfld
 have hsz : ∀ w, ∃ n, (sizeOf g.type).run P w = .ok n w ∧ n ≠ 0 := by
  intro w
  unfold sizeOf? at hz
  cases h : cfg.T g.type with
  | none => rw [h] at hz; simp at hz
  | some j => rw [h] at hz; exact ⟨j.size, (T g.type j h).size w, by simpa using hz⟩
 obtain ⟨n, hn, hn0⟩ := hsz w
 have hrun : ∀ q : Addr, a.eval x = .pointer (some q) → (execOp a.eval o).run P w = .ok (.value (.pointer (some (q.add g.offset)))) w := by
  intro q hq
  simp [execOp, ho, hq, Instr.fieldAt, zP hu, hg, Instr.sureAddr, fieldPlace, hn, hn0]
 rcases hc with ⟨id, q, rfl, rfl⟩ | ⟨id, j, sz, q, rfl, rfl⟩ | ⟨cs, nn, rfl, hlt, rfl⟩
 ·obtain ⟨⟨ad, had⟩, h2⟩ := gx
  refine yB (u := .pointer (some (ad.add g.offset))) sim (hrun ad had) (zo.val ⟨⟨_, rfl⟩, fun cs hcs => ?_⟩)
  have := h2 cs hcs
  rw [had] at this
  injection this with this
  injection this with this
  rw [this, Qt _ _ rfl]
 ·obtain ⟨⟨ad, had⟩, h2, h3⟩ := gx
  refine yB (u := .pointer (some (ad.add g.offset))) sim (hrun ad had) (zo.val ⟨⟨_, rfl⟩, fun l hl hj => ?_, fun cs hcs => ?_⟩)
  ·obtain ⟨b, m, cap, hh, hb⟩ := h2 l hl hj
   rw [had] at hb
   injection hb with hb
   injection hb with hb
   refine ⟨b, m, cap, hh, ?_⟩
   rw [hb, Qt _ _ rfl]
   simp only [Nat.add_assoc]
  ·have hb := h3 cs hcs
   rw [had] at hb
   injection hb with hb
   injection hb with hb
   rw [hb, Qt _ _ rfl]
   simp only [Nat.add_assoc]
 ·obtain ⟨ad, had, h2⟩ := gx
  have hsp : ad.spot = none := by
   obtain ⟨v, _, hv, _⟩ := h2 0 _ (List.getElem?_eq_getElem (by omega))
   simp only [Addr.add, if_true] at hv
   unfold World.cell? at hv
   split at hv
   ·split at hv
    ·cases hv
    ·rename_i hs; simpa using hs
   ·cases hv
  refine yB (u := .pointer (some (ad.add g.offset))) sim (hrun ad had) (zo.val ⟨_, rfl, fun j c hj => ?_⟩)
  rw [List.getElem?_take] at hj
  split at hj
  case isFalse => cases hj
  rw [List.getElem?_drop] at hj
  obtain ⟨v, h3, h4, h5⟩ := h2 _ c hj
  exact ⟨v, by rw [qT]; exact h3, by rw [PW _ _ _ hsp]; exact h4, h5⟩
end
end Go.Am
/- Operations that only read: elements, cuts, lengths, conversions. -/
namespace Go.Am
section
variable {P : Program} {cfg : Cfg} {a : Act} {o : Oper} {w : World} {cls : Cls} {hdr : Hdr} {vb : Nat → Nat} {st : List Entry} {sl : List (Nat × V)} {k nid : Nat} {v : V}
theorem XI (T : TOk P cfg) {e : TypeId} (h : 0 < sizeOf? cfg e) (w : World) : (sizeOf e).run P w = .ok (sizeOf? cfg e) w := by
 unfold sizeOf? at h ⊢
 cases ht : cfg.T e with
 | none => rw [ht] at h; simp at h
 | some i => exact (T e i ht).size w
theorem J7 {c : C} {i : Nat} (h : ZM prims c = some i) : ∃ kd, c = .int kd (i : Int) := by
 cases c with
 | int kd n =>
  simp only [ZM, prims] at h
  split at h
  ·injection h with h
   exact ⟨kd, by congr 1; omega⟩
  ·cases h
 | _ => simp [ZM] at h
theorem XJ {u : Value} {l : List (List C)} (h : zo w cls hdr vb st u (.seq l)) : ∃ (A : Option Addr) (cap sz : Nat), u = .slice A l.length cap ∧ l.length <= cap ∧ (∀ e ∈ l, e.length = sz) ∧
  ∀ i j e c, l[i]? = some e → e[j]? = some c → ∃ q, A = some q ∧ q.spot = none ∧ cls q.block = none ∧ ∃ v, w.cell? (q.add (i * sz + j)) = some v ∧ RepC w cls hdr none v c := by
 have h : RepC w cls hdr none u (.seq l) := h
 cases h with
 | seq _ A n cap sz _ us hn hc hs hcell hrep =>
  subst hn
  refine ⟨A, cap, sz, rfl, hc, hs, fun i j e c h1 h2 => ?_⟩
  obtain ⟨q, hq, hb, hv⟩ := hcell i j e c h1 h2
  obtain ⟨e0, h0⟩ : ∃ e0, l[0]? = some e0 := by
   have : i < l.length := (List.getElem?_eq_some_iff.1 h1).1
   exact ⟨l[0], by simp⟩
  have hj : j < e.length := (List.getElem?_eq_some_iff.1 h2).1
  have he0 : e0.length = sz := hs e0 (List.mem_of_getElem? h0)
  have he : e.length = sz := hs e (List.mem_of_getElem? h1)
  obtain ⟨q', hq', _, hv'⟩ := hcell 0 0 e0 e0[0] h0 (by simp)
  rw [hq] at hq'
  injection hq' with hq'
  subst hq'
  refine ⟨q, hq, ?_, hb, _, hv, hrep i j e c h1 h2⟩
  simp only [Nat.zero_mul, Nat.zero_add, Addr.add, if_true] at hv'
  unfold World.cell? at hv'
  split at hv'
  ·split at hv'
   ·cases hv'
   ·rename_i hs; simpa using hs
  ·cases hv'
theorem ME (T : TOk P cfg) (sim : Sim w cls hdr vb st sl a.tmps) {t e : TypeId} {x y : Operand} {l : List (List C)} {cy : C} {i : Nat} {q : List C} (ho : o.op = .indexAddr t x y) (ht : zy cfg t = .slice e)
  (hx : zq ⟨sl, st, k⟩ x = some (.seq l)) (hy : zq ⟨sl, st, k⟩ y = some cy) (hi : ZM prims cy = some i) (hl : l[i]? = some q) (hq : q.length = sizeOf? cfg e) (hp : 0 < q.length) :
  yr P a o w cls hdr vb st nid (.val false [.rptr q]) st [] := by
 obtain ⟨kd, rfl⟩ := J7 hi
 have gx := z5 sim hx
 have gy := (z5 sim hy).int
 obtain ⟨d, hd, rfl⟩ := yy T ht (by simp)
 obtain ⟨A, cap, sz, hu, hc, hs, hcells⟩ := XJ gx
 have hlt : i < l.length := (List.getElem?_eq_some_iff.1 hl).1
 have hsz : q.length = sz := hs q (List.mem_of_getElem? hl)
 obtain ⟨ad, rfl, hsp, hcl, _⟩ := hcells i 0 q q[0] hl (by simp)
 refine yB (u := .pointer (some (ad.add (i * sz)))) sim ?_ (zo.val ⟨_, rfl, fun j c hj => ?_⟩)
 ·have hsize := XI T (hq ▸ hp) w
  rw [<- hq, hsz] at hsize
  simp [execOp, ho, hu, gy, Instr.indexAt, asIntOf, zP hd, hlt, hsize]
 ·obtain ⟨ad', h1, _, h2, v, h3, h4⟩ := hcells i j q c hl hj
  injection h1 with h1
  subst h1
  exact ⟨v, by rw [qT]; exact h2, by rw [PW _ _ _ hsp]; exact h3, h4⟩
theorem MF (T : TOk P cfg) (sim : Sim w cls hdr vb st sl a.tmps) {t e : TypeId} {x y : Operand} {id sz : Nat} {l : List (List C)} {cy : C} {i : Nat} {q : List C} (ho : o.op = .indexAddr t x y) (ht : zy cfg t = .slice e)
  (hx : zq ⟨sl, st, k⟩ x = some (.ref id)) (hg : get st id = .obj sz l) (hy : zq ⟨sl, st, k⟩ y = some cy) (hi : ZM prims cy = some i) (hl : l[i]? = some q) (hq : sz = sizeOf? cfg e) (hp : 0 < sz) :
  yr P a o w cls hdr vb st nid (.val false [.eptr id i sz 0]) st [] := by
 obtain ⟨kd, rfl⟩ := J7 hi
 have gx := (z5 sim hx).2 (sz, l.length) (by rw [hg]; rfl)
 have gy := (z5 sim hy).int
 obtain ⟨d, hd, rfl⟩ := yy T ht (by simp)
 have hE := sim.ent id
 rw [hg] at hE
 obtain ⟨A, n, cap, hh, hn, hnc, hs, hb⟩ := qU hE
 have hlt : i < l.length := (List.getElem?_eq_some_iff.1 hl).1
 rcases hb with ⟨_, h0, _⟩ | ⟨ad, arr, rfl, hsp, hcl, hB, hle, _⟩
 ·omega
 ·rw [hh] at gx
  subst hn
  refine yB (u := .pointer (some (ad.add (i * sz)))) sim ?_ (zo.val ⟨⟨_, rfl⟩, fun l' hl' _ => ?_, fun cs hcs => by rw [hg] at hcs; cases hcs⟩)
  ·have hsize := XI T (hq ▸ hp) w
   rw [<- hq] at hsize
   simp [execOp, ho, gx, gy, Instr.indexAt, asIntOf, zP hd, hlt, hsize]
  ·exact ⟨ad, _, _, hh, by rw [Qt _ _ hsp]; rfl⟩
theorem MG (T : TOk P cfg) (sim : Sim w cls hdr vb st sl a.tmps) {t e : TypeId} {x y : Operand} {id off n : Nat} {cy : C} {i : Nat} (ho : o.op = .indexAddr t x y) (ht : zy cfg t = .array n e)
  (hx : zq ⟨sl, st, k⟩ x = some (.ptr id off)) (hoff : off = 0) (hnv : ∃ cs, get st id = .var cs) (hy : zq ⟨sl, st, k⟩ y = some cy) (hi : ZM prims cy = some i) (hl : i < n) (hp : 0 < sizeOf? cfg e) :
  yr P a o w cls hdr vb st nid (.val false [.eptr id i (sizeOf? cfg e) 0]) st [] := by
 subst hoff
 obtain ⟨kd, rfl⟩ := J7 hi
 obtain ⟨⟨ad, had⟩, h2⟩ := z5 sim hx
 have gy := (z5 sim hy).int
 obtain ⟨d, hd, rfl⟩ := yy T ht (by simp)
 refine yB (u := .pointer (some (ad.add (i * sizeOf? cfg e)))) sim ?_ (zo.val ⟨⟨_, rfl⟩, fun m hm _ => ?_, fun cs hcs => ?_⟩)
 ·simp [execOp, ho, had, gy, Instr.indexAt, asIntOf, zP hd, hl, Instr.sureAddr, XI T hp w]
 ·obtain ⟨cs, hcs⟩ := hnv
  rw [hcs] at hm; cases hm
 ·have := h2 cs hcs
  rw [had] at this
  injection this with this
  injection this with this
  rw [this, Qt _ _ rfl]
  simp
theorem GN {t : TypeId} {i : TI} (ht : TypeOk P t i) {cs : List C} {arr : List Value} (hr : All2 (zo w cls hdr vb st) arr cs) (off : Nat) (hle : off + i.size <= cs.length) (h : mk i.agg ((cs.drop off).take i.size) = some v) :
  ∃ u, (part t arr.toArray off).run P w = .ok u w ∧ yp w cls hdr vb st u v := by
 obtain ⟨rfl, hv⟩ := E5 h
 have hr' := (hr.drop off).take i.size
 have hlen := hr.length
 cases hg : i.agg with
 | true =>
  refine ⟨.agg ((arr.drop off).take i.size).toArray, ?_, _, hr', rfl⟩
  simp only [part, Sem.run_bind, ht.isAgg, hg, Result.andThen_ok, if_true, ht.size, Sem.run_pure]
  congr 2
  apply Array.ext'
  simp [List.take_drop]
 | false =>
  have h1 : i.size = 1 := by
   rcases hv with hv | hv
   ·rw [hg] at hv; cases hv
   ·simp at hv; omega
  have hlt : off < arr.length := by omega
  refine ⟨arr[off], ?_, _, hr', ?_⟩
  ·simp only [part, Sem.run_bind, ht.isAgg, hg, Result.andThen_ok]
   simp [hlt]
  ·simp only [Bool.false_eq_true, if_false]
   rw [h1, List.drop_eq_getElem_cons hlt]
   rfl
theorem Ba (T : TOk P cfg) (sim : Sim w cls hdr vb st sl a.tmps) {t : TypeId} {x : Operand} {f : Nat} {i j : TI} {fs : List (Nat × TypeId)} {off : Nat} {ft : TypeId} {cs : List C}
  (ho : o.op = .field t x f) (hi : cfg.T t = some i) (hd : i.d = .struct fs) (hf : fs[f]? = some (off, ft)) (hj : cfg.T ft = some j) (hx : S.ev ⟨sl, st, k⟩ x = .val true cs) (hle : off + j.size <= cs.length)
  (h : mk j.agg ((cs.drop off).take j.size) = some v) : yr P a o w cls hdr vb st nid v st [] := by
 have gx := w7 (k := k) sim x
 rw [hx] at gx
 obtain ⟨arr, hr, hu⟩ := gx
 simp only [if_true] at hu
 obtain ⟨d, hund, _, hfl⟩ := (T t i hi).und
 rw [hd] at hfl
 obtain ⟨fl, rfl, hfl⟩ := hfl
 have hfld : ∃ g : Field, fl[f]? = some g ∧ g.offset = off ∧ g.type = ft := by
  rw [<- hfl, List.getElem?_map] at hf
  obtain ⟨g, hg, he⟩ := Option.map_eq_some_iff.1 hf
  injection he with e1 e2
  exact ⟨g, by rw [<- Array.getElem?_toList]; exact hg, e1, e2⟩
 obtain ⟨g, hg, rfl, rfl⟩ := hfld
 obtain ⟨u, h1, h2⟩ := GN (T _ _ hj) hr _ hle h
 exact yB (u := u) sim (by simp [execOp, ho, hu, Instr.field, zP hund, hg, asAgg, h1]) h2
theorem Hw (sim : Sim w cls hdr vb st sl a.tmps) {x : Operand} {i : Nat} {vs : List (Bool × List C)} {g : Bool} {cs : List C} (ho : o.op = .extract x i) (hx : S.ev ⟨sl, st, k⟩ x = .tup vs) (hi : vs[i]? = some (g, cs)) :
  yr P a o w cls hdr vb st nid (.val g cs) st [] := by
 have gx := w7 (k := k) sim x
 rw [hx] at gx
 obtain ⟨us, hu, hr⟩ := gx
 obtain ⟨u, h1, h2⟩ := hr.get hi
 exact yB (u := u) sim (by simp [execOp, ho, hu, Instr.extract, h1]) h2
theorem MH (T : TOk P cfg) (sim : Sim w cls hdr vb st sl a.tmps) {t : TypeId} {x y : Operand} {l : List UInt8} {cy : C} {i : Nat} {b : UInt8} (ho : o.op = .index t x y) (ht : zy cfg t = .string)
  (hx : S.ev ⟨sl, st, k⟩ x = .val false [.str l]) (hy : zq ⟨sl, st, k⟩ y = some cy) (hi : ZM prims cy = some i) (hl : l[i]? = some b) :
  yr P a o w cls hdr vb st nid (.val false [.int .u8 (b.toNat : Int)]) st [] := by
 obtain ⟨kd, rfl⟩ := J7 hi
 have gx := w7 (k := k) sim x
 rw [hx] at gx
 have gx := gx.one.str
 have gy := (z5 sim hy).int
 obtain ⟨d, hd, rfl⟩ := yy T ht (by simp)
 have hb : (⟨l.toArray⟩ : ByteArray)[i]? = some b := by
  obtain ⟨h1, h2⟩ := List.getElem?_eq_some_iff.1 hl
  have : i < (⟨l.toArray⟩ : ByteArray).size := by simpa [ByteArray.size] using h1
  rw [getElem?_pos (⟨l.toArray⟩ : ByteArray) i this]
  congr 1
 exact yB (u := .int .u8 (b.toNat : Int)) sim (by simp [execOp, ho, gx, gy, Instr.index, asIntOf, zP hd, hb]) (zo.val (RepC.int _ _ _))
theorem MI (T : TOk P cfg) (sim : Sim w cls hdr vb st sl a.tmps) {t e : TypeId} {x y : Operand} {n : Nat} {cs : List C} {cy : C} {i : Nat} {te : TI} (ho : o.op = .index t x y) (ht : zy cfg t = .array n e) (he : cfg.T e = some te)
  (hx : S.ev ⟨sl, st, k⟩ x = .val true cs) (hy : zq ⟨sl, st, k⟩ y = some cy) (hi : ZM prims cy = some i) (hl : i < n) (hle : i * te.size + te.size <= cs.length)
  (h : mk te.agg ((cs.drop (i * te.size)).take te.size) = some v) : yr P a o w cls hdr vb st nid v st [] := by
 obtain ⟨kd, rfl⟩ := J7 hi
 have gx := w7 (k := k) sim x
 rw [hx] at gx
 obtain ⟨arr, hr, hu⟩ := gx
 simp only [if_true] at hu
 have gy := (z5 sim hy).int
 obtain ⟨d, hd, rfl⟩ := yy T ht (by simp)
 obtain ⟨u, h1, h2⟩ := GN (T _ _ he) hr _ hle h
 exact yB (u := u) sim (by simp [execOp, ho, hu, gy, Instr.index, asIntOf, zP hd, hl, (T e te he).size, h1]) h2
end
end Go.Am
/- The rest of the operations that only read: cuts, conversions, lengths, function values, structs put together. -/
namespace Go.Am
section
variable {P : Program} {cfg : Cfg} {a : Act} {o : Oper} {w : World} {cls : Cls} {hdr : Hdr} {vb : Nat → Nat} {st : List Entry} {sl : List (Nat × V)} {k nid : Nat} {v : V}
theorem vk (sim : Sim w cls hdr vb st sl a.tmps) {x : Option Operand} {r : Option Nat} (h : j6 prims ⟨sl, st, k⟩ x = some r) :
  (x.map a.eval = none ∧ r = none) ∨ ∃ kd i, x.map a.eval = some (.int kd ((i : Nat) : Int)) ∧ r = some i := by
 cases x with
 | none => simp [j6] at h; exact .inl ⟨rfl, h.symm⟩
 | some x =>
  simp only [j6] at h
  obtain ⟨c, h1, h2⟩ := Option.bind_eq_some_iff.1 h
  obtain ⟨i, h3, rfl⟩ := Option.map_eq_some_iff.1 h2
  obtain ⟨kd, rfl⟩ := J7 h3
  exact .inr ⟨kd, i, by simp [(z5 sim h1).int], rfl⟩
theorem QU {b : Bool} {n cap : Nat} {lo hi : Option Value} {l h : Option Nat} {p q : Nat}
  (h1 : (lo = none ∧ l = none) ∨ ∃ kd i, lo = some (.int kd ((i : Nat) : Int)) ∧ l = some i) (h2 : (hi = none ∧ h = none) ∨ ∃ kd i, hi = some (.int kd ((i : Nat) : Int)) ∧ h = some i)
  (hb : Wd l h n = some (p, q)) (hc : n <= cap) : (Instr.sliceBounds b n cap lo hi none).run P w = .ok (p, q, cap) w ∧ p <= q ∧ q <= n := by
 unfold Wd at hb
 split at hb
 ·rename_i hle
  simp only [Option.some.injEq, Prod.mk.injEq] at hb
  obtain ⟨rfl, rfl⟩ := hb
  rcases h1 with ⟨rfl, rfl⟩ | ⟨kd, i, rfl, rfl⟩ <;> rcases h2 with ⟨rfl, rfl⟩ | ⟨kd', j, rfl, rfl⟩ <;> simp only [Option.getD_none, Option.getD_some] at hle ⊢
  ·exact ⟨by simp [Instr.sliceBounds], hle⟩
  ·have : j <= cap := by omega
   exact ⟨by simp [Instr.sliceBounds, Instr.sliceBound, asIntOf, this], hle⟩
  ·exact ⟨by simp [Instr.sliceBounds, Instr.sliceBound, asIntOf, hle.1], hle⟩
  ·have : j <= cap := by omega
   exact ⟨by simp [Instr.sliceBounds, Instr.sliceBound, asIntOf, this, hle.1], hle⟩
 ·cases hb
theorem MJ {l : List (List C)} {lo hi : Option Nat} {b : List (List C)} (h : prims.cut l lo hi = some b) : ∃ p q, Wd lo hi l.length = some (p, q) ∧ b = (l.take q).drop p := by
 simp only [prims] at h
 obtain ⟨⟨p, q⟩, h1, h2⟩ := Option.map_eq_some_iff.1 h
 exact ⟨p, q, h1, h2.symm⟩
theorem Hx (T : TOk P cfg) (sim : Sim w cls hdr vb st sl a.tmps) {t : TypeId} {x : Operand} {lo hi : Option Operand} {q b : List UInt8} {l h : Option Nat} (ho : o.op = .slice t x lo hi none) (ht : zy cfg t = .string)
  (hx : zq ⟨sl, st, k⟩ x = some (.str q)) (hl : j6 prims ⟨sl, st, k⟩ lo = some l) (hh : j6 prims ⟨sl, st, k⟩ hi = some h) (hb : prims.cutS q l h = some b) :
  yr P a o w cls hdr vb st nid (.val false [.str b]) st [] := by
 have gx := (z5 sim hx).str
 obtain ⟨d, hd, rfl⟩ := yy T ht (by simp)
 simp only [prims] at hb
 obtain ⟨⟨p, r⟩, h1, h2⟩ := Option.map_eq_some_iff.1 hb
 have hsz : (⟨q.toArray⟩ : ByteArray).size = q.length := by simp [ByteArray.size]
 obtain ⟨h3, _, _⟩ := QU (P := P) (w := w) (b := false) (vk sim hl) (vk sim hh) h1 (Nat.le_refl _)
 refine yB (u := .string ((⟨q.toArray⟩ : ByteArray).extract p r)) sim ?_ (zo.val (RepC.str _ _ _ ?_))
 ·simp [execOp, ho, gx, Instr.sliceAt, zP hd, Instr.slice, hsz, h3]
 ·apply ByteArray.ext
  rw [ByteArray.data_extract, <- h2]
  apply Array.ext'
  simp [List.drop_take]
theorem Hy (T : TOk P cfg) (sim : Sim w cls hdr vb st sl a.tmps) {t e : TypeId} {x : Operand} {lo hi : Option Operand} {b : List (List C)} {l h : Option Nat} (ho : o.op = .slice t x lo hi none) (ht : zy cfg t = .slice e)
  (hx : zq ⟨sl, st, k⟩ x = some .nils) (hl : j6 prims ⟨sl, st, k⟩ lo = some l) (hh : j6 prims ⟨sl, st, k⟩ hi = some h) (hb : prims.cut [] l h = some b) (hz : 0 < sizeOf? cfg e) :
  yr P a o w cls hdr vb st nid (.val false [.nils]) st [] := by
 have gx := (z5 sim hx).nils
 obtain ⟨d, hd, rfl⟩ := yy T ht (by simp)
 obtain ⟨p, q, h1, _⟩ := MJ hb
 obtain ⟨h3, h4, h5⟩ := QU (P := P) (w := w) (b := true) (vk sim hl) (vk sim hh) h1 (Nat.le_refl _)
 simp only [List.length_nil, Nat.le_zero] at h5
 subst h5
 simp only [Nat.le_zero] at h4
 subst h4
 refine yB (u := .slice none 0 0) sim ?_ (zo.val (RepC.nils _))
 simp only [List.length_nil] at h3
 simp [execOp, ho, gx, Instr.sliceAt, zP hd, Instr.slice, h3, XI T hz]
theorem Hz (T : TOk P cfg) (sim : Sim w cls hdr vb st sl a.tmps) {t e : TypeId} {x : Operand} {lo hi : Option Operand} {q b : List (List C)} {l h : Option Nat} (ho : o.op = .slice t x lo hi none) (ht : zy cfg t = .slice e)
  (hx : zq ⟨sl, st, k⟩ x = some (.seq q)) (hl : j6 prims ⟨sl, st, k⟩ lo = some l) (hh : j6 prims ⟨sl, st, k⟩ hi = some h) (hb : prims.cut q l h = some b) (hu : prims.uni (sizeOf? cfg e) q = true) (hz : 0 < sizeOf? cfg e) :
  yr P a o w cls hdr vb st nid (.val false [.seq b]) st [] := by
 obtain ⟨A, cap, sz, gx, hc, hs, hcells⟩ := XJ (z5 sim hx)
 obtain ⟨d, hd, rfl⟩ := yy T ht (by simp)
 obtain ⟨p, r, h1, rfl⟩ := MJ hb
 obtain ⟨h3, h4, h5⟩ := QU (P := P) (w := w) (b := true) (vk sim hl) (vk sim hh) h1 hc
 have hu : ∀ e' ∈ q, e'.length = sizeOf? cfg e := by
  simp only [prims, List.all_eq_true, beq_iff_eq] at hu
  exact hu
 refine yB (u := .slice (if cap = p then A else A.map (·.add (p * sizeOf? cfg e))) (r - p) (cap - p)) sim ?_ (zo.val ?_)
 ·simp [execOp, ho, gx, Instr.sliceAt, zP hd, Instr.slice, h3, XI T hz]
 ·show RepC w cls hdr none _ (.seq _)
  have hget : ∀ (i : Nat) e', ((q.take r).drop p)[i]? = some e' → q[p + i]? = some e' := by
   intro i e' h
   rw [List.getElem?_drop] at h
   rw [List.getElem?_take] at h
   split at h
   ·exact h
   ·cases h
  by_cases hne : ∃ e', ((q.take r).drop p)[0]? = some e'
  ·obtain ⟨e0, he0⟩ := hne
   have hq0 := hget 0 e0 he0
   have hmem : e0 ∈ q := List.mem_of_getElem? hq0
   have hsz : sz = sizeOf? cfg e := by rw [<- hs e0 hmem, hu e0 hmem]
   have hlt : p < q.length := by
    obtain ⟨h, _⟩ := List.getElem?_eq_some_iff.1 hq0
    omega
   rw [if_neg (by omega)]
   have hA : ∀ i j e' c, ((q.take r).drop p)[i]? = some e' → e'[j]? = some c → ∃ z, A = some z ∧ z.spot = none ∧ cls z.block = none ∧ ∃ v, w.cell? (z.add ((p + i) * sz + j)) = some v ∧ RepC w cls hdr none v c :=
    fun i j e' c hi hj => hcells (p + i) j e' c (hget i e' hi) hj
   refine RepC.seq _ _ _ _ sz _ (fun i j => match A with | some z => (w.cell? (z.add ((p + i) * sz + j))).getD undef | none => undef) (by simp; omega) (by omega) (fun e' he' => ?_) (fun i j e' c hi hj => ?_) (fun i j e' c hi hj => ?_)
   ·exact hs e' (List.mem_of_mem_take (List.mem_of_mem_drop he'))
   ·obtain ⟨z, rfl, hsp, hcl, v, hv, _⟩ := hA i j e' c hi hj
    refine ⟨z.add (p * sizeOf? cfg e), rfl, by rw [qT]; exact hcl, ?_⟩
    rw [PW _ _ _ hsp, <- hsz]
    have : p * sz + (i * sz + j) = (p + i) * sz + j := by rw [Nat.add_mul]; omega
    rw [this]
    simp [hv]
   ·obtain ⟨z, rfl, hsp, hcl, v, hv, hr⟩ := hA i j e' c hi hj
    simpa [hv] using hr
  ·have hnil : (q.take r).drop p = [] := by
    cases hx : (q.take r).drop p with
    | nil => rfl
    | cons y ys => rw [hx] at hne; exact (hne ⟨y, rfl⟩).elim
   have hlen : r - p = 0 := by
    have := congrArg List.length hnil
    simp at this; omega
   rw [hnil]
   exact RepC.seq _ _ _ _ 0 [] (fun _ _ => undef) (by simp [hlen]) (by omega) (by simp) (by simp) (by simp)
theorem UE (T : TOk P cfg) (sim : Sim w cls hdr vb st sl a.tmps) {ts : Array TypeId} {x : Operand} {t e : TypeId} {n : Nat} (ho : o.op = .call ⟨.builtin .len, #[x], ts⟩) (hts : ts[0]? = some t)
  (hx : (∃ A cap, a.eval x = .slice A n cap) ∧ zy cfg t = .slice e ∨ (∃ s, a.eval x = .string s ∧ s.size = n) ∧ zy cfg t = .string) :
  yr P a o w cls hdr vb st nid (.val false [.int .i64 n]) st [] := by
 rcases hx with ⟨⟨A, cap, hx⟩, ht⟩ | ⟨⟨s, hx, hn⟩, ht⟩
 ·obtain ⟨d, hd, rfl⟩ := yy T ht (by simp)
  exact yB (u := .int .i64 n) sim (by simp [execOp, ho, resolve, invoke, builtin, Builtin.len_, hts, hx, zP hd, goInt]) (zo.val (RepC.int _ _ _))
 ·obtain ⟨d, hd, rfl⟩ := yy T ht (by simp)
  exact yB (u := .int .i64 n) sim (by simp [execOp, ho, resolve, invoke, builtin, Builtin.len_, hts, hx, zP hd, goInt, hn]) (zo.val (RepC.int _ _ _))
theorem Gv (sim : Sim w cls hdr vb st sl a.tmps) {f : FuncId} {xs : Array Operand} {cs : List C} (ho : o.op = .makeFunc (.func f) #[] xs) (h : (xs.toList.map (S.ev ⟨sl, st, k⟩)).mapM V.one = some cs)
  (hs : ∀ c ∈ cs, ∀ f cs', c ≠ .fn f cs') : yr P a o w cls hdr vb st nid (.val false [.fn f cs]) st [] := by
 have key : ∀ (ys : List Operand) (cs : List C), (ys.map (S.ev ⟨sl, st, k⟩)).mapM V.one = some cs → (∀ c ∈ cs, ∀ f cs', c ≠ .fn f cs') → All2 (YQ w cls hdr vb st) (ys.map a.eval) cs := by
  intro ys
  induction ys with
  | nil => intro cs h _; simp at h; subst h; exact .nil
  | cons y ys ih =>
   intro cs h hs
   simp only [List.map_cons, List.mapM_cons] at h
   obtain ⟨c, h1, h2⟩ := Option.bind_eq_some_iff.1 h
   obtain ⟨cs', h3, h4⟩ := Option.bind_eq_some_iff.1 h2
   simp at h4
   subst h4
   have := z5 (k := k) sim (x := y) (c := c) h1
   rw [V4 (hs c (by simp))] at this
   exact .cons this (ih cs' h3 fun c hc => hs c (List.mem_cons_of_mem _ hc))
 refine yB (u := .func (.func f) #[] (xs.map a.eval)) sim (by simp [execOp, ho, Instr.makeFunc]) (zo.val ⟨xs.toList.map a.eval, by congr 1; apply Array.ext'; simp, key _ _ h hs⟩)
end
end Go.Am
/- Conversions, max and min, structs put together. -/
namespace Go.Am
section
variable {P : Program} {cfg : Cfg} {a : Act} {o : Oper} {w : World} {cls : Cls} {hdr : Hdr} {vb : Nat → Nat} {st : List Entry} {sl : List (Nat × V)} {k nid : Nat} {v : V}
theorem Gw (T : TOk P cfg) (sim : Sim w cls hdr vb st sl a.tmps) {t1 t2 : TypeId} {x : Operand} {k1 kd kx : IntKind} {n : Int} (ho : o.op = .convert t1 t2 x) (h1 : zy cfg t1 = .int k1) (h2 : zy cfg t2 = .int kd)
  (hx : zq ⟨sl, st, k⟩ x = some (.int kx n)) : yr P a o w cls hdr vb st nid (.val false [.int kd (kd.wrap n)]) st [] := by
 obtain ⟨d1, hd1, rfl⟩ := yy T h1 (by simp)
 obtain ⟨d2, hd2, rfl⟩ := yy T h2 (by simp)
 exact yB (u := .int kd (kd.wrap n)) sim (by simp [execOp, ho, (z5 sim hx).int, convert, zP hd1, zP hd2, Conv.intToInt]) (zo.val (RepC.int _ _ _))
theorem Gx (T : TOk P cfg) (sim : Sim w cls hdr vb st sl a.tmps) {t1 t2 : TypeId} {x : Operand} {s : List UInt8} (ho : o.op = .convert t1 t2 x) (h1 : zy cfg t1 = .string) (h2 : zy cfg t2 = .string)
  (hx : zq ⟨sl, st, k⟩ x = some (.str s)) : yr P a o w cls hdr vb st nid (.val false [.str s]) st [] := by
 obtain ⟨d1, hd1, rfl⟩ := yy T h1 (by simp)
 obtain ⟨d2, hd2, rfl⟩ := yy T h2 (by simp)
 exact yB (u := .string ⟨s.toArray⟩) sim (by simp [execOp, ho, (z5 sim hx).str, convert, zP hd1, zP hd2]) (zo.val (RepC.str _ _ _ rfl))
theorem Ju {l : List (List C)} : ∀ {s : List UInt8}, bytesOf l = some s → l = s.map fun b => [C.int .u8 (b.toNat : Int)] := by
 induction l with
 | nil => intro s h; simp [bytesOf] at h; subst h; rfl
 | cons e l ih =>
  intro s h
  match e, h with
  | [.int .u8 n], h =>
   simp only [bytesOf] at h
   split at h
   ·rename_i hn
    obtain ⟨s', h1, rfl⟩ := Option.map_eq_some_iff.1 h
    rw [ih h1]
    simp only [List.map_cons, List.cons.injEq, and_true]
    have : ((UInt8.ofNat n.toNat).toNat : Int) = n := by
     rw [UInt8.toNat_ofNat']
     omega
    rw [this]
   ·cases h
  | [], h => simp [bytesOf] at h
  | (.int .u8 n) :: _ :: _, h => simp [bytesOf] at h
  | (.int .i8 n) :: _, h => simp [bytesOf] at h
  | (.int .i16 n) :: _, h => simp [bytesOf] at h
  | (.int .i32 n) :: _, h => simp [bytesOf] at h
  | (.int .i64 n) :: _, h => simp [bytesOf] at h
  | (.int .u16 n) :: _, h => simp [bytesOf] at h
  | (.int .u32 n) :: _, h => simp [bytesOf] at h
  | (.int .u64 n) :: _, h => simp [bytesOf] at h
  | (.bool _) :: _, h => simp [bytesOf] at h
  | (.str _) :: _, h => simp [bytesOf] at h
  | .nils :: _, h => simp [bytesOf] at h
  | (.seq _) :: _, h => simp [bytesOf] at h
  | (.own _ _) :: _, h => simp [bytesOf] at h
  | (.ref _) :: _, h => simp [bytesOf] at h
  | (.ptr _ _) :: _, h => simp [bytesOf] at h
  | (.eptr _ _ _ _) :: _, h => simp [bytesOf] at h
  | (.rptr _) :: _, h => simp [bytesOf] at h
  | (.fn _ _) :: _, h => simp [bytesOf] at h
  | (.raw _) :: _, h => simp [bytesOf] at h
theorem H0 (s : List UInt8) : ∀ (b : ByteArray), (s.map fun x => ((x.toNat : Nat) : Int)).foldl (fun r n => r.push (UInt8.ofNat n.toNat)) b = ⟨b.data ++ s.toArray⟩ := by
 induction s with
 | nil => intro b; simp
 | cons x s ih =>
  intro b
  simp only [List.map_cons, List.foldl_cons, ih]
  have : UInt8.ofNat (x.toNat : Int).toNat = x := by simp
  rw [this]
  congr 1
  show (b.data.push x) ++ s.toArray = _
  apply Array.ext'
  simp
theorem V5 {u : Value} {A : Option Addr} {n cap : Nat} (s : List UInt8) (hu : u = .slice A n cap) (hn : n = s.length)
  (hc : ∀ (i : Nat) b, s[i]? = some b → ∃ q, A = some q ∧ w.cell? (q.add i) = some (.int .u8 (b.toNat : Int))) : (Conv.bytesToString u).run P w = .ok (.string ⟨s.toArray⟩) w := by
 subst hu
 cases A with
 | none =>
  have : s = [] := by
   cases s with
   | nil => rfl
   | cons b s => obtain ⟨q, hq, _⟩ := hc 0 b rfl; cases hq
  subst this
  simp [Conv.bytesToString]; rfl
 | some q =>
  have hl : (loadCells q n).run P w = .ok ((s.map fun x => ((x.toNat : Nat) : Int)).map (Value.int .u8)).toArray w := by
   have := run_loadCells_list (P := P) w q ((s.map fun x => ((x.toNat : Nat) : Int)).map (Value.int .u8)) (fun j v hv => by
    rw [List.getElem?_map, List.getElem?_map] at hv
    obtain ⟨z, hz, rfl⟩ := Option.map_eq_some_iff.1 hv
    obtain ⟨b, hb, rfl⟩ := Option.map_eq_some_iff.1 hz
    obtain ⟨q', h1, h2⟩ := hc j b hb
    injection h1 with h1
    subst h1
    exact h2)
   simpa [hn] using this
  rw [run_bytesToString w q n cap _ hl, H0]
  congr 2
  rw [show ByteArray.empty.data = #[] from rfl]
  simp
theorem W9 (T : TOk P cfg) (sim : Sim w cls hdr vb st sl a.tmps) {t1 t2 e : TypeId} {x : Operand} {c : C} {s : List UInt8} (ho : o.op = .convert t1 t2 x) (h1 : zy cfg t1 = .slice e) (h2 : zy cfg t2 = .string) (h3 : zy cfg e = .int .u8)
  (hx : zq ⟨sl, st, k⟩ x = some c) (hc : (c = .nils ∧ s = []) ∨ (∃ l, c = .seq l ∧ bytesOf l = some s) ∨ (∃ id sz l, c = .ref id ∧ get st id = .obj sz l ∧ bytesOf l = some s)) :
  yr P a o w cls hdr vb st nid (.val false [.str s]) st [] := by
 obtain ⟨d1, hd1, rfl⟩ := yy T h1 (by simp)
 obtain ⟨d2, hd2, rfl⟩ := yy T h2 (by simp)
 obtain ⟨d3, hd3, rfl⟩ := yy T h3 (by simp)
 have gx := z5 sim hx
 have fin : ∀ A n cap, a.eval x = .slice A n cap → (Conv.bytesToString (.slice A n cap)).run P w = .ok (.string ⟨s.toArray⟩) w → yr P a o w cls hdr vb st nid (.val false [.str s]) st [] := fun A n cap hu hr =>
  yB (u := .string ⟨s.toArray⟩) sim (by simp [execOp, ho, hu, run_convert_bytes_string w t1 t2 e A n cap hd1 hd3 hd2, hr]) (zo.val (RepC.str _ _ _ rfl))
 rcases hc with ⟨rfl, rfl⟩ | ⟨l, rfl, hb⟩ | ⟨id, sz, l, rfl, hg, hb⟩
 ·exact fin none 0 0 gx.nils (V5 [] rfl rfl (by simp))
 ·obtain ⟨A, cap, sz, hu, _, hs, hcells⟩ := XJ gx
  have hl := Ju hb
  refine fin A _ cap hu (V5 s rfl (by rw [hl]; simp) fun i b hi => ?_)
  have he : l[i]? = some [C.int .u8 (b.toNat : Int)] := by rw [hl, List.getElem?_map, hi]; rfl
  have hsz : sz = 1 := (hs _ (List.mem_of_getElem? he)).symm
  obtain ⟨q, hq, _, _, v, hv, hr⟩ := hcells i 0 _ _ he rfl
  refine ⟨q, hq, ?_⟩
  rw [hsz, Nat.mul_one, Nat.add_zero] at hv
  cases hr
  exact hv
 ·have gx := gx.2 (sz, l.length) (by rw [hg]; rfl)
  have hE := sim.ent id
  rw [hg] at hE
  obtain ⟨A, n, cap, hh, hn, hnc, hs, hbk⟩ := qU hE
  have hl := Ju hb
  rw [hh] at gx
  refine fin A n cap gx (V5 s rfl (by rw [hn, hl]; simp) fun i b hi => ?_)
  have he : l[i]? = some [C.int .u8 (b.toNat : Int)] := by rw [hl, List.getElem?_map, hi]; rfl
  have hsz : sz = 1 := (hs _ (List.mem_of_getElem? he)).symm
  have hlt : i < l.length := (List.getElem?_eq_some_iff.1 he).1
  rcases hbk with ⟨_, h0, _⟩ | ⟨q, arr, rfl, hsp, hcl, hB, hle, hcells⟩
  ·omega
  ·obtain ⟨us, hul, huc, hur⟩ := hcells i _ he
   refine ⟨q, rfl, ?_⟩
   have hu0 : us[0]? = some us[0] := by simp
   have hr := hur 0 us[0] _ hu0 rfl
   have hv := huc 0 _ hu0
   subst hsz
   rw [Nat.mul_one, Nat.add_zero] at hv
   rw [hB.cell hsp, hv]
   generalize us[0] = z at hr
   cases hr
   rfl
theorem ze5 (sim : Sim w cls hdr vb st sl a.tmps) {ts : Array TypeId} {x y : Operand} {m n : Int} (ho : o.op = .call ⟨.builtin .max, #[x, y], ts⟩) (hx : zq ⟨sl, st, k⟩ x = some (.int .i64 m)) (hy : zq ⟨sl, st, k⟩ y = some (.int .i64 n)) :
  yr P a o w cls hdr vb st nid (.val false [.int .i64 (if m < n then n else m)]) st [] := by
 refine yB (u := .int .i64 (if m < n then n else m)) sim ?_ (zo.val (RepC.int _ _ _))
 simp [execOp, ho, resolve, invoke, builtin, (z5 sim hx).int, (z5 sim hy).int, run_max_int2]
theorem ze6 (sim : Sim w cls hdr vb st sl a.tmps) {ts : Array TypeId} {x y : Operand} {m n : Int} (ho : o.op = .call ⟨.builtin .min, #[x, y], ts⟩) (hx : zq ⟨sl, st, k⟩ x = some (.int .i64 m)) (hy : zq ⟨sl, st, k⟩ y = some (.int .i64 n)) :
  yr P a o w cls hdr vb st nid (.val false [.int .i64 (if n < m then n else m)]) st [] := by
 refine yB (u := .int .i64 (if n < m then n else m)) sim ?_ (zo.val (RepC.int _ _ _))
 simp [execOp, ho, resolve, invoke, builtin, (z5 sim hx).int, (z5 sim hy).int, run_min_int2]
theorem UF (sim : Sim w cls hdr vb st sl a.tmps) : ∀ {ps : List (Nat × Operand)} {q : List (Nat × List C)}, jP ⟨sl, st, k⟩ ps = some q →
  All2 (fun (x : Nat × Value) (y : Nat × List C) => x.1 = y.1 ∧ ∃ arr : List Value, x.2.cells = arr.toArray ∧ All2 (zo w cls hdr vb st) arr y.2) (ps.map fun x => (x.1, a.eval x.2)) q := by
 intro ps
 induction ps with
 | nil => intro q h; simp [jP] at h; subst h; exact .nil
 | cons p ps ih =>
  intro q h
  obtain ⟨i, x⟩ := p
  simp only [jP] at h
  obtain ⟨cs, h1, h2⟩ := Option.bind_eq_some_iff.1 h
  obtain ⟨q', h3, rfl⟩ := Option.map_eq_some_iff.1 h2
  obtain ⟨g, hg⟩ := QS h1
  have gx := w7 (k := k) sim x
  rw [hg] at gx
  obtain ⟨arr, hr, hu⟩ := gx
  refine .cons ⟨rfl, arr, ?_, hr⟩ (ih h3)
  cases g with
  | true => simp only [if_true] at hu; show (a.eval x).cells = _; rw [hu]; rfl
  | false =>
   simp only [Bool.false_eq_true, if_false] at hu
   have hs : simple (a.eval x) = true := by
    rw [hu] at hr
    cases hr with
    | cons hh tt => exact hh.simple
   show (a.eval x).cells = _
   rw [hu]
   revert hs
   cases a.eval x <;> intro hs <;> first | rfl | (simp [simple] at hs)
theorem Lm (off : Nat) (vs : List Value) : ∀ (k : Nat) (cs : Array Value), off + k + vs.length <= cs.size →
  ((vs.zipIdx k).foldl (fun (cs : Array Value) (p : Value × Nat) => cs.setIfInBounds (off + p.2) p.1) cs) = (cs.toList.take (off + k) ++ vs ++ cs.toList.drop (off + k + vs.length)).toArray := by
 induction vs with
 | nil => intro k cs _; simp
 | cons v vs ih =>
  intro k cs h
  simp only [List.length_cons] at h
  simp only [List.zipIdx_cons, List.foldl_cons]
  rw [ih (k + 1) _ (by simp; omega)]
  congr 1
  simp only [Array.toList_setIfInBounds, List.length_cons]
  rw [show off + (k + 1) = off + k + 1 by omega]
  rw [List.take_set, List.drop_set_of_lt (by omega)]
  rw [List.take_succ_eq_append_getElem (by simp; omega)]
  rw [List.set_append]
  simp only [List.length_take, Array.length_toList]
  rw [if_neg (by omega)]
  rw [show off + k - min (off + k) cs.size = 0 by omega]
  simp [show off + k + 1 + vs.length = off + k + (vs.length + 1) by omega]
theorem zbt {R : Value → C → Prop} {place : Nat → Option (Nat × Nat)} {ps : List (Nat × Nat)} (hp : ∀ i, place i = ps[i]?) : ∀ {xs : List (Nat × Value)} {qs : List (Nat × List C)} {arr : List Value} {cs r : List C},
  All2 (fun (x : Nat × Value) (y : Nat × List C) => x.1 = y.1 ∧ ∃ arr : List Value, x.2.cells = arr.toArray ∧ All2 R arr y.2) xs qs → All2 R arr cs → fill ps cs qs = some r →
  ∃ arr' : List Value, Instr.fill place arr.toArray xs = some arr'.toArray ∧ All2 R arr' r := by
 intro xs
 induction xs with
 | nil =>
  intro qs arr cs r h hr hf
  cases h
  simp [fill] at hf
  subst hf
  exact ⟨arr, rfl, hr⟩
 | cons x xs ih =>
  intro qs arr cs r h hr hf
  cases h with
  | cons h t =>
   rename_i y ys
   obtain ⟨i, v⟩ := x
   obtain ⟨j, vs⟩ := y
   obtain ⟨rfl, arr1, h1, h2⟩ := h
   simp only at h1 h2 hf ⊢
   simp only [fill] at hf
   split at hf
   ·rename_i off size hps
    split at hf
    ·rename_i hc
     obtain ⟨hc1, hc2⟩ := hc
     have l1 := h2.length
     have l2 := hr.length
     have := ih (arr := arr.take off ++ arr1 ++ arr.drop (off + size)) t (by exact ((hr.take off).append h2).append (hr.drop _)) hf
     obtain ⟨arr', h3, h4⟩ := this
     refine ⟨arr', ?_, h4⟩
     simp only [Instr.fill, hp, hps, h1]
     rw [if_neg (by simp; omega)]
     rw [<- h3]
     congr 1
     have := Lm off arr1 0 arr.toArray (by simp; omega)
     simp only [Nat.add_zero] at this
     simp only [<- Array.foldl_toList, Array.toList_zipIdx]
     rw [this, show arr1.length = size by omega]
    ·cases hf
   ·cases hf
theorem Bb (T : TOk P cfg) (sim : Sim w cls hdr vb st sl a.tmps) {t : TypeId} {ps : Array (Nat × Operand)} {i : TI} {q : List (Nat × List C)} {fs : List (Nat × TypeId)} {cs : List C}
  (ho : o.op = .build t ps) (hi : cfg.T t = some i) (hq : jP ⟨sl, st, k⟩ ps.toList = some q) (hd : i.d = .struct fs) (hf : fill (Z6 cfg fs) i.zero q = some cs) (hz : ∀ f ∈ fs, (cfg.T f.2).isSome = true) :
  yr P a o w cls hdr vb st nid (.val true cs) st [] := by
 obtain ⟨d, hund, _, hfl⟩ := (T t i hi).und
 rw [hd] at hfl
 obtain ⟨fl, rfl, hfl⟩ := hfl
 obtain ⟨z, hz1, hz2, hz3, _⟩ := (T t i hi).zero
 have hplaces : ∀ (gs : List Field), (∀ g ∈ gs, (cfg.T g.type).isSome = true) → (gs.mapM (m := Sem) fun f => do pure (f.offset, <- sizeOf f.type)).run P w = .ok (Z6 cfg (gs.map fun f => (f.offset, f.type))) w := by
  intro gs
  induction gs with
  | nil => intro _; simp [Z6]
  | cons g gs ih =>
   intro h
   obtain ⟨j, hj⟩ := Option.isSome_iff_exists.1 (h g (by simp))
   have hs : sizeOf? cfg g.type = j.size := by simp [sizeOf?, hj]
   rw [List.mapM_cons]
   simp only [Sem.run_bind, (T _ _ hj).size, Result.andThen_ok, Sem.run_pure, ih fun g hg => h g (List.mem_cons_of_mem _ hg), Z6, hs, List.map_cons]
 have hpl := hplaces fl.toList (fun g hg => hz _ (by rw [<- hfl]; exact List.mem_map.2 ⟨g, hg, rfl⟩))
 rw [hfl] at hpl
 obtain ⟨arr', h1, h2⟩ := zbt (place := ((Z6 cfg fs).toArray[·]?)) (by simp) (UF sim hq) (arr := z.cells.toList) (hz3.mono fun u c _ h => zo.of (h.anywhere rfl) (by cases h <;> rfl)) hf
 refine yB (u := .agg arr'.toArray) sim ?_ ⟨arr', h2, rfl⟩
 have e1 : (ps.map fun x => (x.1, a.eval x.2)).toList = ps.toList.map fun x => (x.1, a.eval x.2) := by simp
 have h1' : Instr.fill (fun i => (Z6 cfg fs).toArray[i]?) z.cells (ps.map fun x => (x.1, a.eval x.2)).toList = some arr'.toArray := by
  rw [e1]; simpa using h1
 have hmap : (fl.mapM (m := Sem) fun f => do pure (f.offset, <- sizeOf f.type)).run P w = .ok (Z6 cfg fs).toArray w := by
  rw [Array.mapM_eq_mapM_toList, Sem.run_map, hpl]
  rfl
 simp only [execOp, ho, Instr.build, Sem.run_bind, hz1, Result.andThen_ok, zP hund, hmap]
 rw [show (Array.map (fun x => match x with | (i, x) => (i, a.eval x)) ps) = ps.map fun x => (x.1, a.eval x.2) from rfl]
 rw [h1']
 rfl
theorem MK (T : TOk P cfg) (sim : Sim w cls hdr vb st sl a.tmps) {t e : TypeId} {n : Nat} {ps : Array (Nat × Operand)} {i : TI} (ho : o.op = .build t ps) (hi : cfg.T t = some i) (hq : jP ⟨sl, st, k⟩ ps.toList = some []) (hd : i.d = .array n e)
  (he : (cfg.T e).isSome = true) : yr P a o w cls hdr vb st nid (.val true i.zero) st [] := by
 have hps : ps.toList = [] := by
  cases h : ps.toList with
  | nil => rfl
  | cons p r =>
   rw [h] at hq
   obtain ⟨j, x⟩ := p
   simp only [jP] at hq
   obtain ⟨c, _, h2⟩ := Option.bind_eq_some_iff.1 hq
   obtain ⟨y, _, h3⟩ := Option.map_eq_some_iff.1 h2
   cases h3
 have hps' : ps = #[] := by apply Array.ext'; simpa using hps
 subst hps'
 obtain ⟨d, hund, _, hdd⟩ := (T t i hi).und
 rw [hd] at hdd
 simp only at hdd
 subst hdd
 obtain ⟨z, hz1, hz2, hz3, _⟩ := (T t i hi).zero
 obtain ⟨j, hj⟩ := Option.isSome_iff_exists.1 he
 refine yB (u := .agg z.cells) sim ?_ ⟨z.cells.toList, hz3.mono fun u c _ h => zo.of (h.anywhere rfl) (by cases h <;> rfl), by simp⟩
 simp [execOp, ho, Instr.build, hz1, zP hund, (T e j hj).size, Instr.fill]
end
end Go.Am
/- Operations that make a variable: a new block of its own. -/
namespace Go.Am
theorem zw (st : List Entry) (n m : Nat) (e : Entry) : get (put st n e) m = if m = n then e else get st m := by
 induction st generalizing n m with
 | nil =>
  induction n generalizing m with
  | zero => cases m <;> simp [put, get]
  | succ n ih => cases m with
   | zero => simp [put, get]
   | succ m => simp [put, get, ih]
 | cons x r ih =>
  cases n with
  | zero => cases m <;> simp [put, get]
  | succ n => cases m with
   | zero => simp [put, get]
   | succ m => simp [put, get, ih]
structure Fresh (sl : List (Nat × V)) (st : List Entry) (id : Nat) : Prop where
 dead : get st id = .dead
 slot : ∀ i, id ∉ zZ (zB sl i)
 var : ∀ j, id ∉ zv (get st j)
theorem E6 (v : Value) : zu [cC v] = [] := by
 unfold cC; split <;> rfl
theorem E7 (v : Value) : zZ (cV v) = [] := by
 unfold cV
 split
 ·rename_i cs
  cases cs.toList.all simple with
  | false => rfl
  | true =>
   show zu (cs.toList.map cC) = []
   induction cs.toList with
   | nil => rfl
   | cons x xs ih =>
    have := E6 x
    simp only [List.map_cons]
    revert this
    cases cC x <;> intro h <;> simp [zu] at h ⊢ <;> simp_all
 ·rfl
 ·exact E6 _
theorem Bc {sl : List (Nat × V)} {st : List Entry} {id k : Nat} (h : Fresh sl st id) (x : Operand) : id ∉ zZ (S.ev ⟨sl, st, k⟩ x) := by
 cases x with
 | tmp t => exact h.slot t
 | const v => show id ∉ zZ (cV v); rw [E7]; simp
 | global g => simp [S.ev, zZ]
 | func f => simp [S.ev, zZ, zu, y5]
section
variable {P : Program} {cfg : Cfg} {a : Act} {o : Oper} {w : World} {cls : Cls} {hdr : Hdr} {vb : Nat → Nat} {st : List Entry} {sl : List (Nat × V)} {k nid : Nat} {v : V}
theorem GO (sim : Sim w cls hdr vb st sl a.tmps) (fr : Fresh sl st nid) {arr : List Value} {cs : List C} {E : TypeId} (hr : All2 (zo w cls hdr vb st) arr cs) (hids : nid ∉ zu cs)
  (hrun : (execOp a.eval o).run P w = .ok (.value (.pointer (some ⟨w.heap.size, 0, none⟩))) { w with heap := w.heap.push (.cells arr.toArray E) }) :
  yr P a o w cls hdr vb st nid (.val false [.ptr nid 0]) (put st nid (.var cs)) [nid] := by
 obtain ⟨n1, n2, n3⟩ := Qs w (.cells arr.toArray E)
 generalize hw' : ({ w with heap := w.heap.push (.cells arr.toArray E) } : World) = w' at hrun n1 n2 n3
 have hB : Blk 0 w' w.heap.size arr.toArray := by rw [<- hw']; exact Blk.new w arr.toArray E
 have kp : Keep w cls hdr vb st w' (fun b => if b = w.heap.size then some [nid] else cls b) hdr (fun i => if i = nid then w.heap.size else vb i) (put st nid (.var cs)) (fun id => ¬ (id ∈ [nid] ∧ nid <= id)) := by
  refine ⟨fun b hb hc => ⟨n1 b hb, by rw [if_neg (by omega)]; exact hc⟩, fun id hid c hg => ?_, fun id hid sz l hg => ?_, by omega, by rw [<- hw']; exact ⟨rfl, rfl, rfl⟩⟩
  ·have hne : id ≠ nid := fun e => hid (by subst e; simp)
   rw [zw, if_neg hne] at hg
   exact ⟨⟨c, hg⟩, by rw [if_neg hne]⟩
  ·have hne : id ≠ nid := fun e => hid (by subst e; simp)
   rw [zw, if_neg hne] at hg
   exact ⟨⟨l, hg, Nat.le_refl _⟩, rfl⟩
 refine ⟨_, w', _, _, _, .inl hrun, kp, zo.val ⟨⟨_, rfl⟩, fun cs' hcs => by simp⟩, fun id => ?_, ?_⟩
 case refine_2 =>
  refine ⟨fun b hb hc => ⟨n1 b hb, by rw [if_neg (by omega)]; exact hc⟩, fun id hid => ?_, fun id hid => ?_, fun id _ s => rfl, fun id _ b s hb hc => ⟨n1 b hb, by rw [if_neg (by omega)]; exact hc⟩⟩
  ·rw [zw, if_neg (by simpa using hid)]
  ·rw [if_neg (by simpa using hid)]
 rw [zw]
 split
 ·rename_i e
  subst e
  refine ⟨by simp, arr, by simpa using hB, zo.keeps kp (fun id' hid' h => ?_) hr⟩
  obtain ⟨h1, _⟩ := h
  simp at h1
  subst h1
  exact hids hid'
 ·rename_i hne
  refine yd.keep kp (fun i hi h => ?_) (fun b s hb hc => ⟨n1 b hb, by rw [if_neg (by omega)]; exact hc⟩) (fun s => rfl) (by rw [if_neg hne]) (sim.ent id)
  obtain ⟨h1, _⟩ := h
  simp at h1
  subst h1
  exact fr.var id hi
theorem Bd (T : TOk P cfg) (sim : Sim w cls hdr vb st sl a.tmps) (fr : Fresh sl st nid) {t : TypeId} {i : TI} (ho : o.op = .alloc t) (hi : cfg.T t = some i) :
  yr P a o w cls hdr vb st nid (.val false [.ptr nid 0]) (put st nid (.var i.zero)) [nid] := by
 obtain ⟨z, hz1, hz2, hz3, _⟩ := (T t i hi).zero
 refine GO (arr := z.cells.toList) (E := t) sim fr (hz3.mono fun u c _ h => zo.of (h.anywhere rfl) (by cases h <;> rfl)) ?_ ?_
 ·intro h
  have : ∀ (us : List Value) (cs : List C), All2 (RepC default (fun _ => none) (fun _ => .nilIface) none) us cs → zu cs = [] := by
   intro us cs h
   induction h with
   | nil => rfl
   | cons h t ih => cases h <;> simp [zu, ih]
  rw [this _ _ hz3] at h
  simp at h
 ·simp only [execOp, ho, Instr.alloc, newVar, newRow, Sem.run_bind, hz1, Result.andThen_ok, run_newObj, Sem.run_pure]
theorem ze7 (sim : Sim w cls hdr vb st sl a.tmps) (fr : Fresh sl st nid) {t : TypeId} {x : Operand} {cs : List C} (ho : o.op = .box t x) (hx : (S.ev ⟨sl, st, k⟩ x).cells = some cs) :
  yr P a o w cls hdr vb st nid (.val false [.ptr nid 0]) (put st nid (.var cs)) [nid] := by
 obtain ⟨g, hg⟩ := QS hx
 have gx := w7 (k := k) sim x
 have hf := Bc (k := k) fr x
 rw [hg] at gx hf
 obtain ⟨arr, hr, hu⟩ := gx
 have hcells : (a.eval x).cells = arr.toArray := by
  cases g with
  | true => simp only [if_true] at hu; rw [hu]; rfl
  | false =>
   simp only [Bool.false_eq_true, if_false] at hu
   have hs : simple (a.eval x) = true := by
    rw [hu] at hr
    cases hr with
    | cons hh tt => exact hh.simple
   rw [hu]
   revert hs
   cases a.eval x <;> intro hs <;> first | rfl | (simp [simple] at hs)
 refine GO (arr := arr) (E := t) sim fr hr hf ?_
 simp only [execOp, ho, Instr.box, newVar, newRow, Sem.run_bind, run_newObj, Result.andThen_ok, Sem.run_pure, hcells]
theorem Ln {x : Operand} {cs : List C} (sim : Sim w cls hdr vb st sl a.tmps) (hx : (S.ev ⟨sl, st, k⟩ x).cells = some cs) : ∃ arr : List Value, (a.eval x).cells = arr.toArray ∧ All2 (zo w cls hdr vb st) arr cs := by
 obtain ⟨g, hg⟩ := QS hx
 have gx := w7 (k := k) sim x
 rw [hg] at gx
 obtain ⟨arr, hr, hu⟩ := gx
 refine ⟨arr, ?_, hr⟩
 cases g with
 | true => simp only [if_true] at hu; rw [hu]; rfl
 | false =>
  simp only [Bool.false_eq_true, if_false] at hu
  have hs : simple (a.eval x) = true := by
   rw [hu] at hr
   cases hr with
   | cons hh tt => exact hh.simple
  rw [hu]
  revert hs
  cases a.eval x <;> intro hs <;> first | rfl | (simp [simple] at hs)
theorem V6 {z : Nat} {t : TypeId} {i : TI} (ht : TypeOk P t i) {u : Value} {arr : List Value} (hu : u.cells = arr.toArray) (hl : arr.length = i.size) (hs : ∀ v ∈ arr, simple v = true) (b off : Nat) {old : Array Value} (hB : Blk z w b old)
  (hle : off + i.size <= old.size) : ∃ w', (storeVar t ⟨b, off, none⟩ u).run P w = .ok () w' ∧ Blk z w' b (old.toList.take off ++ arr ++ old.toList.drop (off + i.size)).toArray ∧ (∀ c, c ≠ b → w'.heap[c]? = w.heap[c]?) ∧ w'.heap.size = w.heap.size ∧ Wq w w' := by
 obtain ⟨w', h1, h2, h3, h4, h5⟩ := QR (P := P) b off arr 0 old w hB (by omega) hs
 refine ⟨w', ?_, by simpa [hl] using h2, h3, h4, h5⟩
 have hsz : u.cells.size = i.size := by rw [hu]; simpa using hl
 simp only [storeVar, Sem.run_bind, ht.size, Result.andThen_ok, hsz]
 rw [hu]
 simp only [ne_eq, not_true_eq_false, if_false]
 exact h1
theorem Tv (T : TOk P cfg) (sim : Sim w cls hdr vb st sl a.tmps) {t : TypeId} {x y : Operand} {i : TI} {id off : Nat} {cs old : List C} (ho : o.op = .store t x y) (hi : cfg.T t = some i) (hu : a.eval x = .pointer (some ⟨vb id, off, none⟩))
  (hy : (S.ev ⟨sl, st, k⟩ y).cells = some cs) (hg : get st id = .var old) (hl : cs.length = i.size) (hle : off + i.size <= old.length) (hnid : id < nid) :
  yr P a o w cls hdr vb st nid .dead (put st id (.var (old.take off ++ cs ++ old.drop (off + i.size)))) [id] := by
 obtain ⟨arr, hc, hr⟩ := Ln sim hy
 have hE := sim.ent id
 rw [hg] at hE
 obtain ⟨hcl, arr0, hB, hr0⟩ := hE
 have l0 := hr0.length
 have l1 := hr.length
 obtain ⟨w', h1, h2, h3, h4, h5⟩ := V6 (T t i hi) hc (by omega) (fun v hv => by
  obtain ⟨j, hj, rfl⟩ := List.mem_iff_getElem.1 hv
  obtain ⟨c, _, hcr⟩ := hr.getL (List.getElem?_eq_getElem hj)
  exact hcr.simple) (vb id) off hB (by simp; omega)
 have kp : Keep w cls hdr vb st w' cls hdr vb (put st id (.var (old.take off ++ cs ++ old.drop (off + i.size)))) (fun j => ¬ (j ∈ [id] ∧ nid <= j)) := by
  refine ⟨fun b hb hc => ⟨h3 b (fun e => by subst e; rw [hcl] at hc; cases hc), hc⟩, fun j _ c hgj => ?_, fun j _ sz l hgj => ?_, by omega, h5⟩
  ·rw [zw] at hgj
   split at hgj
   ·rename_i e; subst e; exact ⟨⟨old, hg⟩, rfl⟩
   ·exact ⟨⟨c, hgj⟩, rfl⟩
  ·rw [zw] at hgj
   split at hgj
   ·cases hgj
   ·exact ⟨⟨l, hgj, Nat.le_refl _⟩, rfl⟩
 have allok : ∀ j, ¬ (j ∈ [id] ∧ nid <= j) := fun j h => by
  obtain ⟨h1, h2⟩ := h
  simp at h1; omega
 refine ⟨undef, w', cls, hdr, vb, .inr ⟨?_, rfl⟩, kp, trivial, fun j => ?_, ?_⟩
 case refine_3 =>
  refine ⟨fun b hb hc => ⟨h3 b fun e => ?_, hc⟩, fun j hj => ?_, fun _ _ => rfl, fun _ _ _ => rfl, fun j hj b s hb hc => ⟨h3 b fun e => ?_, hc⟩⟩
  ·subst e; rw [hcl] at hc; cases hc
  ·rw [zw, if_neg (by simpa using hj)]
  ·subst e
   rw [hcl] at hc
   injection hc with hc
   injection hc with hc
   exact hj (by simp [hc])
 ·simp only [execOp, ho, Instr.storeAt, Sem.run_bind, hu, Instr.sureAddr, Sem.run_pure, Result.andThen_ok, h1]
 ·rw [zw]
  split
  ·rename_i e
   subst e
   refine ⟨hcl, arr0.take off ++ arr ++ arr0.drop (off + i.size), by simpa using h2, zo.keeps kp (fun j _ => allok j) ?_⟩
   exact ((hr0.take off).append hr).append (hr0.drop _)
  ·rename_i hne
   refine yd.keep kp (fun j _ => allok j) (fun b s hb hc => ⟨h3 b fun e => ?_, hc⟩) (fun s => rfl) rfl (sim.ent j)
   subst e
   rw [hcl] at hc
   injection hc with hc
   injection hc with hc
   exact hne hc.symm
theorem ML (T : TOk P cfg) (sim : Sim w cls hdr vb st sl a.tmps) {t : TypeId} {x y : Operand} {i : TI} {id off : Nat} {cs old : List C} (ho : o.op = .store t x y) (hi : cfg.T t = some i) (hx : zq ⟨sl, st, k⟩ x = some (.ptr id off))
  (hy : (S.ev ⟨sl, st, k⟩ y).cells = some cs) (hg : get st id = .var old) (hl : cs.length = i.size) (hle : off + i.size <= old.length) (hnid : id < nid) :
  yr P a o w cls hdr vb st nid .dead (put st id (.var (old.take off ++ cs ++ old.drop (off + i.size)))) [id] :=
 Tv T sim ho hi ((z5 sim hx).2 old hg) hy hg hl hle hnid
end
end Go.Am
/- Maps whose keys are texts: made, filled, asked. -/
namespace Go.Am
section
variable {P : Program} {cfg : Cfg} {a : Act} {o : Oper} {w : World} {cls : Cls} {hdr : Hdr} {vb : Nat → Nat} {st : List Entry} {sl : List (Nat × V)} {k nid : Nat} {v : V}
theorem H1 (sim : Sim w cls hdr vb st sl a.tmps) (fr : Fresh sl st nid) {t : TypeId} (ho : o.op = .makeMap t none) :
  yr P a o w cls hdr vb st nid (.val false [.ref nid]) (put st nid (.mp [])) [nid] := by
 obtain ⟨n1, n2, n3⟩ := Qs w (.map #[] 0)
 have hrun : (execOp a.eval o).run P w = .ok (.value (.map (some w.heap.size))) { w with heap := w.heap.push (.map #[] 0) } := by
  simp only [execOp, ho, Option.map_none, Instr.makeMap, Sem.run_bind, run_newObj, Result.andThen_ok, Sem.run_pure]
 generalize hw' : ({ w with heap := w.heap.push (.map #[] 0) } : World) = w' at hrun n1 n2 n3
 have hd : ∀ id s, id ≠ nid → (fun x => if x = [nid] then Value.map (some w.heap.size) else hdr x) (id :: s) = hdr (id :: s) := fun id s h => by
  simp only
  rw [if_neg (fun e => by injection e with e _; exact h e)]
 have kp : Keep w cls hdr vb st w' (fun b => if b = w.heap.size then some [nid] else cls b) (fun x => if x = [nid] then Value.map (some w.heap.size) else hdr x) vb (put st nid (.mp [])) (fun id => ¬ (id ∈ [nid] ∧ nid <= id)) := by
  refine ⟨fun b hb hc => ⟨n1 b hb, by rw [if_neg (by omega)]; exact hc⟩, fun id hid c hg => ?_, fun id hid sz l hg => ?_, by omega, by rw [<- hw']; exact ⟨rfl, rfl, rfl⟩⟩
  ·have hne : id ≠ nid := fun e => hid (by subst e; simp)
   rw [zw, if_neg hne] at hg
   exact ⟨⟨c, hg⟩, rfl⟩
  ·have hne : id ≠ nid := fun e => hid (by subst e; simp)
   rw [zw, if_neg hne] at hg
   exact ⟨⟨l, hg, Nat.le_refl _⟩, hd id [] hne⟩
 refine ⟨_, w', _, _, _, .inl hrun, kp, zo.val ⟨rfl, fun _ _ => by simp⟩, fun id => ?_, ?_⟩
 ·rw [zw]
  split
  ·rename_i e
   subst e
   exact ⟨w.heap.size, 0, #[], by simp, by simp, by rw [<- hw']; simp, .nil⟩
  ·rename_i hne
   refine yd.keep kp (fun i hi h => ?_) (fun b s hb hc => ⟨n1 b hb, by rw [if_neg (by omega)]; exact hc⟩) (fun s => hd id s hne) rfl (sim.ent id)
   obtain ⟨h1, _⟩ := h
   simp at h1
   subst h1
   exact fr.var id hi
 ·refine ⟨fun b hb hc => ⟨n1 b hb, by rw [if_neg (by omega)]; exact hc⟩, fun id hid => ?_, fun id hid => rfl, fun id hid s => hd id s (by simpa using hid), fun id _ b s hb hc => ⟨n1 b hb, by rw [if_neg (by omega)]; exact hc⟩⟩
  rw [zw, if_neg (by simpa using hid)]
theorem E8 (a b : ByteArray) : (a == b) = true ↔ a = b := by
 obtain ⟨a⟩ := a
 obtain ⟨b⟩ := b
 show (a == b) = true ↔ _
 simp
theorem zbu (x y : List UInt8) : ((⟨x.toArray⟩ : ByteArray) == ⟨y.toArray⟩) = prims.eqS x y := by
 show _ = (x == y)
 rw [Bool.eq_iff_iff, E8]
 simp
theorem PX {x : List UInt8} : ∀ {ms : List MapEntry} {es : List (List UInt8 × Bool × List C)} (i : Nat), All2 (MB w cls hdr) ms es →
  (ZQ prims es x = none → Instr.findNow .string (.string ⟨x.toArray⟩) ms i = some none) ∧
  (∀ r, ZQ prims es x = some r → ∃ j u, Instr.findNow .string (.string ⟨x.toArray⟩) ms i = some (some (j, u)) ∧ ∃ arr : List Value, All2 (RepC w cls hdr none) arr r.2 ∧ if r.1 = true then u = .agg arr.toArray else arr = [u]) := by
 intro ms es i h
 induction h generalizing i with
 | nil => exact ⟨fun _ => rfl, fun r h => by cases h⟩
 | @cons m e ms es hm ht ih =>
  obtain ⟨hk, arr, h1, h2⟩ := hm
  have hs : Instr.sameNow .string (.string ⟨x.toArray⟩) m.key = some (prims.eqS x e.1) := by
   rw [hk]
   show some (_ == _) = _
   rw [zbu]
  simp only [ZQ, Instr.findNow, hs]
  cases prims.eqS x e.1 with
  | true => exact ⟨fun h => (by cases h), fun r h => (by injection h with h; subst h; exact ⟨i, m.val, rfl, arr, h1, h2⟩)⟩
  | false => exact ih (i + 1)
theorem MM {t : TypeId} (h : Wc (zy cfg t) = true) : zy cfg t = .string := by
 revert h
 cases zy cfg t <;> simp [Wc]
theorem MN {t : TypeId} (h : P.underlying t = some .string) (b : Bool) (n : Nat) (x : ByteArray) (w : World) : (Instr.checkKey b (n + 1) t (.string x)).run P w = .ok () w := by
 simp [Instr.checkKey, zP h]
theorem Qu {t : TypeId} (h : P.underlying t = some .string) (b : Bool) (x : ByteArray) (w : World) : (Instr.checkKey b 10000 t (.string x)).run P w = .ok () w := MN h b 9999 x w
theorem Jv {t : TypeId} (h : P.underlying t = some .string) {x : Value} {ms : List MapEntry} {r : Option (Nat × Value)} (hf : Instr.findNow .string x ms 0 = some r) (w : World) : (Instr.findKey t x ms).run P w = .ok r w := by
 simp [Instr.findKey, zP h, hf]
theorem Kg {b clock : Nat} {ms : Array MapEntry} (h : w.heap[b]? = some (.map ms clock)) : (getObj b).run P w = .ok (.map ms clock) w := by
 simp [getObj, Sem.run, h]
theorem H2 {b clock : Nat} {ms : Array MapEntry} (y : Obj) (h : w.heap[b]? = some (.map ms clock)) : (setObj b y).run P w = .ok () { w with heap := w.heap.setIfInBounds b y } := by
 simp [setObj, Sem.run, h]
theorem ze8 {u : Value} {c : C} (hp : plain c = true) (h : zo w cls hdr vb st u c) : RepC w cls hdr none u c := by
 cases c <;> simp [plain] at hp <;> exact h
theorem E9 (T : TOk P cfg) (sim : Sim w cls hdr vb st sl a.tmps) {t kt et : TypeId} {q ky x : Operand} {id : Nat} {s : List UInt8} {g : Bool} {cs : List C} {es : List (List UInt8 × Bool × List C)} (ho : o.op = .insert t q ky x) (ht : zy cfg t = .map kt et) (hk : Wc (zy cfg kt) = true)
  (hq : zq ⟨sl, st, k⟩ q = some (.ref id)) (hky : zq ⟨sl, st, k⟩ ky = some (.str s)) (hx : S.ev ⟨sl, st, k⟩ x = .val g cs) (hp : cs.all plain = true) (hg : get st id = .mp es) (hno : ZQ prims es s = none) (hnid : id < nid) :
  yr P a o w cls hdr vb st nid .dead (put st id (.mp (es ++ [(s, g, cs)]))) [id] := by
 obtain ⟨d, hd, hd'⟩ := yy T ht (by simp)
 subst hd'
 obtain ⟨d2, hd2, hd2'⟩ := yy T (MM hk) (by simp)
 subst hd2'
 have hE := sim.ent id
 rw [hg] at hE
 obtain ⟨b, clock, ms, e1, e2, e3, e4⟩ := hE
 have eq := (z5 sim hq).2 (0, 0) (by rw [hg]; rfl)
 rw [e1] at eq
 have ek := (z5 sim hky).str
 have ex := w7 (k := k) sim x
 rw [hx] at ex
 obtain ⟨arr, hr, hu⟩ := ex
 have hf := (PX (i := 0) e4).1 hno
 have hlt : b < w.heap.size := by
  rcases Nat.lt_or_ge b w.heap.size with hl | hl
  ·exact hl
  ·rw [Array.getElem?_eq_none hl] at e3; cases e3
 have hrun : (execOp a.eval o).run P w = .ok .skip { w with heap := w.heap.setIfInBounds b (.map (ms.push { key := a.eval ky, val := a.eval x, born := clock }) (clock + 1)) } := by
  simp only [execOp, ho, Instr.mapUpdate, Sem.run_bind, zP hd, Result.andThen_ok, eq, Kg e3, ek, Qu hd2, Jv hd2 hf, H2 _ e3, Sem.run_pure]
 generalize hw' : ({ w with heap := w.heap.setIfInBounds b (.map (ms.push { key := a.eval ky, val := a.eval x, born := clock }) (clock + 1)) } : World) = w' at hrun
 have h3 : ∀ c, c ≠ b → w'.heap[c]? = w.heap[c]? := fun c hc => by rw [<- hw']; simp [Array.getElem?_setIfInBounds, Ne.symm hc]
 have h4 : w'.heap[b]? = some (.map (ms.push { key := a.eval ky, val := a.eval x, born := clock }) (clock + 1)) := by rw [<- hw']; simp [Array.getElem?_setIfInBounds, hlt]
 have kp : Keep w cls hdr vb st w' cls hdr vb (put st id (.mp (es ++ [(s, g, cs)]))) (fun j => ¬ (j ∈ [id] ∧ nid <= j)) := by
  refine ⟨fun c hb hc => ⟨h3 c (fun e => by subst e; rw [e2] at hc; cases hc), hc⟩, fun j _ c hgj => ?_, fun j _ sz l hgj => ?_, by rw [<- hw']; simp, by rw [<- hw']; exact ⟨rfl, rfl, rfl⟩⟩
  ·rw [zw] at hgj
   split at hgj
   ·cases hgj
   ·exact ⟨⟨c, hgj⟩, rfl⟩
  ·rw [zw] at hgj
   split at hgj
   ·rename_i e
    subst e
    exact ⟨⟨l, by rw [hg]; exact hgj, Nat.le_refl _⟩, rfl⟩
   ·exact ⟨⟨l, hgj, Nat.le_refl _⟩, rfl⟩
 have allok : ∀ j, ¬ (j ∈ [id] ∧ nid <= j) := fun j h => by
  obtain ⟨h1, h2⟩ := h
  simp at h1; omega
 refine ⟨undef, w', cls, hdr, vb, .inr ⟨hrun, rfl⟩, kp, trivial, fun j => ?_, ?_⟩
 ·rw [zw]
  split
  ·rename_i e
   subst e
   refine ⟨b, clock + 1, _, e1, e2, h4, ?_⟩
   rw [Array.toList_push]
   refine (e4.mono fun _ _ _ hm => hm.keep kp).append (.cons ⟨ek, arr, ?_, ?_⟩ .nil)
   ·have : ∀ (us : List Value) (cs : List C), cs.all plain = true → All2 (zo w cls hdr vb st) us cs → All2 (RepC w' cls hdr none) us cs := by
     intro us cs hp h
     induction h with
     | nil => exact .nil
     | cons h t ih =>
      simp only [List.all_cons, Bool.and_eq_true] at hp
      exact .cons ((ze8 hp.1 h).keep kp) (ih hp.2)
    exact this _ _ hp hr
   ·exact hu
  ·rename_i hne
   refine yd.keep kp (fun j _ => allok j) (fun c s hb hc => ⟨h3 c fun e => ?_, hc⟩) (fun s => rfl) rfl (sim.ent j)
   subst e
   rw [e2] at hc
   injection hc with hc
   injection hc with hc
   exact hne hc.symm
 ·refine ⟨fun c hb hc => ⟨h3 c fun e => ?_, hc⟩, fun j hj => ?_, fun _ _ => rfl, fun _ _ _ => rfl, fun j hj c s hb hc => ⟨h3 c fun e => ?_, hc⟩⟩
  ·subst e; rw [e2] at hc; cases hc
  ·rw [zw, if_neg (by simpa using hj)]
  ·subst e
   rw [e2] at hc
   injection hc with hc
   injection hc with hc
   exact hj (by simp [hc])
theorem Be {us : List Value} {cs : List C} (h : All2 (RepC w cls hdr none) us cs) : All2 (zo w cls hdr vb st) us cs :=
 h.mono fun u c _ h => zo.of h (by cases h <;> rfl)
theorem Lo (T : TOk P cfg) (sim : Sim w cls hdr vb st sl a.tmps) {t kt et : TypeId} {q ky : Operand} {id : Nat} {s : List UInt8} {ok : Bool} {es : List (List UInt8 × Bool × List C)} (ho : o.op = .lookup t q ky ok) (ht : zy cfg t = .map kt et) (hk : Wc (zy cfg kt) = true)
  (hq : zq ⟨sl, st, k⟩ q = some (.ref id)) (hky : zq ⟨sl, st, k⟩ ky = some (.str s)) (hg : get st id = .mp es)
  (h : (∃ g cs, ZQ prims es s = some (g, cs) ∧ v = bif ok then .tup [(g, cs), (false, [.bool true])] else .val g cs) ∨ (∃ i, ZQ prims es s = none ∧ cfg.T et = some i ∧ v = bif ok then .tup [(i.agg, i.zero), (false, [.bool false])] else .val i.agg i.zero)) :
  yr P a o w cls hdr vb st nid v st [] := by
 obtain ⟨d, hd, hd'⟩ := yy T ht (by simp)
 subst hd'
 obtain ⟨d2, hd2, hd2'⟩ := yy T (MM hk) (by simp)
 subst hd2'
 have hE := sim.ent id
 rw [hg] at hE
 obtain ⟨b, clock, ms, e1, e2, e3, e4⟩ := hE
 have eq := (z5 sim hq).2 (0, 0) (by rw [hg]; rfl)
 rw [e1] at eq
 have ek := (z5 sim hky).str
 have fin : ∀ (u : Value) (bb : Bool) (g : Bool) (cs : List C), (∃ arr : List Value, All2 (RepC w cls hdr none) arr cs ∧ if g = true then u = .agg arr.toArray else arr = [u]) →
   yp w cls hdr vb st (if ok = true then .tuple #[u, .bool bb] else u) (bif ok then .tup [(g, cs), (false, [.bool bb])] else .val g cs) := by
  intro u bb g cs ⟨arr, h1, h2⟩
  have hv : wV w cls hdr vb st u g cs := ⟨arr, Be h1, h2⟩
  cases ok with
  | false => exact hv
  | true =>
   refine ⟨[u, .bool bb], rfl, .cons hv (.cons ⟨[.bool bb], .cons (show RepC w cls hdr none _ _ from .bool _ _) .nil, rfl⟩ .nil)⟩
 rcases h with ⟨g, cs, h1, rfl⟩ | ⟨i, h1, hi, rfl⟩
 ·obtain ⟨j, u, hf, hrep⟩ := (PX (i := 0) e4).2 _ h1
  refine yB (u := if ok = true then .tuple #[u, .bool true] else u) sim ?_ (fin u true g cs hrep)
  simp only [execOp, ho, Instr.lookup, Sem.run_bind, zP hd, Result.andThen_ok, eq, Kg e3, ek, Qu hd2, Jv hd2 hf, Sem.run_pure]
 ·have hf := (PX (i := 0) e4).1 h1
  obtain ⟨z, hz1, hz2, hz3, hz4⟩ := (T et i hi).zero
  refine yB (u := if ok = true then .tuple #[z, .bool false] else z) sim ?_ (fin z false i.agg i.zero ⟨z.cells.toList, hz3.mono fun u c _ h => h.anywhere rfl, ?_⟩)
  ·simp only [execOp, ho, Instr.lookup, Sem.run_bind, zP hd, Result.andThen_ok, eq, Kg e3, ek, Qu hd2, Jv hd2 hf, Sem.run_pure, hz1]
  ·revert hz4
   cases i.agg <;> simp
   intro h
   rw [h]
theorem MO (T : TOk P cfg) (sim : Sim w cls hdr vb st sl a.tmps) {t e : TypeId} {x : Operand} {id : Nat} {l : List (List C)} (ho : o.op = .convert t t x) (h1 : zy cfg t = .slice e) (h3 : zy cfg e = .int .u8)
  (hx : zq ⟨sl, st, k⟩ x = some (.ref id)) (hg : get st id = .obj 1 l) (hl : 0 < l.length) (hnid : id < nid) : yr P a o w cls hdr vb st nid (.val false [.ref id]) st [id] := by
 obtain ⟨d, hd, hd'⟩ := yy T h1 (by simp)
 subst hd'
 obtain ⟨d2, hd2, hd2'⟩ := yy T h3 (by simp)
 subst hd2'
 have hE := sim.ent id
 rw [hg] at hE
 have gx := z5 sim hx
 have hv := gx.2 (1, l.length) (by rw [hg]; rfl)
 obtain ⟨A, n, cap, hh, hn, hnc, hs, hb⟩ := qU hE
 rcases hb with ⟨_, h0, _⟩ | ⟨q, arr, rfl, hsp, hqc, hB, hle, hcells⟩
 ·omega
 obtain ⟨E, fz, hE1, hfz1, hfz2, _⟩ := hB
 obtain ⟨qb, qo, qs⟩ := q
 simp only at hsp hE1 hqc
 subst hsp
 rw [hh] at hv
 have hlt : qb < w.heap.size := by
  rcases Nat.lt_or_ge qb w.heap.size with hl | hl
  ·exact hl
  ·rw [Array.getElem?_eq_none hl] at hE1; cases hE1
 have hsh : w.shape? qb = some (E, arr.size) := by unfold World.shape?; rw [hE1]
 have hrun : (execOp a.eval o).run P w = .ok (.value (.slice (some ⟨qb, qo, none⟩) n cap)) (w.freeze ⟨qb, arr.size, none⟩ 1) := by
  simp [execOp, ho, hv, convert, zP hd, zP hd2, markStringish, hsh]
 generalize hw' : w.freeze ⟨qb, arr.size, none⟩ 1 = w' at hrun
 obtain ⟨lo, hi⟩ := fz
 simp only at hfz1 hfz2
 have h3 : ∀ c, c ≠ qb → w'.heap[c]? = w.heap[c]? := fun c hc => by
  rw [<- hw']; unfold World.freeze; rw [if_neg (by decide)]; simp [Array.getElem?_modify, Ne.symm hc]
 have h4 : w'.heap[qb]? = some (.cells arr E (if lo == hi then (arr.size, arr.size + 1) else (min lo arr.size, max hi (arr.size + 1)))) := by
  rw [<- hw']; unfold World.freeze; rw [if_neg (by decide)]; simp [Array.getElem?_modify, hE1]
 have hB' : ∀ b arr', Blk 1 w b arr' → Blk 1 w' b arr' := fun b arr' h => by
  by_cases e0 : b = qb
  ·subst e0
   obtain ⟨E2, fz2, g1, g2, g3, _⟩ := h
   rw [hE1] at g1
   injection g1 with g1
   injection g1 with ga gE gf
   subst ga
   refine ⟨E, _, h4, ?_, ?_, fun h => by omega⟩
   ·split <;> simp only <;> omega
   ·intro j hj
    by_cases hlh : lo = hi
    ·simp only [hlh, beq_self_eq_true, if_true]; omega
    ·have : arr.size <= lo := by
      refine Classical.byContradiction fun hc => ?_
      exact hfz2 lo (by omega) ⟨Nat.le_refl _, by omega⟩
     rw [if_neg (by simpa using hlh)]; simp only; omega
  ·exact h.same (h3 b e0)
 have hd0 : w'.heap.size = w.heap.size := by rw [<- hw']; unfold World.freeze; rw [if_neg (by decide)]; simp
 have hio : Wq w w' := by rw [<- hw']; unfold World.freeze; rw [if_neg (by decide)]; exact ⟨rfl, rfl, rfl⟩
 have kp : Keep w cls hdr vb st w' cls hdr vb st (fun j => ¬ (j ∈ [id] ∧ nid <= j)) :=
  ⟨fun c hb hc => ⟨h3 c (fun e => by subst e; rw [hqc] at hc; cases hc), hc⟩, fun j _ c hgj => ⟨⟨c, hgj⟩, rfl⟩, fun j _ s2 n2 hgj => ⟨⟨n2, hgj, Nat.le_refl _⟩, rfl⟩, by omega, hio⟩
 have allok : ∀ j, ¬ (j ∈ [id] ∧ nid <= j) := fun j h => by
  obtain ⟨h1, h2⟩ := h
  simp at h1; omega
 have ne : ∀ j s, j ≠ id → ∀ c, cls c = some (j :: s) → c ≠ qb := fun j s hj c hc e => by
  subst e; rw [hqc] at hc; injection hc with hc; injection hc with hc; exact hj hc.symm
 refine ⟨_, w', cls, hdr, vb, .inl hrun, kp, ?_, fun j => ?_, ?_⟩
 ·refine zo.val ⟨rfl, fun p hp => hh.symm⟩
 ·by_cases hj : j = id
  ·subst hj
   rw [hg]
   show RepC w' cls hdr (some [j]) (hdr [j]) (.own 1 l)
   have h0 : RepC w cls hdr (some [j]) (hdr [j]) (.own 1 l) := hE
   rw [hh] at h0 ⊢
   cases h0 with
   | own _ A n cap _ _ us g1 g2 g3 g4 g5 g6 =>
    refine .own [j] _ n cap 1 l us g1 g2 g3 g4 ?_ fun i j2 e2 c2 k1 k2 => ?_
    ·rcases g5 with h | ⟨q3, arr3, e3, p1, p2, p3, p4, p5⟩
     ·exact .inl h
     ·exact .inr ⟨q3, arr3, e3, p1, p2, hB' _ _ p3, p4, p5⟩
    ·refine (g6 i j2 e2 c2 k1 k2).move (fun c hb hc => ⟨h3 c (fun e => by subst e; rw [hqc] at hc; cases hc), hc⟩) fun t ht => ?_
     injection ht with ht
     subst ht
     refine ⟨[j, i, j2], rfl, fun _ => rfl, fun c s hb hc => ⟨h3 c fun e => ?_, hc⟩⟩
     subst e
     rw [hqc] at hc
     injection hc with hc
     simp at hc
  ·refine yd.keep kp (fun i _ => allok i) (fun c s hb hc => ⟨h3 c (ne j s hj c hc), hc⟩) (fun s => rfl) rfl (sim.ent j)
 ·refine ⟨fun c hb hc => ⟨h3 c fun e => ?_, hc⟩, fun j _ => rfl, fun _ _ => rfl, fun _ _ _ => rfl, fun j hj c s hb hc => ⟨h3 c (ne j s (by simpa using hj) c hc), hc⟩⟩
  subst e; rw [hqc] at hc; cases hc
end
end Go.Am
