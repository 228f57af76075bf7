/- The machine, part 4: a small deterministic machine over plain data, and the proof that what it answers the program answers too. Conditions: none beyond those written at each theorem. -/
import Derived.Test.YtklelfbkffbceaaGreatMAmA
import Derived.Test.YtklelfbkffbceaaGreatMAmC
import Derived.KernelRfl
import Derived.Lib.Bytealg
import Derived.Lib.AtoiAll
import Derived.Lib.ItoaNum
import Derived.RowKit
set_option linter.unusedVariables false
set_option linter.unusedSimpArgs false
/- The machine as questions and answers: what it asks of data, of calls and of We stands in a tree; a list of answers leads through the tree. -/
namespace Go.Am
inductive Ans where
 | b (x : Bool)
 | i (x : Int)
 | n (x : Nat)
 | l (x : List (List C))
 | e (x : List C)
 | s (x : List UInt8)
 | u (x : UInt8)
 | r (v : V) (st : List Entry)
 | x (ex : Ex) (s : S)
inductive Ask where
 | add (k : IntKind) (a b : Int)
 | sub (k : IntKind) (a b : Int)
 | mul (k : IntKind) (a b : Int)
 | quo (k : IntKind) (a b : Int)
 | rem (a b : Int)
 | bit (op : BinOp) (k : IntKind) (a b : Int)
 | neg (k : IntKind) (a : Int)
 | conv (k : IntKind) (a : Int)
 | nz (a : Int)
 | eqI (a b : Int)
 | ltI (a b : Int)
 | leI (a b : Int)
 | maxI (a b : Int)
 | minI (a b : Int)
 | eqB (a b : Bool)
 | notB (a : Bool)
 | eqS (a b : List UInt8)
 | fits (a b : List UInt8)
 | catS (a b : List UInt8)
 | ltS (a b : List UInt8)
 | len (l : List (List C))
 | lenS (l : List UInt8)
 | nat (n : Int)
 | idx (l : List (List C)) (i : Nat)
 | idxS (l : List UInt8) (i : Nat)
 | byteI (b : UInt8)
 | setL (l : List (List C)) (i : Nat) (e : List C)
 | app (a b : List (List C))
 | cut (l : List (List C)) (lo hi : Option Nat)
 | cutS (l : List UInt8) (lo hi : Option Nat)
 | rep (n : Nat) (z : List C)
 | view (l : List (List C))
 | pl (l : List (List C))
 | uni (n : Nat) (l : List (List C))
 | room (n : Nat) (a b : List (List C))
 | made (n : Nat) (x : Int)
 | bytes (l : List (List C))
 | ofStr (s : List UInt8)
 | cln (l : List (List C))
 | subA (cs : List C) (i sz off k : Nat)
 | putA (cs : List C) (i sz off : Nat) (x : List C)
 | call (f : FuncId) (st : List Entry) (as : List V)
 | loop (f : FuncId) (b : Code) (s : S)
 | tr (b : Bool)
def M.ans (μ : M) : Ask → Option Ans
 | .add k a b => some (.i (μ.p.add k a b))
 | .sub k a b => some (.i (μ.p.sub k a b))
 | .mul k a b => some (.i (μ.p.mul k a b))
 | .quo k a b => some (.i (μ.p.quo k a b))
 | .rem a b => some (.i (μ.p.rem a b))
 | .bit op k a b => some (.i (μ.p.bit op k a b))
 | .neg k a => some (.i (μ.p.neg k a))
 | .conv k a => some (.i (μ.p.conv k a))
 | .nz a => some (.b (μ.p.nz a))
 | .eqI a b => some (.b (μ.p.eqI a b))
 | .ltI a b => some (.b (μ.p.ltI a b))
 | .leI a b => some (.b (μ.p.leI a b))
 | .maxI a b => some (.i (μ.p.maxI a b))
 | .minI a b => some (.i (μ.p.minI a b))
 | .eqB a b => some (.b (μ.p.eqB a b))
 | .notB a => some (.b (μ.p.notB a))
 | .eqS a b => some (.b (μ.p.eqS a b))
 | .fits a b => some (.b (μ.p.fits a b))
 | .catS a b => some (.s (μ.p.catS a b))
 | .ltS a b => some (.b (μ.p.ltS a b))
 | .len l => some (.i (μ.p.len l))
 | .lenS l => some (.i (μ.p.lenS l))
 | .nat n => (μ.p.nat n).map .n
 | .idx l i => (μ.p.idx l i).map .e
 | .idxS l i => (μ.p.idxS l i).map .u
 | .byteI b => some (.i (μ.p.byteI b))
 | .setL l i e => some (.l (μ.p.setL l i e))
 | .app a b => some (.l (μ.p.app a b))
 | .cut l lo hi => (μ.p.cut l lo hi).map .l
 | .cutS l lo hi => (μ.p.cutS l lo hi).map .s
 | .rep n z => some (.l (μ.p.rep n z))
 | .view l => some (.l (μ.p.view l))
 | .pl l => some (.b (μ.p.pl l))
 | .uni n l => some (.b (μ.p.uni n l))
 | .room n a b => some (.b (μ.p.room n a b))
 | .made n x => (μ.p.made n x).map .n
 | .bytes l => (μ.p.bytes l).map .s
 | .ofStr s => some (.l (μ.p.ofStr s))
 | .cln l => some (.b (μ.p.cln l))
 | .subA cs i sz off k => (μ.p.subA cs i sz off k).map .e
 | .putA cs i sz off x => (μ.p.putA cs i sz off x).map .e
 | .call f st as => (μ.call f st as).map fun r => .r r.1 r.2
 | .loop f b s => (μ.loop f b s).map fun r => .x r.1 r.2
 | .tr b => some (.b b)
inductive F (α : Type) where
 | pure (a : α)
 | fail
 | ask (q : Ask) (k : Ans → F α)
def F.bind {α β : Type} : F α → (α → F β) → F β
 | .pure a, f => f a
 | .fail, _ => .fail
 | .ask q k, f => .ask q fun x => (k x).bind f
def F.map {α β : Type} (x : F α) (f : α → β) : F β := x.bind fun a => .pure (f a)
def F.run {α : Type} (μ : M) : F α → Option α
 | .pure a => some a
 | .fail => none
 | .ask q k => (μ.ans q).bind fun x => (k x).run μ
def F.of {α : Type} : Option α → F α
 | some a => .pure a
 | none => .fail
def aB {α : Type} (q : Ask) (k : Bool → F α) : F α := .ask q fun | .b x => k x | _ => .fail
def aI {α : Type} (q : Ask) (k : Int → F α) : F α := .ask q fun | .i x => k x | _ => .fail
def aN {α : Type} (q : Ask) (k : Nat → F α) : F α := .ask q fun | .n x => k x | _ => .fail
def aL {α : Type} (q : Ask) (k : List (List C) → F α) : F α := .ask q fun | .l x => k x | _ => .fail
def aE {α : Type} (q : Ask) (k : List C → F α) : F α := .ask q fun | .e x => k x | _ => .fail
def aS {α : Type} (q : Ask) (k : List UInt8 → F α) : F α := .ask q fun | .s x => k x | _ => .fail
def aU {α : Type} (q : Ask) (k : UInt8 → F α) : F α := .ask q fun | .u x => k x | _ => .fail
def aR {α : Type} (q : Ask) (k : V × List Entry → F α) : F α := .ask q fun | .r v st => k (v, st) | _ => .fail
def aX {α : Type} (q : Ask) (k : Ex × S → F α) : F α := .ask q fun | .x e s => k (e, s) | _ => .fail
def Y0 {α : Type} : List Ans → F α → Option (α × List (Ask × Ans))
 | [], .pure a => some (a, [])
 | x :: xs, .ask q k => match Y0 xs (k x) with
  | some (a, l) => some (a, (q, x) :: l)
  | none => none
 | _, _ => none
def On (μ : M) : List (Ask × Ans) → Prop
 | [] => True
 | (q, x) :: l => μ.ans q = some x ∧ On μ l
theorem Kr {α : Type} {μ : M} : ∀ {xs : List Ans} {t : F α} {a : α} {l : List (Ask × Ans)}, Y0 xs t = some (a, l) → On μ l → t.run μ = some a := by
 intro xs
 induction xs with
 | nil =>
  intro t a l h _
  cases t with
  | pure b => simp only [Y0, Option.some.injEq, Prod.mk.injEq] at h; rw [<- h.1]; rfl
  | _ => cases h
 | cons x xs ih =>
  intro t a l h ht
  cases t with
  | ask q k =>
   simp only [Y0] at h
   split at h
   ·rename_i a' l' hf
    simp only [Option.some.injEq, Prod.mk.injEq] at h
    obtain ⟨rfl, rfl⟩ := h
    obtain ⟨h1, h2⟩ := ht
    simp only [F.run, h1, Option.bind_some]
    exact ih hf h2
   ·cases h
  | _ => cases h
/-! #### the machine again, as a tree -/
def vwF (st : List Entry) : C → F C
 | .ref id => match get st id with
  | .obj _ l => aL (.view l) fun y => .pure (.seq y)
  | _ => .fail
 | .own _ _ => .fail
 | .nils => .pure (.seq [])
 | c => .pure c
def HH (st : List Entry) : List C → F (List C)
 | [] => .pure []
 | c :: cs => (vwF st c).bind fun x => (HH st cs).bind fun xs => .pure (x :: xs)
abbrev FR := F (V × List Entry × List Nat)
def xD (s : S) (v : V) : FR := .pure (v, s.st, [])
def No (k : IntKind) (op : BinOp) (a b : Int) : F C :=
 match op with
 | .add => aI (.add k a b) fun x => .pure (.int k x)
 | .sub => aI (.sub k a b) fun x => .pure (.int k x)
 | .mul => aI (.mul k a b) fun x => .pure (.int k x)
 | .quo => aB (.nz b) fun z => bif z then aI (.quo k a b) fun x => .pure (.int k x) else .fail
 | .rem => aB (.nz b) fun z => bif z then aI (.rem a b) fun x => .pure (.int k x) else .fail
 | .shl => aB (.leI 0 b) fun z => bif z then aI (.bit .shl k a b) fun x => .pure (.int k x) else .fail
 | .shr => aB (.leI 0 b) fun z => bif z then aI (.bit .shr k a b) fun x => .pure (.int k x) else .fail
 | .and => aI (.bit .and k a b) fun x => .pure (.int k x)
 | .or => aI (.bit .or k a b) fun x => .pure (.int k x)
 | .xor => aI (.bit .xor k a b) fun x => .pure (.int k x)
 | .eql => aB (.eqI a b) fun x => .pure (.bool x)
 | .neq => aB (.eqI a b) fun x => aB (.notB x) fun y => .pure (.bool y)
 | .lss => aB (.ltI a b) fun x => .pure (.bool x)
 | .leq => aB (.leI a b) fun x => .pure (.bool x)
 | .gtr => aB (.ltI b a) fun x => .pure (.bool x)
 | .geq => aB (.leI b a) fun x => .pure (.bool x)
 | _ => .fail
def HI (op : BinOp) (td : TD) : C → C → F C
 | .int k a, .int k' b => if k = k' then No k op a b else .fail
 | .bool a, .bool b => match op, td with
  | .eql, .bool => aB (.eqB a b) fun x => .pure (.bool x)
  | .neq, .bool => aB (.eqB a b) fun x => aB (.notB x) fun y => .pure (.bool y)
  | _, _ => .fail
 | .str a, .str b => match op with
  | .eql => aB (.eqS a b) fun x => .pure (.bool x)
  | .neq => aB (.eqS a b) fun x => aB (.notB x) fun y => .pure (.bool y)
  | .add => aB (.fits a b) fun z => bif z then aS (.catS a b) fun x => .pure (.str x) else .fail
  | .lss => aB (.ltS a b) fun x => .pure (.bool x)
  | .gtr => aB (.ltS b a) fun x => .pure (.bool x)
  | .leq => aB (.ltS b a) fun x => aB (.notB x) fun y => .pure (.bool y)
  | .geq => aB (.ltS a b) fun x => aB (.notB x) fun y => .pure (.bool y)
  | _ => .fail
 | c, .raw (.pointer none) => .of (Qm op td (Xo c))
 | _, _ => .fail
def unF (op : UnOp) : C → F C
 | .int k n => match op with | .neg => aI (.neg k n) fun x => .pure (.int k x) | _ => .fail
 | .bool b => match op with | .not => aB (.notB b) fun x => .pure (.bool x) | _ => .fail
 | _ => .fail
def VF : C → F Nat
 | .int _ n => aN (.nat n) fun x => .pure x
 | _ => .fail
def Oo (fl : Bool) (st : List Entry) : C → F (List (List C) × List Entry × List Nat)
 | .nils => .pure ([], st, [])
 | .seq l => .pure (l, st, [])
 | .ref id => match get st id with
  | .obj _ l => bif fl then .pure (l, put st id .dead, [id]) else aB (.pl l) fun z => bif z then .pure (l, st, []) else .pure (l, put st id .dead, [id])
  | _ => .fail
 | .str s => aL (.ofStr s) fun y => .pure (y, st, [])
 | _ => .fail
def R9 (s : S) : Option Operand → F (Option Nat)
 | none => .pure none
 | some x => (F.of (zq s x)).bind fun c => (VF c).bind fun n => .pure (some n)
def QY (st : List Entry) (lend : List Nat) : Nat → List V → F (List V)
 | _, [] => .pure []
 | k, v :: vs => match v with
  | .val g cs => (if lend.contains k then .pure cs else HH st cs).bind fun x => (QY st lend (k + 1) vs).bind fun y => .pure (.val g x :: y)
  | _ => .fail
def zfj : C → F Bool
 | .seq _ | .rptr _ | .fn _ _ | .box _ => .pure false
 | .own _ l => aB (.cln l) fun x => .pure x
 | _ => .pure true
def Oq : List C → F Bool
 | [] => .pure true
 | c :: cs => (zfj c).bind fun x => bif x then Oq cs else .pure false
def HJ : List (Bool × List C) → F Bool
 | [] => .pure true
 | v :: vs => (Oq v.2).bind fun x => bif x then HJ vs else .pure false
def zfk : V → F Bool
 | .val _ cs => Oq cs
 | .tup vs => HJ vs
 | .dead => .pure true
def Db : Entry → F Bool
 | .var cs => Oq cs
 | .obj _ l => aB (.cln l) fun x => .pure x
 | .hole .. => .pure false
 | .mp _ => .pure false
 | .dead => .pure true
def M0 : List Entry → F Bool
 | [] => .pure true
 | e :: es => (Db e).bind fun x => bif x then M0 es else .pure false
variable (cfg : Cfg)
def Np (nid : Nat) (s : S) (f : FuncId) (args : List V) : FR :=
 (QY s.st (cfg.lend f) 0 args).bind fun as =>
 let ks0 := Zn [] (yX as)
 let ks := Zn ks0 (ks0.flatMap fun k => zv (get s.st k))
 let vs := ZN (cfg.lend f) 0 args
 bif vs.any fun i => ks.contains i then .fail else
 (F.of (QK s.st ks ks)).bind fun st0 => (F.of (Qn ks as)).bind fun as' => aR (.call f st0 as') fun r =>
  (bif vs.isEmpty then .pure true else (zfk r.1).bind fun x => bif x then M0 r.2 else .pure false).bind fun ok =>
  bif Nat.beq r.2.length ks.length && ok then
   let q := yx r
   let ks' := ks ++ (List.range (q.2.length - ks.length)).map (nid + ·)
   (F.of (QL ks' q.1)).bind fun v => (F.of (Z8 ks' ks' q.2 s.st)).bind fun st' => .pure (v, st', ks')
  else .fail
def BF (nid : Nat) (st : List Entry) : C → F (C × List Entry × List Nat)
 | .ref id => bif Nat.blt id nid then .pure (.ref id, st, []) else match get st id with
  | .obj _ l => aL (.view l) fun y => .pure (.seq y, put st id .dead, [id])
  | _ => .fail
 | .nils => .pure (.seq [], st, [])
 | .own _ _ => .fail
 | .fn _ _ => .fail
 | .box _ => .fail
 | c => .pure (c, st, [])
def Or (nid : Nat) (st : List Entry) : List C → F (List C × List Entry × List Nat)
 | [] => .pure ([], st, [])
 | c :: cs => (BF nid st c).bind fun x => (Or nid x.2.1 cs).bind fun y => .pure (x.1 :: y.1, y.2.1, x.2.2 ++ y.2.2)
def HK (nid : Nat) (st : List Entry) : List (Bool × List C) → F (List (Bool × List C) × List Entry × List Nat)
 | [] => .pure ([], st, [])
 | (g, cs) :: vs => (Or nid st cs).bind fun x => (HK nid x.2.1 vs).bind fun y => .pure ((g, x.1) :: y.1, y.2.1, x.2.2 ++ y.2.2)
def Nq (nid : Nat) (st : List Entry) : V → F (V × List Entry × List Nat)
 | .val g cs => (Or nid st cs).bind fun x => .pure (.val g x.1, x.2)
 | .tup vs => (HK nid st vs).bind fun x => .pure (.tup x.1, x.2)
 | .dead => .pure (.dead, st, [])
def Ot (nid : Nat) (d : Option Tmp) (r : V × List Entry × List Nat) : FR :=
 bif wanted cfg.own d then .pure r else (Nq nid r.2.1 r.1).bind fun x =>
  bif x.2.2.all (fun g => r.2.2.any (Nat.beq g)) && r.2.2.all (fun j => (zv (get x.2.1 j)).all fun i => !x.2.2.any (Nat.beq i)) && (zZ x.1).all (fun i => !x.2.2.any (Nat.beq i)) then .pure (x.1, x.2.1, r.2.2) else .fail
def UP (s : S) (t : TI) : C → F V
 | .ptr id off => .of (match get s.st id with
  | .var cs => if off + t.size <= cs.length then mk t.agg ((cs.drop off).take t.size) else none
  | _ => none)
 | .eptr id i sz off => match get s.st id with
  | .obj z l => aE (.idx l i) fun e => .of (if z = sz ∧ e.length = sz ∧ off + t.size <= e.length then let q := (e.drop off).take t.size; bif q.all plain then mk t.agg q else none else none)
  | .var cs => aE (.subA cs i sz off t.size) fun x => .of (mk t.agg x)
  | _ => .fail
 | .rptr cs => .of (if t.size <= cs.length then mk t.agg (cs.take t.size) else none)
 | _ => .fail
def RA (s : S) (t : TI) (cs : List C) : C → FR
 | .ptr id off => match get s.st id with
  | .var old => if cs.length = t.size ∧ off + t.size <= old.length then
    .pure (.dead, put s.st id (.var (old.take off ++ cs ++ old.drop (off + t.size))), [id]) else .fail
  | _ => .fail
 | .eptr id i sz off => match get s.st id with
  | .obj s0 l => aE (.idx l i) fun e => if s0 = sz ∧ e.length = sz ∧ cs.length = t.size ∧ off + t.size <= e.length then
     (F.of (QI s.st cs)).bind fun x =>
     if x.2.2.contains id then .fail
     else aL (.setL l i (e.take off ++ x.1 ++ e.drop (off + t.size))) fun y => .pure (.dead, put x.2.1 id (.obj s0 y), x.2.2 ++ [id])
    else .fail
  | .var old => if cs.length = t.size then aE (.putA old i sz off cs) fun x => .pure (.dead, put s.st id (.var x), [id]) else .fail
  | _ => .fail
 | _ => .fail
def Y1 (s : S) (nid : Nat) (b : Builtin) (ts : Array TypeId) (xs : List Operand) : FR :=
 match b, xs with
 | .len, [x] => (F.of (zq s x)).bind fun c => match (ts[0]?).map (zy cfg), c with
  | some (.slice _), .nils => xD s (.val false [.int .i64 0])
  | some (.slice _), .seq l => aI (.len l) fun n => xD s (.val false [.int .i64 n])
  | some .string, .str l => aI (.lenS l) fun n => xD s (.val false [.int .i64 n])
  | some (.slice _), .ref id => (F.of (jc s.st id)).bind fun q => aI (.len q.2) fun n => xD s (.val false [.int .i64 n])
  | _, _ => .fail
 | .append, [x, y] => (F.of (zq s x)).bind fun a => (F.of (zq s y)).bind fun b =>
  match (ts[0]?).bind cfg.T with
  | some { d := .slice e, .. } => match cfg.T e with
   | some te =>
    (F.of (match a with
     | .nils => some ([], s.st, [])
     | .ref id => match get s.st id with
      | .obj sz l => if sz = te.size then some (l, put s.st id .dead, [id]) else none
      | _ => none
     | _ => none)).bind fun (p : List (List C) × List Entry × List Nat) => (Oo (M8 cfg.fz y) p.2.1 b).bind fun q =>
    aB (.room te.bytes p.1 q.1) fun z1 => aB (.uni te.size q.1) fun z2 =>
    bif z1 && z2 && Nat.blt 0 te.size && (match (ts[1]?).map (zy cfg) with | some (.slice _) => true | some .string => true | _ => false) then
     aL (.app p.1 q.1) fun y => .pure (.val false [.ref nid], put q.2.1 nid (.obj te.size y), p.2.2 ++ q.2.2 ++ [nid])
    else .fail
   | none => .fail
  | _ => .fail
 | .max, [x, y] => (F.of (zq s x)).bind fun a => (F.of (zq s y)).bind fun b => match a, b with
  | .int .i64 x, .int .i64 y => aI (.maxI x y) fun z => xD s (.val false [.int .i64 z])
  | _, _ => .fail
 | .min, [x, y] => (F.of (zq s x)).bind fun a => (F.of (zq s y)).bind fun b => match a, b with
  | .int .i64 x, .int .i64 y => aI (.minI x y) fun z => xD s (.val false [.int .i64 z])
  | _, _ => .fail
 | _, _ => .fail
def Nr (s : S) (t : TI) (nid : Nat) : C → FR
 | .eptr id i sz off => match get s.st id with
  | .obj s0 l => aE (.idx l i) fun e => bif Nat.beq s0 sz && Nat.beq e.length sz && Nat.ble (off + t.size) e.length && t.agg then
    (F.of (YB s.st id s0 l i nid off ((e.drop off).take t.size))).bind fun y => .pure (.val true y.1, y.2.2, id :: y.2.1.map (·.2)) else .fail
  | _ => .fail
 | _ => .fail
def TC (s : S) (t : TI) (nid : Nat) : C → FR
 | .eptr id i sz off => match get s.st id with
  | .obj s0 l => aE (.idx l i) fun e => match e[off]? with
   | some (.own sz' l') => bif Nat.beq s0 sz && Nat.beq e.length sz && Nat.beq t.size 1 && !t.agg then .pure (.val false [.ref nid], put (put s.st id (.hole s0 l i [(off, nid)])) nid (.obj sz' l'), [id, nid]) else .fail
   | _ => .fail
  | _ => .fail
 | _ => .fail
def VG : List (List UInt8 × Bool × List C) → List UInt8 → F (Option (Bool × List C))
 | [], _ => .pure none
 | e :: r, a => aB (.eqS a e.1) fun z => bif z then .pure (some e.2) else VG r a
def yP (nid : Nat) (s : S) (o : Oper) : FR :=
 match o.op with
 | .makeMap _ none => .pure (.val false [.ref nid], put s.st nid (.mp []), [nid])
 | .insert t q k x => (F.of (zq s q)).bind fun c => (F.of (zq s k)).bind fun d => match c, d, s.ev x, zy cfg t with
  | .ref id, .str a, .val g cs, .map kt _ => match get s.st id with
   | .mp es => bif Wc (zy cfg kt) && cs.all plain then (VG es a).bind fun r => match r with
    | none => .pure (.dead, put s.st id (.mp (es ++ [(a, g, cs)])), [id])
    | some _ => .fail
    else .fail
   | _ => .fail
  | _, _, _, _ => .fail
 | .lookup t q k ok => (F.of (zq s q)).bind fun c => (F.of (zq s k)).bind fun d => match c, d, zy cfg t with
  | .ref id, .str a, .map kt et => match get s.st id with
   | .mp es => bif Wc (zy cfg kt) then (VG es a).bind fun r => match r with
    | some (g, cs) => xD s (bif ok then .tup [(g, cs), (false, [.bool true])] else .val g cs)
    | none => (F.of (cfg.T et)).bind fun i => xD s (bif ok then .tup [(i.agg, i.zero), (false, [.bool false])] else .val i.agg i.zero)
    else .fail
   | _ => .fail
  | _, _, _ => .fail
 | .move x | .assign x => xD s (s.ev x)
 | .pick c a b => (F.of (Xn (s.ev c))).bind fun t => aB (.tr t) fun t => xD s (bif t then s.ev a else s.ev b)
 | .alloc t => (F.of (cfg.T t)).bind fun i => .pure (.val false [.ptr nid 0], put s.st nid (.var i.zero), [nid])
 | .box _ x => (F.of ((s.ev x).cells)).bind fun cs => .pure (.val false [.ptr nid 0], put s.st nid (.var cs), [nid])
 | .build t ps => (F.of (cfg.T t)).bind fun i => (F.of (jP s ps.toList)).bind fun q => match i.d with
  | .struct fs => (F.of (fill (Z6 cfg fs) i.zero q)).bind fun cs => bif fs.all fun f => (cfg.T f.2).isSome then xD s (.val true cs) else .fail
  | .array _ e => match q with
   | [] => bif i.agg && (cfg.T e).isSome then xD s (.val true i.zero) else .fail
   | _ => .fail
  | _ => .fail
 | .buildSlice t n ps => match zy cfg t with
  | .slice e => (F.of (cfg.T e)).bind fun te => (F.of (jP s ps.toList)).bind fun q =>
   if n * te.size <= 2 ^ 24 then
    (F.of (YA n te.size 0 s.st [] (List.replicate n (y6 te.zero)) q)).bind fun x =>
    .pure (.val false [.ref nid], put x.2.1 nid (.obj te.size x.1), x.2.2 ++ [nid])
   else .fail
  | _ => .fail
 | .load t x => (F.of (cfg.T t)).bind fun i => (F.of (zq s x)).bind fun a => bif wanted cfg.own o.dst then (bif i.agg then Nr s i nid a else TC s i nid a) else (UP s i a).bind fun v => xD s v
 | .store t x y => (F.of (cfg.T t)).bind fun i => (F.of (zq s x)).bind fun a => (F.of ((s.ev y).cells)).bind fun cs => RA s i cs a
 | .nilCheck x => (F.of (zq s x)).bind fun a => if QJ a then xD s (.val false [a]) else .fail
 | .binOp op t x y _ => (F.of (zq s x)).bind fun a => (F.of (zq s y)).bind fun b => (bif Qf (zy cfg t) then F.of (Mv op y a) else HI op (zy cfg t) a b).bind fun c => xD s (.val false [c])
 | .unOp op _ x => (F.of (zq s x)).bind fun a => (unF op a).bind fun c => xD s (.val false [c])
 | .convert a b x => (F.of (zq s x)).bind fun c => match zy cfg a, zy cfg b, c with
  | .int _, .int k, .int _ n => aI (.conv k n) fun z => xD s (.val false [.int k z])
  | .string, .string, .str l => xD s (.val false [.str l])
  | .slice e, .string, c => match zy cfg e with
   | .int .u8 => match c with
    | .nils => xD s (.val false [.str []])
    | .seq l => aS (.bytes l) fun q => xD s (.val false [.str q])
    | .ref id => (F.of (jc s.st id)).bind fun q => aS (.bytes q.2) fun q => xD s (.val false [.str q])
    | _ => .fail
   | _ => .fail
  | .string, .slice e, .str l => match zy cfg e with
   | .int .u8 => aL (.ofStr l) fun y => .pure (.val false [.ref nid], put s.st nid (.obj 1 y), [nid])
   | _ => .fail
  | .slice e, .slice _, .ref id => match zy cfg e, get s.st id with
   | .int .u8, .obj 1 l => aI (.len l) fun n => aB (.ltI 0 n) fun z => bif Nat.beq a b && z then .pure (.val false [.ref id], s.st, [id]) else .fail
   | _, _ => .fail
  | _, _, _ => .fail
 | .makeFunc (.func f) first caps => (F.of ((caps.toList.map s.ev).mapM V.one)).bind fun cs => bif first.toList.isEmpty && cs.all Mx then xD s (.val false [.fn f cs]) else .fail
 | .makeSlice t n n2 => match zy cfg t with
  | .slice e => (F.of (cfg.T e)).bind fun te => (F.of (zq s n)).bind fun a => (F.of (zq s n2)).bind fun b => match a, b with
   | .int .i64 x, .int .i64 y => aB (.eqI x y) fun z => bif z && Nat.beq te.zero.length te.size then aN (.made te.bytes x) fun k => aL (.rep k (bif cfg.nl then YP te.zero (PL cfg 8 e) else y6 te.zero)) fun l =>
     .pure (.val false [.ref nid], put s.st nid (.obj te.size l), [nid]) else .fail
   | _, _ => .fail
  | _ => .fail
 | .slice t x lo hi mx => match mx with
  | none => (F.of (zq s x)).bind fun a => (R9 s lo).bind fun l => (R9 s hi).bind fun h => match zy cfg t, a with
   | .string, .str q => aS (.cutS q l h) fun b => xD s (.val false [.str b])
   | .slice e, .nils => aL (.cut [] l h) fun _ => bif Nat.blt 0 (sizeOf? cfg e) then xD s (.val false [.nils]) else .fail
   | .slice e, .seq q => aL (.cut q l h) fun b => aB (.uni (sizeOf? cfg e) q) fun z => bif z && Nat.blt 0 (sizeOf? cfg e) then xD s (.val false [.seq b]) else .fail
   | .slice e, .ref id => match get s.st id with
    | .obj sz q => aL (.cut q l h) fun b => if sz = sizeOf? cfg e ∧ 0 < sz then
      .pure (.val false [.ref nid], put (put s.st id .dead) nid (.obj sz b), [id, nid]) else .fail
    | _ => .fail
   | _, _ => .fail
  | some _ => .fail
 | .fieldAddr t x f => (F.of (cfg.T t)).bind fun i => (F.of (zq s x)).bind fun a => match i.d with
  | .struct fs => match fs[f]? with
   | some (o, ft) => if sizeOf? cfg ft = 0 then .fail else match a with
    | .ptr id off => xD s (.val false [.ptr id (off + o)])
    | .eptr id j sz off => xD s (.val false [.eptr id j sz (off + o)])
    | .rptr cs => if o < cs.length then xD s (.val false [.rptr ((cs.drop o).take (sizeOf? cfg ft))]) else .fail
    | _ => .fail
   | none => .fail
  | _ => .fail
 | .field t x f => (F.of (cfg.T t)).bind fun i => (F.of ((s.ev x).cells)).bind fun cs => match i.d, s.ev x with
  | .struct fs, .val true _ => match fs[f]? with
   | some (o, ft) => (F.of (cfg.T ft)).bind fun j => if o + j.size <= cs.length then (F.of (mk j.agg ((cs.drop o).take j.size))).bind (xD s) else .fail
   | none => .fail
  | _, _ => .fail
 | .indexAddr t x y => (F.of (zq s x)).bind fun a => (F.of (zq s y)).bind fun b => (VF b).bind fun i => match zy cfg t, a with
  | .slice e, .seq l => aE (.idx l i) fun q => if q.length = sizeOf? cfg e ∧ 0 < q.length then xD s (.val false [.rptr q]) else .fail
  | .slice e, .ref id => (F.of (jc s.st id)).bind fun q => aE (.idx q.2 i) fun _ =>
    if q.1 = sizeOf? cfg e ∧ 0 < q.1 then xD s (.val false [.eptr id i q.1 0]) else .fail
  | .array n e, .ptr id off => match get s.st id with
   | .var _ => aB (.ltI i n) fun z => bif z && Nat.beq off 0 && Nat.blt 0 (sizeOf? cfg e) then xD s (.val false [.eptr id i (sizeOf? cfg e) 0]) else .fail
   | _ => .fail
  | _, _ => .fail
 | .index t x y => (F.of (zq s y)).bind fun b => (VF b).bind fun i => match zy cfg t, s.ev x with
  | .string, .val false [.str l] => aU (.idxS l i) fun b => aI (.byteI b) fun z => xD s (.val false [.int .u8 z])
  | .array n e, .val true cs => (F.of (cfg.T e)).bind fun te => aB (.ltI i n) fun z => bif z then aE (.subA cs i te.size 0 te.size) fun x => (F.of (mk te.agg x)).bind (xD s) else .fail
  | _, _ => .fail
 | .extract x i => match s.ev x with
  | .tup vs => match vs[i]? with
   | some (g, cs) => xD s (.val g cs)
   | none => .fail
  | _ => .fail
 | .call cl => match cl.callee with
  | .builtin b => Y1 cfg s nid b cl.argTypes cl.args.toList
  | .value g => match (s.ev g).one with
   | some (.fn f caps) => (Np cfg nid s f (cl.args.toList.map s.ev ++ caps.map fun c => .val false [c])).bind (Ot cfg nid o.dst)
   | _ => .fail
  | .invoke .. => .fail
 | _ => .fail
def UQ : List Tmp → List (Nat × V) → List Entry → F (List (Nat × V) × List Entry × List Nat)
 | [], sl, st => .pure (sl, st, [])
 | t :: r, sl, st => (Nq 0 st (zB sl t)).bind fun x =>
   bif (zZ x.1).all fun i => !x.2.2.any (Nat.beq i) then (UQ r ((t, x.1) :: sl) x.2.1).bind fun y => .pure (y.1, y.2.1, x.2.2 ++ y.2.2) else .fail
def UR (nid : Nat) (s : S) (o : Oper) : FR :=
 bif cfg.nl then (yP cfg nid s o).bind fun r => .pure (Wn cfg nid s o r) else yP cfg nid s o
def Ns (st : List Entry) (id : Nat) : F (List Entry × List Nat) :=
 match get st id with
 | .hole sz l i hs => match hs with
  | (off, h) :: r => match get st h with
   | .obj sz' l' => bif r.any (fun x => Nat.beq x.1 off) then .fail else aE (.idx l i) fun e => aL (.setL l i (e.set off (.own sz' l'))) fun y => .pure (put (put st h .dead) id (.hole sz y i r), [id, h])
   | _ => .fail
  | [] => .pure (put st id (.obj sz l), [id])
 | _ => .pure (st, [])
def US : List Nat → List Entry → F (List Entry × List Nat)
 | [], st => .pure (st, [])
 | id :: r, st => (Ns st id).bind fun x => (US r x.1).bind fun y => .pure (y.1, x.2 ++ y.2)
def Nt (ids : List Nat) (st : List Entry) : F (List Entry × List Nat) := US (Mw st ids) st
def UT (nid : Nat) (s : S) (o : Oper) : FR :=
 match PN cfg.fz s o with
 | [] => UR cfg nid s o
 | t :: r => (UQ (t :: r) s.sl s.st).bind fun x => (UR cfg nid ⟨x.1, x.2.1, s.k⟩ o).bind fun y => .pure (y.1, y.2.1, y.2.2 ++ x.2.2)
def Nu (st : List Entry) (id : Nat) : F (List Entry × List Nat) :=
 match get st id with
 | .obj sz l => aL (.view l) fun y => .pure (put st id (.obj sz y), [id])
 | _ => .pure (st, [])
def UU : List Nat → List Entry → F (List Entry × List Nat)
 | [], st => .pure (st, [])
 | id :: r, st => (Nu st id).bind fun x => (UU r x.1).bind fun y => .pure (y.1, x.2 ++ y.2)
def UV (nid : Nat) (s : S) (o : Oper) : FR :=
 match PO cfg.th s o with
 | [] => UT cfg nid s o
 | id :: r => (UU (id :: r) s.st).bind fun x => (UT cfg nid ⟨s.sl, x.1, s.k⟩ o).bind fun y => .pure (y.1, y.2.1, y.2.2 ++ x.2)
def UW (nid : Nat) (s : S) (o : Oper) : FR :=
 match PM s o with
 | [] => UV cfg nid s o
 | id :: r => (Nt (id :: r) s.st).bind fun x => (UV cfg nid ⟨s.sl, x.1, s.k⟩ o).bind fun y => .pure (y.1, y.2.1, y.2.2 ++ x.2)
def UX (ops : List Oper) (nid : Nat) (s : S) (o : Oper) : FR :=
 match o.guard with
 | none => UW cfg nid s o
 | some (j, want) => match (ops[j]?).bind (·.dst) with
  | some d => match zB s.sl d with
   | .val false [.bool b] => aB (.tr b) fun b => if b = want then UW cfg nid s o else xD s (.tup [])
   | .tup [] => xD s (.tup [])
   | _ => .fail
  | none => .fail
def RB (all : List Oper) : List Oper → S → F S
 | [], s => .pure s
 | o :: r, s => (UX cfg all s.st.length s o).bind fun x =>
   bif Nat.ble s.st.length x.2.1.length && (zZ x.1).all (fun i => Nat.blt i x.2.1.length) && x.2.2.all (fun j => (zv (get x.2.1 j)).all fun i => Nat.blt i x.2.1.length) then
    RB all r ⟨QO s.sl o.dst x.1, x.2.1, s.k⟩ else .fail
def Ks (all : List Oper) : List Oper → S → List Foot → F (S × List Foot)
 | [], s, fs => .pure (s, fs)
 | o :: r, s, fs => (UX cfg all s.st.length ⟨trim s.sl (WY all o), ZR s.st (reads all s o), s.k⟩ o).bind fun x =>
   bif QP s.st.length (reads all s o) x then
    Ks all r ⟨QO s.sl o.dst x.1, ZS s.st x.2.1 x.2.2, s.k⟩ (fs ++ [⟨WY all o, o.dst.toList, reads all s o, x.2.2⟩]) else .fail
def Kt (prs : List (Nat × Nat)) (ops : List Oper) (draw : Bool) (s : S) : F S :=
 if draw then (Ks cfg ops ops s []).bind fun x => if M9 prs x.2 then .pure x.1 else .fail
 else RB cfg ops ops s
def Ou (st : List Entry) (id : Nat) : F (List Entry) :=
 match get st id with
 | .var cs => (Or 0 st cs).bind fun x => bif (zu x.1).all fun i => !x.2.2.any (Nat.beq i) then .pure (put x.2.1 id (.var x.1)) else .fail
 | _ => .pure st
def Ku : List Nat → List Entry → F (List Entry)
 | [], st => .pure st
 | id :: r, st => (Ou st id).bind fun x => Ku r x
def jW (f : FuncId) : Code → S → F (Ex × S)
 | .skip, s => .pure (.normal, s)
 | .region id ops draw, s => (Kt { cfg with own := cfg.ownT f id, fz := cfg.fzT f id, nl := cfg.nlT f, th := cfg.thT f id } (cfg.free f id) ops.toList draw s).bind fun s' => (Nt (T1 s'.k (trim s'.sl (cfg.keep f id)) s'.st) s'.st).bind fun x => (Ku (cfg.vz f id) x.1).bind fun y => .pure (.normal, norm ⟨trim s'.sl (cfg.keep f id), y, s'.k⟩)
 | .seq a b, s => (jW f a s).bind fun x => match x with
  | (.normal, s) => jW f b s
  | x => .pure x
 | .cond x a b, s => match Xn (s.ev x) with
  | some t => aB (.tr t) fun t => bif t then jW f a s else jW f b s
  | none => .fail
 | .block id b, s => (jW f b s).bind fun x => match x with
  | (.exit i, s) => if i = id then .pure (.normal, s) else .pure (.exit i, s)
  | x => .pure x
 | .loop b, s => aX (.loop f b s) .pure
 | .exit id, s => .pure (.exit id, DU (cfg.xk f id) s)
 | .ret, s => .pure (.ret, s)
 | _, _ => .fail
def M1 (s : S) : ResultVar → F (Bool × List C)
 | .tmp t => match zB s.sl t with
  | .val g cs => .pure (g, cs)
  | _ => .fail
 | .cell a t => match (zB s.sl a).one, cfg.T t with
  | some c, some i => (UP s i c).bind fun v => match v with
   | .val g cs => .pure (g, cs)
   | _ => .fail
  | _, _ => .fail
def HL (s : S) : List ResultVar → F (List (Bool × List C))
 | [] => .pure []
 | x :: r => (M1 cfg s x).bind fun y => (HL s r).bind fun ys => .pure (y :: ys)
def za8 : C → F C
 | .own _ l => aL (.view l) fun y => .pure (.seq y)
 | .nils => .pure (.seq [])
 | .box _ => .pure (.raw .nilFunc)
 | c => .pure c
def UY : List C → F (List C)
 | [] => .pure []
 | c :: cs => (za8 c).bind fun x => (UY cs).bind fun xs => .pure (x :: xs)
def M2 : List (Bool × List C) → F (List (Bool × List C))
 | [] => .pure []
 | x :: vs => (UY x.2).bind fun cs => (M2 vs).bind fun ys => .pure ((x.1, cs) :: ys)
def M3 : V → F V
 | .val g cs => (UY cs).bind fun x => .pure (.val g x)
 | .tup vs => (M2 vs).bind fun x => .pure (.tup x)
 | .dead => .pure .dead
def UZ (f : FuncId) (k : Nat) (rs : List ResultVar) (s : S) : F (V × List Entry) :=
 (HL cfg s rs).bind fun vs => (F.of ((Jt (!cfg.frz f) k s.st vs).bind fun x => (W6 k x.2 (s.st.take k)).map fun y => (vt x.1, y.1))).bind fun z =>
  (bif cfg.frz f then M3 z.1 else .pure z.1).bind fun v => .pure (v, z.2)
def Pa (f : FuncId) (st : List Entry) (args : List V) (code : Code) (nt : Nat) (rs : List ResultVar) : F (V × List Entry) :=
 bif !j7 nt code then .fail else (jW cfg f code (takeOver (cfg.mv f) ⟨W3 0 args, st, st.length⟩)).bind fun x => match x with
 | (.normal, s) => UZ cfg f st.length rs s
 | (.ret, s) => UZ cfg f st.length rs s
 | _ => .fail
end Go.Am
/- The tree of questions and answers says what the machine says. -/
namespace Go.Am
section
variable {α β : Type} (μ : M)
theorem run_pure (a : α) : (F.pure a).run μ = some a := rfl
theorem ye : (F.fail : F α).run μ = none := rfl
theorem run_bind (x : F α) (f : α → F β) : (x.bind f).run μ = (x.run μ).bind fun a => (f a).run μ := by
 induction x with
 | pure a => rfl
 | fail => rfl
 | ask q k ih =>
  simp only [F.bind, F.run]
  cases μ.ans q with
  | none => rfl
  | some x => exact ih x
theorem zY (x : Option α) : (F.of x).run μ = x := by cases x <;> rfl
theorem ym (c : Bool) (x y : F α) : (bif c then x else y).run μ = bif c then x.run μ else y.run μ := by cases c <;> rfl
theorem q6 (c : Prop) [Decidable c] (x y : F α) : (if c then x else y).run μ = if c then x.run μ else y.run μ := by split <;> rfl
theorem jX (q : Ask) (k : Bool → F α) {x : Bool} (h : μ.ans q = some (.b x)) : (aB q k).run μ = (k x).run μ := by simp only [aB, F.run, h, Option.bind_some]
theorem Dc (q : Ask) (k : Int → F α) {x : Int} (h : μ.ans q = some (.i x)) : (aI q k).run μ = (k x).run μ := by simp only [aI, F.run, h, Option.bind_some]
theorem Pb (q : Ask) (k : List (List C) → F α) {x : List (List C)} (h : μ.ans q = some (.l x)) : (aL q k).run μ = (k x).run μ := by simp only [aL, F.run, h, Option.bind_some]
theorem zfl (q : Ask) (k : List UInt8 → F α) {x : List UInt8} (h : μ.ans q = some (.s x)) : (aS q k).run μ = (k x).run μ := by simp only [aS, F.run, h, Option.bind_some]
theorem GX (q : Ask) (k : Nat → F α) {x : Option Nat} (h : μ.ans q = x.map .n) : (aN q k).run μ = x.bind fun n => (k n).run μ := by
 simp only [aN, F.run, h]; cases x <;> rfl
theorem Ov (q : Ask) (k : List (List C) → F α) {x : Option (List (List C))} (h : μ.ans q = x.map .l) : (aL q k).run μ = x.bind fun n => (k n).run μ := by
 simp only [aL, F.run, h]; cases x <;> rfl
theorem Ow (q : Ask) (k : List UInt8 → F α) {x : Option (List UInt8)} (h : μ.ans q = x.map .s) : (aS q k).run μ = x.bind fun n => (k n).run μ := by
 simp only [aS, F.run, h]; cases x <;> rfl
theorem Zc (q : Ask) (k : List C → F α) {x : Option (List C)} (h : μ.ans q = x.map .e) : (aE q k).run μ = x.bind fun n => (k n).run μ := by
 simp only [aE, F.run, h]; cases x <;> rfl
theorem zcg (q : Ask) (k : UInt8 → F α) {x : Option UInt8} (h : μ.ans q = x.map .u) : (aU q k).run μ = x.bind fun n => (k n).run μ := by
 simp only [aU, F.run, h]; cases x <;> rfl
theorem zfm (f : FuncId) (st : List Entry) (as : List V) (k : V × List Entry → F α) : (aR (.call f st as) k).run μ = (μ.call f st as).bind fun r => (k r).run μ := by
 simp only [aR, F.run, M.ans]; cases μ.call f st as <;> rfl
theorem zfn (f : FuncId) (b : Code) (s : S) (k : Ex × S → F α) : (aX (.loop f b s) k).run μ = (μ.loop f b s).bind fun r => (k r).run μ := by
 simp only [aX, F.run, M.ans]; cases μ.loop f b s <;> rfl
end
section
variable (cfg : Cfg) (μ : M)
theorem zfo (st : List Entry) (c : C) : (vwF st c).run μ = vw μ.p st c := by
 cases c <;> try rfl
 rename_i id
 simp only [vwF, vw, jc]
 cases get st id <;> simp only [ye, Option.map_none, Option.map_some]
 rw [Pb μ _ _ rfl]; rfl
theorem zch (st : List Entry) (cs : List C) : (HH st cs).run μ = vws μ.p st cs := by
 induction cs with
 | nil => rfl
 | cons c cs ih =>
  simp only [HH, vws, run_bind, zfo, ih, run_pure, Option.map_eq_bind]; rfl
theorem Dd (k : IntKind) (op : BinOp) (a b : Int) : (No k op a b).run μ = U8 μ.p k op a b := by
 cases op <;> first
  | rfl
  | (simp only [No, U8]; rw [jX μ _ _ rfl, ym, Dc μ _ _ rfl]; rfl)
theorem zci (op : BinOp) (td : TD) (x y : C) : (HI op td x y).run μ = bin μ.p op td x y := by
 cases y with
 | raw v =>
  cases v with
  | pointer p => cases p <;> cases x <;> first | rfl | exact zY _ _
  | _ => cases x <;> rfl
 | int k' b =>
  cases x with
  | int k a => simp only [HI, bin]; rw [q6, Dd]; rfl
  | _ => rfl
 | bool b =>
  cases x with
  | bool a => cases op <;> cases td <;> rfl
  | _ => rfl
 | str b =>
  cases x with
  | str a => cases op <;> first
   | rfl
   | (simp only [HI, bin]; rw [jX μ _ _ rfl, ym, zfl μ _ _ rfl]; rfl)
  | _ => rfl
 | _ => cases x <;> rfl
theorem zfp (op : UnOp) (x : C) : (unF op x).run μ = un μ.p op x := by
 cases x <;> cases op <;> rfl
theorem VH (c : C) : (VF c).run μ = ZM μ.p c := by
 cases c <;> try rfl
 rename_i k n
 simp only [VF, ZM]
 rw [GX μ _ _ rfl]
 cases μ.p.nat n <;> rfl
theorem HM (fl : Bool) (st : List Entry) (c : C) : (Oo fl st c).run μ = Z7 μ.p fl st c := by
 cases c <;> try rfl
 rename_i id
 simp only [Oo, Z7]
 cases get st id <;> try rfl
 cases fl
 ·simp only [cond_false]; rw [jX μ _ _ rfl, ym]; rfl
 ·rfl
theorem HN (s : S) (x : Option Operand) : (R9 s x).run μ = j6 μ.p s x := by
 cases x with
 | none => rfl
 | some x =>
  simp only [R9, j6, run_bind, zY, VH, run_pure, Option.map_eq_bind]; rfl
theorem Nv (st : List Entry) (lend : List Nat) (vs : List V) : ∀ k, (QY st lend k vs).run μ = vn μ.p st lend k vs := by
 induction vs with
 | nil => intro k; rfl
 | cons v vs ih =>
  intro k
  cases v <;> try rfl
  simp only [QY, vn, run_bind, q6, zch, run_pure, ih, Option.map_eq_bind]; rfl
theorem zcj (c : C) : (zfj c).run μ = some (clC μ.p c) := by cases c <;> rfl
theorem Ox (cs : List C) : (Oq cs).run μ = some (cs.all (clC μ.p)) := by
 induction cs with
 | nil => rfl
 | cons c cs ih =>
  simp only [Oq, run_bind, zcj, Option.bind_some, ym, ih, run_pure, List.all_cons]
  cases clC μ.p c <;> rfl
theorem zck (vs : List (Bool × List C)) : (HJ vs).run μ = some (vs.all fun x => x.2.all (clC μ.p)) := by
 induction vs with
 | nil => rfl
 | cons c cs ih =>
  simp only [HJ, run_bind, Ox, Option.bind_some, ym, ih, run_pure, List.all_cons]
  cases c.2.all (clC μ.p) <;> rfl
theorem zcl (v : V) : (zfk v).run μ = some (clV μ.p v) := by
 cases v with
 | val g cs => exact Ox μ cs
 | tup vs => exact zck μ vs
 | dead => rfl
theorem De (e : Entry) : (Db e).run μ = some (kI μ.p e) := by
 cases e with
 | var cs => exact Ox μ cs
 | obj sz l => rfl
 | hole sz l i hs => rfl
 | mp es => rfl
 | dead => rfl
theorem BG (es : List Entry) : (M0 es).run μ = some (es.all (kI μ.p)) := by
 induction es with
 | nil => rfl
 | cons c cs ih =>
  simp only [M0, run_bind, De, Option.bind_some, ym, ih, run_pure, List.all_cons]
  cases kI μ.p c <;> rfl
theorem Df (nid : Nat) (s : S) (f : FuncId) (args : List V) : (Np cfg nid s f args).run μ = callF cfg μ nid s f args := by
 simp only [Np, callF, run_bind, ym, zY, Nv, ye, zfm, run_pure, zcl, BG]
 cases vn μ.p s.st (cfg.lend f) 0 args with
 | none => rfl
 | some as =>
  simp only [Option.bind_some]
  generalize Zn (Zn [] (yX as)) _ = ks
  generalize ZN (cfg.lend f) 0 args = vs
  cases vs.any fun i => ks.contains i with
  | true => rfl
  | false =>
   simp only [cond_false]
   cases QK s.st ks ks with
   | none => rfl
   | some st0 =>
    simp only [Option.bind_some]
    cases Qn ks as with
    | none => rfl
    | some as' =>
     simp only [Option.bind_some]
     cases μ.call f st0 as' with
     | none => rfl
     | some r =>
      simp only [Option.bind_some]
      have key : ∀ (ok : Bool), (bif Nat.beq r.2.length ks.length && ok then (QL (ks ++ (List.range ((yx r).2.length - ks.length)).map (nid + ·)) (yx r).1).bind fun v => (Z8 (ks ++ (List.range ((yx r).2.length - ks.length)).map (nid + ·)) (ks ++ (List.range ((yx r).2.length - ks.length)).map (nid + ·)) (yx r).2 s.st).bind fun st' => some (v, st', ks ++ (List.range ((yx r).2.length - ks.length)).map (nid + ·)) else none) =
       (bif Nat.beq r.2.length ks.length && ok then (QL (ks ++ (List.range ((yx r).2.length - ks.length)).map (nid + ·)) (yx r).1).bind fun v => (Z8 (ks ++ (List.range ((yx r).2.length - ks.length)).map (nid + ·)) (ks ++ (List.range ((yx r).2.length - ks.length)).map (nid + ·)) (yx r).2 s.st).map fun st' => (v, st', ks ++ (List.range ((yx r).2.length - ks.length)).map (nid + ·)) else none) := fun ok => by
       simp only [Option.map_eq_bind]; rfl
      cases vs.isEmpty with
      | true => simp only [cond_true, Option.bind_some, Bool.true_or]; exact key true
      | false =>
       simp only [cond_false, Bool.false_or]
       cases clV μ.p r.1 with
       | true => simp only [cond_true, Option.bind_some, Bool.true_and]; exact key _
       | false => simp only [cond_false, Option.bind_some, Bool.false_and]; exact key false
theorem zcm (nid : Nat) (st : List Entry) (c : C) : (BF nid st c).run μ = fzC μ.p nid st c := by
 cases c <;> try rfl
 rename_i id
 simp only [BF, fzC, ym]
 cases get st id <;> rfl
theorem Oy (nid : Nat) (cs : List C) : ∀ st, (Or nid st cs).run μ = fzE μ.p nid st cs := by
 induction cs with
 | nil => intro st; rfl
 | cons c cs ih =>
  intro st
  simp only [Or, fzE, run_bind, zcm, ih, run_pure, Option.map_eq_bind]; rfl
theorem zcn (nid : Nat) (vs : List (Bool × List C)) : ∀ st, (HK nid st vs).run μ = fzT μ.p nid st vs := by
 induction vs with
 | nil => intro st; rfl
 | cons c cs ih =>
  intro st
  simp only [HK, fzT, run_bind, Oy, ih, run_pure, Option.map_eq_bind]; rfl
theorem GY (nid : Nat) (st : List Entry) (v : V) : (Nq nid st v).run μ = fzV μ.p nid st v := by
 cases v with
 | val g cs => simp only [Nq, fzV, run_bind, Oy, run_pure, Option.map_eq_bind]; rfl
 | tup vs => simp only [Nq, fzV, run_bind, zcn, run_pure, Option.map_eq_bind]; rfl
 | dead => rfl
theorem HO (nid : Nat) (d : Option Tmp) (r : V × List Entry × List Nat) : (Ot cfg nid d r).run μ = J6 μ.p cfg nid d r := by
 simp only [Ot, J6, ym, run_bind, GY, run_pure, ye]
theorem Lw (s : S) (t : TI) (c : C) : (UP s t c).run μ = ZP μ.p s t c := by
 cases c <;> try rfl
 ·exact zY _ _
 ·rename_i id i sz off
  simp only [UP, ZP]
  cases get s.st id <;> try rfl
  ·simp only
   rw [Zc μ _ _ rfl]
   congr 1; funext x; exact zY _ _
  ·rename_i z l
   simp only
   rw [Zc μ _ _ rfl]
   cases μ.p.idx l i with
   | none => rfl
   | some e => exact zY _ _
 ·exact zY _ _
theorem HP (s : S) (t : TI) (cs : List C) (c : C) : (RA s t cs c).run μ = Wm μ.p s t cs c := by
 cases c <;> try rfl
 ·rename_i id off
  simp only [RA, Wm]
  cases get s.st id <;> try rfl
  rw [q6]; rfl
 ·rename_i id i sz off
  simp only [RA, Wm]
  cases get s.st id <;> try rfl
  ·simp only [q6, ye]
   rw [Zc μ _ _ rfl]
   simp only [run_pure, Option.map_eq_bind]; rfl
  rename_i s0 l
  simp only
  rw [Zc μ _ _ rfl]
  cases μ.p.idx l i with
  | none => rfl
  | some e =>
   simp only [Option.bind_some, q6, run_bind, zY, ye]
   split
   ·cases QI s.st cs with
    | none => rfl
    | some x =>
     simp only [Option.bind_some]
     split
     ·rfl
     ·rw [Pb μ _ _ rfl]; rfl
   ·rfl
theorem Dg (s : S) (nid : Nat) (b : Builtin) (ts : Array TypeId) (xs : List Operand) : (Y1 cfg s nid b ts xs).run μ = ZO μ.p cfg s nid b ts xs := by
 have len1 : ∀ x, (Y1 cfg s nid .len ts [x]).run μ = ZO μ.p cfg s nid .len ts [x] := fun x => by
  simp only [Y1, ZO, run_bind, zY]
  congr 1; funext c
  cases (ts[0]?).map (zy cfg) with
  | none => rfl
  | some d =>
   cases d <;> cases c <;> first | rfl | skip
   simp only [run_bind, zY]; rfl
 have app : ∀ x y, (Y1 cfg s nid .append ts [x, y]).run μ = ZO μ.p cfg s nid .append ts [x, y] := fun x y => by
  simp only [Y1, ZO, run_bind, zY]
  congr 1; funext a
  congr 1; funext b
  cases (ts[0]?).bind cfg.T with
  | none => rfl
  | some i =>
   obtain ⟨d, d1, d2, d3, d4⟩ := i
   cases d with
   | slice e =>
    simp only
    cases cfg.T e with
    | none => rfl
    | some te =>
     simp only [run_bind, zY, HM]
     congr 1; funext p
     congr 1; funext q
     rw [jX μ _ _ rfl, jX μ _ _ rfl, ym, Pb μ _ _ rfl]; rfl
   | _ => rfl
 have mx : ∀ x y, (Y1 cfg s nid .max ts [x, y]).run μ = ZO μ.p cfg s nid .max ts [x, y] := fun x y => by
  simp only [Y1, ZO, run_bind, zY]
  congr 1; funext a
  congr 1; funext b
  cases a with
  | int k a =>
   cases b with
   | int k' b => cases k <;> cases k' <;> rfl
   | _ => cases k <;> rfl
  | _ => cases b <;> rfl
 have mn : ∀ x y, (Y1 cfg s nid .min ts [x, y]).run μ = ZO μ.p cfg s nid .min ts [x, y] := fun x y => by
  simp only [Y1, ZO, run_bind, zY]
  congr 1; funext a
  congr 1; funext b
  cases a with
  | int k a =>
   cases b with
   | int k' b => cases k <;> cases k' <;> rfl
   | _ => cases k <;> rfl
  | _ => cases b <;> rfl
 cases b with
 | len => match xs with
  | [] => rfl
  | [x] => exact len1 x
  | _ :: _ :: _ => rfl
 | append => match xs with
  | [] => rfl
  | [_] => rfl
  | [x, y] => exact app x y
  | _ :: _ :: _ :: _ => rfl
 | max => match xs with
  | [] => rfl
  | [_] => rfl
  | [x, y] => exact mx x y
  | _ :: _ :: _ :: _ => rfl
 | min => match xs with
  | [] => rfl
  | [_] => rfl
  | [x, y] => exact mn x y
  | _ :: _ :: _ :: _ => rfl
 | _ => rfl
theorem qf (s : S) (v : V) : (xD s v).run μ = ret s v := rfl
theorem Dh (s : S) (t : TI) (nid : Nat) (c : C) : (Nr s t nid c).run μ = Rz μ.p s t nid c := by
 cases c <;> try rfl
 rename_i id i sz off
 simp only [Nr, Rz]
 cases get s.st id <;> try rfl
 simp only
 rw [Zc μ _ _ rfl]
 congr 1; funext e
 simp only [ym, run_bind, zY, run_pure, ye, Option.map_eq_bind]
 rfl
theorem G5 (s : S) (t : TI) (nid : Nat) (c : C) : (TC s t nid c).run μ = Qg μ.p s t nid c := by
 cases c <;> try rfl
 rename_i id i sz off
 simp only [TC, Qg]
 cases get s.st id <;> try rfl
 simp only
 rw [Zc μ _ _ rfl]
 congr 1; funext e
 cases e[off]? with
 | none => rfl
 | some c =>
  cases c <;> try rfl
  simp only [ym, run_pure, ye]
theorem Di (st : List Entry) (id : Nat) : (Ns st id).run μ = UA μ.p st id := by
 unfold Ns UA
 cases get st id <;> try rfl
 rename_i sz l i hs
 cases hs with
 | nil => rfl
 | cons x r =>
  simp only
  cases get st x.2 <;> try rfl
  simp only
  rw [ym, ye, Zc μ _ _ rfl, Option.map_eq_bind]
  congr 1
theorem Dj (ids : List Nat) : ∀ st, (US ids st).run μ = Kd μ.p ids st := by
 induction ids with
 | nil => intro st; rfl
 | cons id r ih =>
  intro st
  simp only [US, Kd, run_bind, Di, ih, run_pure, Option.map_eq_bind]; rfl
theorem Lx (ids : List Nat) (st : List Entry) : (Nt ids st).run μ = foldL μ.p ids st := Dj μ _ st
theorem Ly (es : List (List UInt8 × Bool × List C)) (a : List UInt8) : (VG es a).run μ = some (ZQ μ.p es a) := by
 induction es with
 | nil => rfl
 | cons e r ih =>
  simp only [VG, ZQ]
  rw [jX μ _ _ rfl, ym, ih]
  cases μ.p.eqS a e.1 <;> rfl
theorem HQ (nid : Nat) (s : S) (o : Oper) : (yP cfg nid s o).run μ = stepOp cfg μ nid s o := by
 obtain ⟨dst, op, type, pos, after, guard⟩ := o
 cases op with
 | move x => rfl
 | makeMap t r => cases r <;> rfl
 | insert t q k x =>
  simp only [yP, stepOp, run_bind, zY]
  congr 1; funext c
  congr 1; funext d
  cases c <;> try rfl
  cases d <;> try rfl
  cases s.ev x <;> try rfl
  cases zy cfg t <;> try rfl
  rename_i id a g cs kt et
  simp only
  cases get s.st id <;> try rfl
  simp only [ym, run_bind, Ly, Option.bind_some, ye]
  rename_i es
  cases ZQ μ.p es a <;> rfl
 | lookup t q k ok =>
  simp only [yP, stepOp, run_bind, zY]
  congr 1; funext c
  congr 1; funext d
  cases c <;> try rfl
  cases d <;> try rfl
  cases zy cfg t <;> try rfl
  rename_i id a kt et
  simp only
  cases get s.st id <;> try rfl
  simp only [ym, run_bind, Ly, Option.bind_some, ye]
  rename_i es
  cases ZQ μ.p es a <;> simp only [run_bind, zY, qf]
 | assign x => rfl
 | pick c a b =>
  simp only [yP, stepOp, run_bind, zY]
  congr 1; funext t
  rw [jX _ _ _ (show μ.ans (.tr t) = some (.b t) from rfl)]
  cases t <;> rfl
 | alloc t => simp only [yP, stepOp, run_bind, zY, run_pure]
 | box t x => simp only [yP, stepOp, run_bind, zY, run_pure]
 | build t ps =>
  simp only [yP, stepOp, run_bind, zY]
  congr 1; funext i
  congr 1; funext q
  cases i.d with
  | struct fs => simp only [run_bind, zY, ym, qf, ye]
  | array n e =>
   cases q with
   | nil => simp only [ym, qf, ye]
   | cons _ _ => rfl
  | _ => rfl
 | buildSlice t n ps =>
  simp only [yP, stepOp]
  cases zy cfg t with
  | slice e =>
   simp only [run_bind, zY, q6, run_pure, ye]
  | _ => rfl
 | load t x => simp only [yP, stepOp, run_bind, zY, ym, Dh, G5, Lw, qf]
 | store t x y => simp only [yP, stepOp, run_bind, zY, HP]
 | nilCheck x => simp only [yP, stepOp, run_bind, zY, q6, qf, ye]
 | binOp op t x y u => cases hif : Qf (zy cfg t) <;> simp only [yP, stepOp, run_bind, zY, zci, qf, hif, cond_true, cond_false]
 | unOp op t x => simp only [yP, stepOp, run_bind, zY, zfp, qf]
 | convert a b x =>
  simp only [yP, stepOp, run_bind, zY]
  congr 1; funext c
  cases zy cfg a with
  | slice e =>
   cases zy cfg b with
   | string =>
    simp only
    cases zy cfg e with
    | int k =>
     cases k <;> try rfl
     cases c <;> try rfl
     ·simp only; rw [Ow μ _ _ rfl]; rfl
     ·simp only [run_bind, zY]
      congr 1; funext q
      rw [Ow μ _ _ rfl]; rfl
    | _ => rfl
   | slice e2 =>
    cases c <;> try rfl
    rename_i id
    simp only
    cases zy cfg e with
    | int k =>
     cases k <;> try rfl
     cases get s.st id <;> try rfl
     rename_i sz l
     match sz with
     | 0 => rfl
     | 1 => simp only; rw [Dc μ _ _ rfl, jX μ _ _ rfl, ym]; rfl
     | _ + 2 => rfl
    | _ => rfl
   | _ => rfl
  | int k => cases zy cfg b <;> cases c <;> rfl
  | string =>
   cases zy cfg b with
   | string => cases c <;> rfl
   | slice e =>
    cases c <;> try rfl
    simp only
    cases zy cfg e with
    | int k => cases k <;> rfl
    | _ => rfl
   | _ => rfl
  | _ => rfl
 | makeFunc fn first caps =>
  cases fn <;> try rfl
  simp only [yP, stepOp, run_bind, zY, ym, qf, ye]
 | makeSlice t n n2 =>
  simp only [yP, stepOp]
  cases zy cfg t with
  | slice e =>
   simp only [run_bind, zY]
   congr 1; funext te
   congr 1; funext a
   congr 1; funext b
   cases a with
   | int k a =>
    cases b with
    | int k' b =>
     cases k <;> try rfl
     cases k' <;> try rfl
     simp only
     rw [jX μ _ _ rfl, ym]
     congr 1
     rw [GX μ _ _ rfl]; rfl
    | _ => cases k <;> rfl
   | _ => cases b <;> rfl
  | _ => rfl
 | slice t x lo hi mx =>
  cases mx with
  | some m => rfl
  | none =>
   simp only [yP, stepOp, run_bind, zY, HN]
   congr 1; funext a
   congr 1; funext l
   congr 1; funext h
   cases zy cfg t with
   | string =>
    cases a <;> try rfl
    simp only; rw [Ow μ _ _ rfl]; rfl
   | slice e =>
    cases a <;> try rfl
    ·simp only; rw [Ov μ _ _ rfl]; simp only [ym, qf, ye]
    ·simp only; rw [Ov μ _ _ rfl]
     congr 1; funext b
     rw [jX μ _ _ rfl]; simp only [ym, qf, ye]
    ·rename_i id
     simp only
     cases get s.st id <;> try rfl
     simp only; rw [Ov μ _ _ rfl]; simp only [q6, run_pure, ye]
   | _ => rfl
 | fieldAddr t x f =>
  simp only [yP, stepOp, run_bind, zY]
  congr 1; funext i
  congr 1; funext a
  cases i.d with
  | struct fs =>
   simp only
   cases fs[f]? with
   | none => rfl
   | some p =>
    simp only [q6, ye]
    split
    ·rfl
    ·cases a <;> try rfl
     simp only [q6, qf, ye]
  | _ => rfl
 | field t x f =>
  simp only [yP, stepOp, run_bind, zY]
  congr 1; funext i
  congr 1; funext cs
  cases i.d with
  | struct fs =>
   cases s.ev x with
   | val g cs' =>
    cases g <;> try rfl
    simp only
    cases fs[f]? with
    | none => rfl
    | some p => simp only [run_bind, zY, q6, qf, ye]
   | _ => rfl
  | _ => rfl
 | indexAddr t x y =>
  simp only [yP, stepOp, run_bind, zY, VH]
  congr 1; funext a
  congr 1; funext b
  congr 1; funext i
  cases zy cfg t with
  | slice e =>
   cases a <;> try rfl
   ·simp only; rw [Zc μ _ _ rfl]
    cases μ.p.idx _ i with
    | none => rfl
    | some q => simp only [Option.bind_some, q6, qf, ye]
   ·simp only [run_bind, zY]
    congr 1; funext q
    rw [Zc μ _ _ rfl]
    cases μ.p.idx q.2 i with
    | none => rfl
    | some q => simp only [Option.bind_some, q6, qf, ye]
  | array n e =>
   cases a <;> try rfl
   rename_i id off
   simp only
   cases get s.st id <;> try rfl
   simp only
   rw [jX μ _ _ rfl]
   simp only [ym, qf, ye]
  | _ => rfl
 | index t x y =>
  simp only [yP, stepOp, run_bind, zY, VH]
  congr 1; funext b
  congr 1; funext i
  cases zy cfg t with
  | string =>
   cases s.ev x with
   | val g cs =>
    cases g <;> try rfl
    match cs with
    | [] => rfl
    | [c] =>
     cases c <;> try rfl
     simp only; rw [zcg μ _ _ rfl]
     cases μ.p.idxS _ i <;> rfl
    | c :: _ :: _ => cases c <;> rfl
   | _ => rfl
  | array n e =>
   cases s.ev x with
   | val g cs =>
    cases g <;> try rfl
    simp only [run_bind, zY]
    congr 1; funext te
    rw [jX μ _ _ rfl]
    simp only [ym, ye]
    rw [Zc μ _ _ rfl]
    simp only [run_bind, zY, qf]
   | _ => rfl
  | _ => rfl
 | extract x i =>
  simp only [yP, stepOp]
  cases s.ev x <;> try rfl
  rename_i vs
  simp only
  cases vs[i]? <;> rfl
 | call cl =>
  obtain ⟨callee, args, ts⟩ := cl
  cases callee with
  | builtin b => exact Dg cfg μ s nid b ts _
  | value g =>
   simp only [yP, stepOp]
   cases (s.ev g).one with
   | none => rfl
   | some c =>
    cases c <;> try rfl
    simp only [run_bind, Df]
    congr 1; funext r
    exact HO cfg μ nid dst r
  | invoke r m => rfl
 | _ => rfl
theorem Dk (ts : List Tmp) : ∀ sl st, (UQ ts sl st).run μ = QM μ.p ts sl st := by
 induction ts with
 | nil => intro sl st; rfl
 | cons t r ih =>
  intro sl st
  simp only [UQ, QM, run_bind, GY, ym, ih, run_pure, ye, Option.map_eq_bind]; rfl
theorem Lz (nid : Nat) (s : S) (o : Oper) : (UR cfg nid s o).run μ = stepN cfg μ nid s o := by
 unfold UR stepN
 simp only [ym, run_bind, HQ, run_pure, Option.map_eq_bind]; rfl
theorem L0 (nid : Nat) (s : S) (o : Oper) : (UT cfg nid s o).run μ = stepW cfg μ nid s o := by
 unfold UT stepW
 cases PN cfg.fz s o with
 | nil => exact Lz cfg μ nid s o
 | cons t r =>
  simp only [run_bind, Dk, Lz, run_pure, Option.map_eq_bind]; rfl
theorem Dl (st : List Entry) (id : Nat) : (Nu st id).run μ = some (R1 μ.p st id) := by
 unfold Nu R1
 cases get st id <;> rfl
theorem Dm (ids : List Nat) : ∀ st : List Entry, (UU ids st).run μ = some (WX μ.p ids st) := by
 induction ids with
 | nil => exact fun _ => rfl
 | cons id r ih =>
  intro st
  simp only [UU, WX, run_bind, Dl, ih, run_pure, Option.bind_some]
theorem L1 (nid : Nat) (s : S) (o : Oper) : (UV cfg nid s o).run μ = stepT cfg μ nid s o := by
 unfold UV stepT
 cases PO cfg.th s o with
 | nil => exact L0 cfg μ nid s o
 | cons t r =>
  simp only [run_bind, Dm, L0, run_pure, Option.map_eq_bind, Option.bind_some]; rfl
theorem L2 (nid : Nat) (s : S) (o : Oper) : (UW cfg nid s o).run μ = stepH cfg μ nid s o := by
 unfold UW stepH
 cases PM s o with
 | nil => exact L1 cfg μ nid s o
 | cons t r =>
  simp only [run_bind, Lx, L1, run_pure, Option.map_eq_bind]; rfl
theorem L3 (ops : List Oper) (nid : Nat) (s : S) (o : Oper) : (UX cfg ops nid s o).run μ = step1 cfg μ ops nid s o := by
 unfold UX step1
 cases o.guard with
 | none => exact L2 cfg μ nid s o
 | some g =>
  obtain ⟨j, want⟩ := g
  simp only
  cases (ops[j]?).bind (·.dst) with
  | none => rfl
  | some d =>
   simp only
   cases zB s.sl d with
   | val g cs =>
    cases g <;> try rfl
    match cs with
    | [] => rfl
    | [c] =>
     cases c <;> try rfl
     rename_i b
     rw [jX _ _ _ (show μ.ans (.tr b) = some (.b b) from rfl)]
     cases b <;> cases want <;> first | exact L2 cfg μ nid s o | rfl
    | c :: _ :: _ => cases c <;> rfl
   | tup vs =>
    cases vs <;> rfl
   | dead => rfl
theorem HR (all : List Oper) (ops : List Oper) : ∀ s, (RB cfg all ops s).run μ = region cfg μ all ops s := by
 induction ops with
 | nil => intro s; rfl
 | cons o r ih =>
  intro s
  simp only [RB, region, run_bind, L3, ym, ih, ye]
theorem G6 (all : List Oper) (ops : List Oper) : ∀ s fs, (Ks cfg all ops s fs).run μ = regionD cfg μ all ops s fs := by
 induction ops with
 | nil => intro s fs; rfl
 | cons o r ih =>
  intro s fs
  simp only [Ks, regionD, za5, run_bind, L3, ym, ih, ye]
theorem LR (prs : List (Nat × Nat)) (ops : List Oper) (d : Bool) (s : S) : (Kt cfg prs ops d s).run μ = runRegion cfg μ prs ops d s := by
 unfold Kt runRegion
 cases d <;> simp only [q6, run_bind, G6, HR, run_pure, ye, if_true] <;> rfl
theorem HS (st : List Entry) (id : Nat) : (Ou st id).run μ = frzVar μ.p st id := by
 unfold Ou frzVar
 cases get st id <;> simp only [run_bind, Oy, ym, run_pure, ye]
theorem G7 (ids : List Nat) : ∀ st, (Ku ids st).run μ = frzVars μ.p ids st := by
 induction ids with
 | nil => intro st; rfl
 | cons id r ih => intro st; simp only [Ku, frzVars, run_bind, HS, ih]
theorem Kv (f : FuncId) (code : Code) : ∀ s, (jW cfg f code s).run μ = exec cfg μ f code s := by
 induction code with
 | skip => intro s; rfl
 | region id ops d =>
  intro s
  simp only [jW, exec, run_bind, LR, run_pure]
  cases runRegion _ μ (cfg.free f id) ops.toList d s with
  | none => rfl
  | some s' => simp only [Option.bind_some, Lx, G7, Option.map_eq_bind]; rfl
 | seq a b iha ihb =>
  intro s
  simp only [jW, exec, run_bind, iha]
  cases exec cfg μ f a s with
  | none => rfl
  | some x =>
   obtain ⟨e, s1⟩ := x
   cases e <;> first | exact ihb s1 | rfl
 | cond x a b iha ihb =>
  intro s
  simp only [jW, exec]
  cases Xn (s.ev x) with
  | none => rfl
  | some t =>
   rw [jX _ _ _ (show μ.ans (.tr t) = some (.b t) from rfl)]
   cases t <;> first | exact iha s | exact ihb s
 | block id b ih =>
  intro s
  simp only [jW, exec, run_bind, ih]
  cases exec cfg μ f b s with
  | none => rfl
  | some x =>
   obtain ⟨e, s1⟩ := x
   cases e <;> simp only [Option.bind_some, Ke, q6, run_pure]
 | loop b ih => intro s; simp only [jW, exec, zfn, run_pure]; cases μ.loop f b s <;> rfl
 | exit id => intro s; rfl
 | ret => intro s; rfl
 | _ => intro s; rfl
theorem BH (s : S) (x : ResultVar) : (M1 cfg s x).run μ = Qo μ.p cfg s x := by
 cases x with
 | tmp t =>
  simp only [M1, Qo]
  cases zB s.sl t <;> rfl
 | cell a t =>
  simp only [M1, Qo]
  cases (zB s.sl a).one with
  | none => rfl
  | some c =>
   cases cfg.T t with
   | none => rfl
   | some i =>
    simp only [run_bind, Lw]
    cases ZP μ.p s i c with
    | none => rfl
    | some v => cases v <;> rfl
theorem zco (s : S) (rs : List ResultVar) : (HL cfg s rs).run μ = rs.mapM (Qo μ.p cfg s) := by
 induction rs with
 | nil => rfl
 | cons x rs ih =>
  rw [List.mapM_cons]
  simp only [HL, run_bind, BH, ih, run_pure]
  rfl
theorem Nw (hp : μ.p = prims) (cs : List C) : (UY cs).run μ = some (y6 cs) := by
 induction cs with
 | nil => rfl
 | cons c cs ih =>
  simp only [UY, run_bind, ih, y6]
  cases c <;> simp only [za8, ZL, run_pure, Option.bind_some]
  rw [Pb μ _ _ rfl, hp]; rfl
theorem BI (hp : μ.p = prims) (vs : List (Bool × List C)) : (M2 vs).run μ = some (vs.map fun x => (x.1, y6 x.2)) := by
 induction vs with
 | nil => rfl
 | cons x vs ih => simp only [M2, run_bind, Nw μ hp, Option.bind_some, ih, run_pure, List.map_cons]
theorem BJ (hp : μ.p = prims) (v : V) : (M3 v).run μ = some (PT v) := by
 cases v with
 | val g cs => simp only [M3, run_bind, Nw μ hp, Option.bind_some, run_pure, PT]
 | tup vs => simp only [M3, run_bind, BI μ hp, Option.bind_some, run_pure, PT]
 | dead => rfl
theorem Dn (hp : μ.p = prims) (f : FuncId) (k : Nat) (rs : List ResultVar) (s : S) : (UZ cfg f k rs s).run μ = Xr μ.p cfg f k rs s := by
 simp only [UZ, Xr, run_bind, zco, zY]
 cases rs.mapM (Qo μ.p cfg s) with
 | none => rfl
 | some vs =>
  simp only [Option.bind_some]
  cases Jt (!cfg.frz f) k s.st vs with
  | none => rfl
  | some x =>
   simp only [Option.bind_some]
   cases W6 k x.2 (s.st.take k) with
   | none => rfl
   | some y =>
    simp only [Option.map_some, Option.bind_some, ym, run_pure, hp, BJ]
    cases cfg.frz f <;> rfl
theorem Nx (hp : μ.p = prims) (f : FuncId) (st : List Entry) (args : List V) (code : Code) (nt : Nat) (rs : List ResultVar) : (Pa cfg f st args code nt rs).run μ = body cfg μ f st args code nt rs := by
 unfold Pa body
 cases j7 nt code with
 | false => rfl
 | true =>
  simp only [Bool.not_true, cond_false, run_bind, Kv]
  cases exec cfg μ f code (takeOver (cfg.mv f) ⟨W3 0 args, st, st.length⟩) with
  | none => rfl
  | some x =>
   obtain ⟨e, s⟩ := x
   cases e <;> simp only [Option.bind_some, Dn cfg μ hp, ye]
theorem BK {f : FuncId} {st : List Entry} {as : List V} {code : Code} {nt : Nat} {rs : List ResultVar} {r : V × List Entry} (l : List (Ask × Ans)) (hX : cfg.X f st as = none) (hf : cfg.funcs f = some (code, nt, rs))
  (h : Y0 (l.map Prod.snd) (Pa cfg f st as code nt rs) = some (r, l)) (hl : On (zx cfg) l) : (zx cfg).call f st as = some r := by
 refine Li hX hf ?_
 rw [<- Nx cfg (zx cfg) rfl]
 exact Kr h hl
theorem zcp {f : FuncId} {b : Code} {s s' : S} {r : Option (Ex × S)} (l : List (Ask × Ans)) (h : Y0 (l.map Prod.snd) (jW cfg f b s) = some ((.normal, s'), l)) (hl : On (zx cfg) l) (hr : (zx cfg).loop f b s' = r) :
  (zx cfg).loop f b s = r := by
 rw [V1]
 have := Kr h hl
 rw [Kv] at this
 rw [this]
 exact hr
theorem BL {f : FuncId} {b : Code} {s s' : S} {ex : Ex} (l : List (Ask × Ans)) (h : Y0 (l.map Prod.snd) (jW cfg f b s) = some ((ex, s'), l)) (hl : On (zx cfg) l) (he : ex ≠ .normal) :
  (zx cfg).loop f b s = some (ex, s') := by
 rw [V1]
 have := Kr h hl
 rw [Kv] at this
 rw [this]
 cases ex <;> first | exact (he rfl).elim | rfl
end
end Go.Am
/- Plain data as the machine has it, and what the machine answers of it. -/
namespace Go.Am
def eL {τ : Type} (e : τ → List C) (l : List τ) : List (List C) := l.map e
def yY (x : Int) : List C := [.int .i64 x]
def za (x : UInt8) : List C := [.int .u8 ((x.toNat : Nat) : Int)]
def Pc (x : Bool) : List C := [.bool x]
def Zo (x : List UInt8) : List C := [.str x]
def zi {τ : Type} (e : τ → List C) (x : List τ) : List C := [.seq (eL e x)]
structure Enc {τ : Type} (n : Nat) (e : τ → List C) : Prop where
 len : ∀ x, (e x).length = n
 pl : ∀ x, (e x).all plain = true
 vw : ∀ x, y6 (e x) = e x
theorem za9 : Enc 1 yY := ⟨fun _ => rfl, fun _ => rfl, fun _ => rfl⟩
theorem ze : Enc 1 za := ⟨fun _ => rfl, fun _ => rfl, fun _ => rfl⟩
theorem zim : Enc 1 Pc := ⟨fun _ => rfl, fun _ => rfl, fun _ => rfl⟩
theorem zgt : Enc 1 Zo := ⟨fun _ => rfl, fun _ => rfl, fun _ => rfl⟩
theorem zn {τ : Type} (e : τ → List C) : Enc 1 (zi e) := ⟨fun _ => rfl, fun _ => rfl, fun _ => rfl⟩
theorem BM {τ : Type} {n : Nat} {e : τ → List C} (E : Enc n e) (l : List τ) : xX (eL e l) = eL e l := by
 induction l with
 | nil => rfl
 | cons x l ih =>
  have : eL e (x :: l) = e x :: eL e l := rfl
  rw [this]; simp only [xX, ih, E.vw]
def yC {τ : Type} (n : Nat) (o : τ → List C) (x : List τ) : List C := [.own n (eL o x)]
structure OEnc {τ : Type} (n : Nat) (o e : τ → List C) : Prop where
 len : ∀ x, (o x).length = n
 vw : ∀ x, y6 (o x) = e x
 cl : ∀ x, vJ (o x) = true
theorem Kw : OEnc 1 yY yY := ⟨fun _ => rfl, fun _ => rfl, fun _ => rfl⟩
theorem z9 : OEnc 1 za za := ⟨fun _ => rfl, fun _ => rfl, fun _ => rfl⟩
theorem zin : OEnc 1 Pc Pc := ⟨fun _ => rfl, fun _ => rfl, fun _ => rfl⟩
theorem ziy : OEnc 1 Zo Zo := ⟨fun _ => rfl, fun _ => rfl, fun _ => rfl⟩
theorem vy {τ : Type} {n : Nat} {o e : τ → List C} (O : OEnc n o e) (l : List τ) : xX (eL o l) = eL e l := by
 induction l with
 | nil => rfl
 | cons x l ih =>
  have : eL o (x :: l) = o x :: eL o l := rfl
  rw [this]; simp only [xX, ih, O.vw]; rfl
theorem vA {τ : Type} {n : Nat} {o e : τ → List C} (O : OEnc n o e) (l : List τ) : jT (eL o l) = true := by
 induction l with
 | nil => rfl
 | cons x l ih =>
  have : eL o (x :: l) = o x :: eL o l := rfl
  rw [this]; simp only [jT, ih, O.cl]; rfl
theorem zC {τ : Type} {n : Nat} {o e : τ → List C} (m : Nat) (O : OEnc n o e) : OEnc 1 (yC m o) (zi e) :=
 ⟨fun _ => rfl, fun x => by simp only [yC, zi, y6, ZL, vy O], fun x => by simp only [yC, vJ, kL, vA O]; rfl⟩
theorem TE (s : List UInt8) : bytesOf (eL za s) = some s := by
 induction s with
 | nil => rfl
 | cons b s ih =>
  have h : eL za (b :: s) = [C.int .u8 ((b.toNat : Nat) : Int)] :: eL za s := rfl
  rw [h]
  have hb := b.toNat_lt
  simp only [bytesOf, ih]
  rw [if_pos (by omega)]
  simp
def zH (z : Int) : Option Nat := if 0 <= z then some z.toNat else none
def QZ (n : Nat) (x : Int) : Option Nat := if 0 <= x ∧ x < 2 ^ 62 ∧ n * x <= 140737488355328 then some x.toNat else none
def WB {τ : Type} (l : List τ) (lo hi : Option Nat) : Option (List τ) := (Wd lo hi l.length).map fun b => (l.take b.2).drop b.1
def y4 (n m : Nat) : Prop := m * n <= XF ∧ m <= 2 ^ 62
instance (n m : Nat) : Decidable (y4 n m) := by unfold y4; infer_instance
abbrev w64 (x : Int) : Int := IntKind.i64.wrap x
def b8 (x : Int) : UInt8 := UInt8.ofNat (IntKind.u8.wrap x).toNat
theorem Kx (x : Int) : (((b8 x).toNat : Nat) : Int) = IntKind.u8.wrap x := by
 have h : 0 <= IntKind.u8.wrap x ∧ IntKind.u8.wrap x < 256 := by unfold IntKind.wrap; simp [IntKind.bits, IntKind.signed]; omega
 unfold b8
 simp only [UInt8.toNat_ofNat']
 omega
theorem yu {x : Int} (h1 : -9223372036854775808 <= x) (h2 : x < 9223372036854775808) : w64 x = x := by unfold w64 IntKind.wrap; simp [IntKind.bits, IntKind.signed]; omega
theorem zhi {α : Type} {p : Prop} [Decidable p] {x : Option α} {r : α} (h : (if p then x else none) = some r) : p ∧ x = some r := by
 split at h
 ·rename_i hp; exact ⟨hp, h⟩
 ·cases h
def arB (n : Nat) (a : Nat → Bool) : List C := (List.range n).map fun j => .bool (a j)
def HT {τ : Type} (a : Nat → τ) (i : Nat) (x : τ) : Nat → τ := fun j => if j = i then x else a j
namespace A
variable {cfg : Cfg} {a b : Int} {τ : Type} {e : τ → List C} {n : Nat}
theorem ltI_t (h : a < b) : (zx cfg).ans (.ltI a b) = some (.b true) := by show some (Ans.b (decide (a < b))) = _; rw [decide_eq_true h]
theorem ltI_f (h : ¬ a < b) : (zx cfg).ans (.ltI a b) = some (.b false) := by show some (Ans.b (decide (a < b))) = _; rw [decide_eq_false h]
theorem ltI_d : (zx cfg).ans (.ltI a b) = some (.b (decide (a < b))) := rfl
theorem leI_t (h : a <= b) : (zx cfg).ans (.leI a b) = some (.b true) := by show some (Ans.b (decide (a <= b))) = _; rw [decide_eq_true h]
theorem leI_f (h : ¬ a <= b) : (zx cfg).ans (.leI a b) = some (.b false) := by show some (Ans.b (decide (a <= b))) = _; rw [decide_eq_false h]
theorem leI_d : (zx cfg).ans (.leI a b) = some (.b (decide (a <= b))) := rfl
theorem eqI_t (h : a = b) : (zx cfg).ans (.eqI a b) = some (.b true) := by subst h; show some (Ans.b (a == a)) = _; simp
theorem eqI_f (h : ¬ a = b) : (zx cfg).ans (.eqI a b) = some (.b false) := by show some (Ans.b (a == b)) = _; simp [h]
theorem eqI_d : (zx cfg).ans (.eqI a b) = some (.b (decide (a = b))) := by
 show some (Ans.b (a == b)) = _
 by_cases h : a = b <;> simp [h]
theorem eqS_t {a b : List UInt8} (h : a = b) : (zx cfg).ans (.eqS a b) = some (.b true) := by subst h; show some (Ans.b (a == a)) = _; simp
theorem eqS_f {a b : List UInt8} (h : ¬ a = b) : (zx cfg).ans (.eqS a b) = some (.b false) := by show some (Ans.b (a == b)) = _; simp [h]
theorem eqS_d {a b : List UInt8} : (zx cfg).ans (.eqS a b) = some (.b (decide (a = b))) := by
 show some (Ans.b (a == b)) = _
 by_cases h : a = b <;> simp [h]
theorem ltS_t {a b : List UInt8} (h : Op.bytesLess a b = true) : (zx cfg).ans (.ltS a b) = some (.b true) := by show some (Ans.b (Op.bytesLess a b)) = _; rw [h]
theorem ltS_f {a b : List UInt8} (h : ¬ Op.bytesLess a b = true) : (zx cfg).ans (.ltS a b) = some (.b false) := by show some (Ans.b (Op.bytesLess a b)) = _; rw [show Op.bytesLess a b = false by simpa using h]
theorem ltS_d {a b : List UInt8} : (zx cfg).ans (.ltS a b) = some (.b (decide (Op.bytesLess a b = true))) := by show some (Ans.b (Op.bytesLess a b)) = _; simp
theorem nat {z : Int} {i : Nat} (h : zH z = some i) : (zx cfg).ans (.nat z) = some (.n i) := by
 show (zH z).map Ans.n = _; rw [h]; rfl
theorem made {m : Nat} {x : Int} {k : Nat} (h : QZ m x = some k) : (zx cfg).ans (.made m x) = some (.n k) := by
 show (QZ m x).map Ans.n = _; rw [h]; rfl
theorem idx {l : List τ} {i : Nat} {x : τ} {cs : List C} (h : l[i]? = some x) (he : e x = cs) : (zx cfg).ans (.idx (eL e l) i) = some (.e cs) := by
 show ((eL e l)[i]?).map Ans.e = _
 unfold eL
 rw [List.getElem?_map, h, <- he]; rfl
theorem setL {l : List τ} {i : Nat} {x : τ} {cs : List C} (he : e x = cs) : (zx cfg).ans (.setL (eL e l) i cs) = some (.l (eL e (l.set i x))) := by
 show some (Ans.l ((eL e l).set i cs)) = _
 unfold eL
 rw [List.map_set, he]
theorem idxS {l : List UInt8} {i : Nat} {x : UInt8} (h : l[i]? = some x) : (zx cfg).ans (.idxS l i) = some (.u x) := by
 show (l[i]?).map Ans.u = _; rw [h]; rfl
theorem len {l : List τ} : (zx cfg).ans (.len (eL e l)) = some (.i (l.length : Int)) := by
 show some (Ans.i ((eL e l).length : Int)) = _
 unfold eL; rw [List.length_map]
theorem view (E : Enc n e) {l : List τ} : (zx cfg).ans (.view (eL e l)) = some (.l (eL e l)) := by
 show some (Ans.l (xX (eL e l))) = _; rw [BM E]
theorem viewO {o : τ → List C} (O : OEnc n o e) {l : List τ} : (zx cfg).ans (.view (eL o l)) = some (.l (eL e l)) := by
 show some (Ans.l (xX (eL o l))) = _; rw [vy O]
theorem cln {o : τ → List C} (O : OEnc n o e) {l : List τ} : (zx cfg).ans (.cln (eL o l)) = some (.b true) := by
 show some (Ans.b (jT (eL o l))) = _; rw [vA O]
theorem uniO {o : τ → List C} (O : OEnc n o e) {l : List τ} : (zx cfg).ans (.uni n (eL o l)) = some (.b true) := by
 show some (Ans.b ((eL o l).all (·.length == n))) = _
 congr 2
 rw [List.all_eq_true]
 intro x hx
 obtain ⟨y, _, rfl⟩ := List.mem_map.1 hx
 simp [O.len y]
theorem pl (E : Enc n e) {l : List τ} : (zx cfg).ans (.pl (eL e l)) = some (.b true) := by
 show some (Ans.b ((eL e l).all (·.all plain))) = _
 congr 2
 rw [List.all_eq_true]
 intro x hx
 obtain ⟨y, _, rfl⟩ := List.mem_map.1 hx
 exact E.pl y
theorem uni (E : Enc n e) {l : List τ} : (zx cfg).ans (.uni n (eL e l)) = some (.b true) := by
 show some (Ans.b ((eL e l).all (·.length == n))) = _
 congr 2
 rw [List.all_eq_true]
 intro x hx
 obtain ⟨y, _, rfl⟩ := List.mem_map.1 hx
 simp [E.len y]
theorem room {m : Nat} {l k : List τ} (h : y4 m (l.length + k.length)) : (zx cfg).ans (.room m (eL e l) (eL e k)) = some (.b true) := by
 show some (Ans.b (decide (((eL e l).length + (eL e k).length) * m <= XF ∧ (eL e l).length + (eL e k).length <= 2 ^ 62))) = _
 unfold eL
 rw [List.length_map, List.length_map]
 have h' : (l.length + k.length) * m <= XF ∧ l.length + k.length <= 2 ^ 62 := h
 rw [decide_eq_true h']
theorem app {l k : List τ} : (zx cfg).ans (.app (eL e l) (eL e k)) = some (.l (eL e (l ++ k))) := by
 show some (Ans.l (eL e l ++ eL e k)) = _
 unfold eL; rw [List.map_append]
theorem zi9 {k : List τ} : (zx cfg).ans (.app (eL e []) (eL e k)) = some (.l (eL e k)) := rfl
theorem rep {k : Nat} {z : τ} {cs : List C} (h : e z = cs) : (zx cfg).ans (.rep k cs) = some (.l (eL e (List.replicate k z))) := by
 show some (Ans.l (List.replicate k cs)) = _
 unfold eL; rw [List.map_replicate, h]
theorem cut {l : List τ} {lo hi : Option Nat} {x : List τ} (h : WB l lo hi = some x) : (zx cfg).ans (.cut (eL e l) lo hi) = some (.l (eL e x)) := by
 show ((Wd lo hi (eL e l).length).map fun b => ((eL e l).take b.2).drop b.1).map Ans.l = _
 unfold WB at h
 obtain ⟨b, hb, rfl⟩ := Option.map_eq_some_iff.1 h
 unfold eL
 rw [List.length_map, hb]
 simp [List.map_drop, List.map_take]
theorem cutS {l : List UInt8} {lo hi : Option Nat} {x : List UInt8} (h : WB l lo hi = some x) : (zx cfg).ans (.cutS l lo hi) = some (.s x) := by
 show (WB l lo hi).map Ans.s = _; rw [h]; rfl
theorem bytes {s : List UInt8} : (zx cfg).ans (.bytes (eL za s)) = some (.s s) := by
 show (bytesOf (eL za s)).map Ans.s = _
 rw [TE]; rfl
theorem ofStr {s : List UInt8} : (zx cfg).ans (.ofStr s) = some (.l (eL za s)) := rfl
theorem ziz {x : Int} : (zx cfg).ans (.conv .u8 x) = some (.i (((b8 x).toNat : Nat) : Int)) := by rw [Kx]; rfl
theorem conv_u8 {x : UInt8} : (zx cfg).ans (.conv .i64 ((x.toNat : Nat) : Int)) = some (.i ((x.toNat : Nat) : Int)) := by
 show some (Ans.i (IntKind.i64.wrap _)) = _
 have hb := x.toNat_lt
 rw [show IntKind.i64.wrap ((x.toNat : Nat) : Int) = ((x.toNat : Nat) : Int) from yu (by omega) (by omega)]
theorem zja {x y : Int} : (zx cfg).ans (.add .u8 x y) = some (.i (((b8 (x + y)).toNat : Nat) : Int)) := by rw [Kx]; rfl
theorem zjb {x y : Int} : (zx cfg).ans (.sub .u8 x y) = some (.i (((b8 (x - y)).toNat : Nat) : Int)) := by rw [Kx]; rfl
theorem nz {x : Int} (h : x ≠ 0) : (zx cfg).ans (.nz x) = some (.b true) := by show some (Ans.b (!(x == 0))) = _; simp [h]
theorem zi0 {n i : Nat} {a : Nat → Bool} (h : ((i : Nat) : Int) < ((n : Nat) : Int)) : (zx cfg).ans (.subA (arB n a) i 1 0 1) = some (.e [.bool (a i)]) := by
 show (prims.subA (arB n a) i 1 0 1).map Ans.e = _
 have hl : (arB n a).length = n := by simp [arB]
 have hi : i < (arB n a).length := by omega
 simp only [prims, Nat.mul_one, Nat.add_zero]
 rw [if_pos (by omega), List.drop_eq_getElem_cons hi]
 simp [arB]
theorem zi1 {n i : Nat} {a : Nat → Bool} {x : Bool} (h : ((i : Nat) : Int) < ((n : Nat) : Int)) : (zx cfg).ans (.putA (arB n a) i 1 0 [.bool x]) = some (.e (arB n (HT a i x))) := by
 show (prims.putA (arB n a) i 1 0 [.bool x]).map Ans.e = _
 have hl : (arB n a).length = n := by simp [arB]
 simp only [prims, Nat.mul_one, Nat.add_zero, List.length_cons, List.length_nil, Nat.zero_add]
 rw [if_pos (by omega)]
 simp only [Option.map_some]
 congr 2
 refine List.ext_getElem? fun j => ?_
 rw [List.append_assoc]
 rcases Nat.lt_trichotomy j i with hj | hj | hj
 ·rw [List.getElem?_append_left (by simp; omega), List.getElem?_take_of_lt hj]
  unfold arB HT
  rw [List.getElem?_map, List.getElem?_map, List.getElem?_range (by omega)]
  simp; omega
 ·subst hj
  rw [List.getElem?_append_right (by simp; omega)]
  have : j - (List.take j (arB n a)).length = 0 := by simp; omega
  rw [this]
  unfold arB HT
  rw [List.getElem?_map, List.getElem?_range (by omega)]
  simp
 ·rw [List.getElem?_append_right (by simp; omega), List.getElem?_append_right (by simp; omega), List.getElem?_drop]
  have : i + 1 + (j - (List.take i (arB n a)).length - [C.bool x].length) = j := by simp; omega
  rw [this]
  unfold arB HT
  rw [List.getElem?_map, List.getElem?_map]
  by_cases hjn : j < n
  ·rw [List.getElem?_range hjn]; simp; omega
  ·rw [List.getElem?_eq_none (by simp; omega)]; rfl
theorem call {f : FuncId} {st st' : List Entry} {as : List V} {v : V} (h : (zx cfg).call f st as = some (v, st')) : (zx cfg).ans (.call f st as) = some (.r v st') := by
 show ((zx cfg).call f st as).map (fun r => Ans.r r.1 r.2) = _; rw [h]; rfl
theorem loop {f : FuncId} {b : Code} {s s' : S} {ex : Ex} (h : (zx cfg).loop f b s = some (ex, s')) : (zx cfg).ans (.loop f b s) = some (.x ex s') := by
 show ((zx cfg).loop f b s).map (fun r => Ans.x r.1 r.2) = _; rw [h]; rfl
end A
structure Q (cfg : Cfg) where
 q : Ask
 a : Ans
 h : (zx cfg).ans q = some a
namespace Q
variable {cfg : Cfg} {a b : Int} {τ : Type}
def p (x : Q cfg) : Ask × Ans := (x.q, x.a)
theorem told (l : List (Q cfg)) : On (zx cfg) (l.map p) := by
 induction l with
 | nil => trivial
 | cons x l ih => exact ⟨x.h, ih⟩
theorem snd (l : List (Q cfg)) : (l.map p).map Prod.snd = l.map Q.a := by
 induction l with
 | nil => rfl
 | cons x l ih => simp only [List.map_cons, ih]; rfl
def lT (h : a < b) : Q cfg := ⟨.ltI a b, .b true, A.ltI_t h⟩
def lF (h : ¬ a < b) : Q cfg := ⟨.ltI a b, .b false, A.ltI_f h⟩
def lD (a b : Int) : Q cfg := ⟨.ltI a b, .b (decide (a < b)), A.ltI_d⟩
def gT (h : a <= b) : Q cfg := ⟨.leI a b, .b true, A.leI_t h⟩
def gF (h : ¬ a <= b) : Q cfg := ⟨.leI a b, .b false, A.leI_f h⟩
def gD (a b : Int) : Q cfg := ⟨.leI a b, .b (decide (a <= b)), A.leI_d⟩
def eT (h : a = b) : Q cfg := ⟨.eqI a b, .b true, A.eqI_t h⟩
def eF (h : ¬ a = b) : Q cfg := ⟨.eqI a b, .b false, A.eqI_f h⟩
def eD (a b : Int) : Q cfg := ⟨.eqI a b, .b (decide (a = b)), A.eqI_d⟩
def lTo (a b : Int) (h : a < b) : Q cfg := lT h
def lFo (a b : Int) (h : ¬ a < b) : Q cfg := lF h
def gTo (a b : Int) (h : a <= b) : Q cfg := gT h
def gFo (a b : Int) (h : ¬ a <= b) : Q cfg := gF h
def eTo (a b : Int) (h : a = b) : Q cfg := eT h
def eFo (a b : Int) (h : ¬ a = b) : Q cfg := eF h
def sT {a b : List UInt8} (h : a = b) : Q cfg := ⟨.eqS a b, .b true, A.eqS_t h⟩
def sF {a b : List UInt8} (h : ¬ a = b) : Q cfg := ⟨.eqS a b, .b false, A.eqS_f h⟩
def nt (b : Bool) : Q cfg := ⟨.notB b, .b (!b), rfl⟩
def ad (a b : Int) : Q cfg := ⟨.add .i64 a b, .i (w64 (a + b)), rfl⟩
def su (a b : Int) : Q cfg := ⟨.sub .i64 a b, .i (w64 (a - b)), rfl⟩
def na {z : Int} {i : Nat} (h : zH z = some i) : Q cfg := ⟨.nat z, .n i, A.nat h⟩
def le (e : τ → List C) (x : List τ) : Q cfg := ⟨.len (eL e x), .i (x.length : Int), A.len⟩
def ix {e : τ → List C} {l : List τ} {i : Nat} {x : τ} {cs : List C} (h : l[i]? = some x) (he : e x = cs) : Q cfg := ⟨.idx (eL e l) i, .e cs, A.idx h he⟩
def ix0 (e : τ → List C) {l : List τ} {i : Nat} {x : τ} (h : l[i]? = some x) : Q cfg := ⟨.idx (eL e l) i, .e (e x), A.idx h rfl⟩
def cl {f : FuncId} {st : List Entry} {as : List V} {r : V × List Entry} (h : (zx cfg).call f st as = some r) : Q cfg := ⟨.call f st as, .r r.1 r.2, A.call h⟩
def lp {f : FuncId} {b : Code} {s : S} {r : Ex × S} (h : (zx cfg).loop f b s = some r) : Q cfg := ⟨.loop f b s, .x r.1 r.2, A.loop h⟩
end Q
section
variable {cfg : Cfg}
theorem zh9 {f : FuncId} {st : List Entry} {as : List V} {code : Code} {nt : Nat} {rs : List ResultVar} {r : V × List Entry} (l : List (Q cfg)) (hX : cfg.X f st as = none) (hf : cfg.funcs f = some (code, nt, rs))
  (h : Y0 (l.map Q.a) (Pa cfg f st as code nt rs) = some (r, l.map Q.p)) : (zx cfg).call f st as = some r :=
 BK cfg (l.map Q.p) hX hf (by rw [Q.snd]; exact h) (Q.told l)
theorem zia {f : FuncId} {b : Code} {s s' : S} {r : Option (Ex × S)} (l : List (Q cfg)) (h : Y0 (l.map Q.a) (jW cfg f b s) = some ((.normal, s'), l.map Q.p)) (hr : (zx cfg).loop f b s' = r) : (zx cfg).loop f b s = r :=
 zcp cfg (l.map Q.p) (by rw [Q.snd]; exact h) (Q.told l) hr
theorem zib {f : FuncId} {b : Code} {s s' : S} {ex : Ex} (l : List (Q cfg)) (h : Y0 (l.map Q.a) (jW cfg f b s) = some ((ex, s'), l.map Q.p)) (he : ex ≠ .normal) : (zx cfg).loop f b s = some (ex, s') :=
 BL cfg (l.map Q.p) (by rw [Q.snd]; exact h) (Q.told l) he
end
theorem bs {α β : Type} {x : Option α} {f : α → Option β} {r : β} (h : x.bind f = some r) : ∃ a, x = some a ∧ f a = some r := Option.bind_eq_some_iff.1 h
theorem zhr {α : Type} {p : Prop} [Decidable p] {x y : Option α} {r : α} (h : (if p then x else y) = some r) : (p ∧ x = some r) ∨ (¬ p ∧ y = some r) := by
 by_cases c : p
 ·exact .inl ⟨c, by rw [if_pos c] at h; exact h⟩
 ·exact .inr ⟨c, by rw [if_neg c] at h; exact h⟩
def bodyOf (f : Func) : Code := match f.body with | some b => b | none => .skip
def zQ (f : Func) (n : Nat) : Code := ((We (bodyOf f))[n]?).getD .skip
end Go.Am
/- Arguments of a type, read as plain data. -/
namespace Go.Am
def Rd {τ : Type} (T : TypeId → Option TI) (t : TypeId) (e : τ → List C) (md : τ → Prop) : Prop := ∀ cs, WT T t cs → ∃ x, cs = e x ∧ md x
def zfq (n : Int) : Prop := -9223372036854775808 <= n ∧ n < 9223372036854775808
section
variable {T : TypeId → Option TI} {t u : TypeId} {τ : Type} {e : τ → List C} {md : τ → Prop}
theorem Do {i : TI} (h : T t = some i) (hd : i.d = .int .i64) : Rd T t yY zfq := by
 intro cs hw
 obtain ⟨n, rfl, h1⟩ := hw.int_inv h hd
 refine ⟨n, rfl, ?_⟩
 simp [Lit.wf, IntKind.min, IntKind.max, IntKind.bits, IntKind.signed] at h1
 unfold zfq
 omega
theorem zba {i : TI} (h : T t = some i) (hd : i.d = .int .u8) : Rd T t za fun _ => True := by
 intro cs hw
 obtain ⟨n, rfl, h1⟩ := hw.int_inv h hd
 simp [Lit.wf, IntKind.min, IntKind.max, IntKind.bits, IntKind.signed] at h1
 refine ⟨UInt8.ofNat n.toNat, ?_, trivial⟩
 unfold za
 simp only [UInt8.toNat_ofNat']
 congr 2
 omega
theorem zic {i : TI} (h : T t = some i) (hd : i.d = .bool) : Rd T t Pc fun _ => True := by
 intro cs hw
 obtain ⟨b, rfl⟩ := hw.bool_inv h hd
 exact ⟨b, rfl, trivial⟩
theorem GZ {l : List (List C)} (h : ∀ x ∈ l, ∃ y, x = e y ∧ md y) : ∃ l', l = eL e l' ∧ ∀ y ∈ l', md y := by
 induction l with
 | nil => exact ⟨[], rfl, fun y hy => by cases hy⟩
 | cons x l ih =>
  obtain ⟨l', rfl, hl⟩ := ih fun x hx => h x (by simp [hx])
  obtain ⟨y, rfl, hy⟩ := h x (by simp)
  refine ⟨y :: l', rfl, fun z hz => ?_⟩
  rcases List.mem_cons.1 hz with rfl | hz
  ·exact hy
  ·exact hl z hz
theorem Dp (l : List τ) : (eL e l).length = l.length := by unfold eL; rw [List.length_map]
theorem HU {i : TI} (h : T t = some i) (hd : i.d = .slice u) (hu : Rd T u e md) : Rd T t (zi e) fun l => l.length <= 2 ^ 63 - 1 ∧ ∀ y ∈ l, md y := by
 intro cs hw
 obtain ⟨l, rfl, hl, hs⟩ := hw.slice_inv h hd
 obtain ⟨l', rfl, hm⟩ := GZ fun x hx => hu x (hs x hx)
 rw [Dp] at hl
 exact ⟨l', rfl, hl, hm⟩
theorem zcq {md' : τ → Prop} (h : Rd T t e md) (hm : ∀ x, md x → md' x) : Rd T t e md' := fun cs hw => by
 obtain ⟨x, rfl, hx⟩ := h cs hw
 exact ⟨x, rfl, hm x hx⟩
theorem zfr {x : List C} {l : List (List C)} {cs : List C} (hx : x ∈ l) (hc : C.seq l ∈ cs) : SizeOf.sizeOf x < SizeOf.sizeOf cs := by
 have h1 := List.sizeOf_lt_of_mem hx
 have h2 := List.sizeOf_lt_of_mem hc
 have h3 : SizeOf.sizeOf (C.seq l) = 1 + SizeOf.sizeOf l := C.seq.sizeOf_spec l
 omega
theorem Ny {α β : Type} {R : α → β → Prop} {bs : List β} (h : All2 R [] bs) : bs = [] := by cases h; rfl
theorem Xg {α β : Type} {R : α → β → Prop} {a : α} {as : List α} {bs : List β} (h : All2 R (a :: as) bs) : ∃ b bs', bs = b :: bs' ∧ R a b ∧ All2 R as bs' := by
 cases h with
 | cons h1 h2 => exact ⟨_, _, rfl, h1, h2⟩
end
end Go.Am
/- A function of the library that has no body: two texts compared. -/
namespace Go.Am
def Nz (st : List Entry) : List V → Option (V × List Entry)
 | [.val false [.seq a], .val false [.seq b]] => match st with
  | [] => (bytesOf a).bind fun x => (bytesOf b).map fun y => (.val false [.int .i64 (Lib.compareBytes x y)], [])
  | _ => none
 | _ => none
def BN {α : Type} (l : List α) (i : Nat) (x : α) : List α := l.take i ++ [x] ++ l.drop i
theorem zhs {α : Type} (l : List α) (i : Nat) (x : α) (hi : i <= l.length) (m : Nat) : (BN l i x)[m]? = if m < i then l[m]? else if m = i then some x else l[m - 1]? := by
 unfold BN
 have hl : (l.take i).length = i := by simp; omega
 split
 ·rename_i h1
  rw [List.append_assoc, List.getElem?_append_left (by omega), List.getElem?_take_of_lt h1]
 ·rename_i h1
  split
  ·rename_i h2
   subst h2
   rw [List.append_assoc, List.getElem?_append_right (by omega), hl]; simp
  ·rename_i h2
   rw [List.getElem?_append_right (by simp; omega), List.length_append, hl, List.getElem?_drop]
   congr 1; simp; omega
def zjc (st : List Entry) : List V → Option (V × List Entry)
 | [.val false [.ref 0], .val false [.int .i64 i], .val false [.ref 1]] => match st with
  | [.obj 9 l, .obj 9 [x]] => if 0 <= i ∧ i <= (l.length : Int) ∧ l.length <= 1048576 then some (.val false [.own 9 (BN l i.toNat x)], [.dead, .dead]) else none
  | _ => none
 | _ => none
def BO {α : Type} (l : List α) (i : Nat) : List α := l.take i ++ l.drop (i + 1)
theorem zht {α : Type} (l : List α) (i : Nat) (hi : i < l.length) (m : Nat) : (BO l i)[m]? = if m < i then l[m]? else l[m + 1]? := by
 unfold BO
 have hl : (l.take i).length = i := by simp; omega
 split
 ·rename_i h1
  rw [List.getElem?_append_left (by omega), List.getElem?_take_of_lt h1]
 ·rename_i h1
  rw [List.getElem?_append_right (by omega), hl, List.getElem?_drop]
  congr 1; omega
def zjd (st : List Entry) : List V → Option (V × List Entry)
 | [.val false [.ref 0], .val false [.int .i64 i], .val false [.int .i64 j]] => match st with
  | [.obj 9 l] => if 0 <= i ∧ i < (l.length : Int) ∧ j = i + 1 ∧ l.length <= 1048576 then some (.val false [.own 9 (BO l i.toNat)], [.dead]) else none
  | _ => none
 | _ => none
section
variable {P : Program} {w : World} {cls : Cls} {hdr : Hdr}
theorem LS : ∀ (s : List UInt8) (q : Addr) (acc : ByteArray), (∀ i b, s[i]? = some b → w.cell? (q.add i) = some (.int .u8 ((b.toNat : Nat) : Int))) →
  ∃ r : ByteArray, (Extern.Bytes.loadBytes q s.length acc).run P w = .ok r w ∧ r.data.toList = acc.data.toList ++ s := by
 intro s
 induction s with
 | nil => intro q acc _; exact ⟨acc, rfl, by simp⟩
 | cons b s ih =>
  intro q acc h
  have h0 := h 0 b rfl
  rw [show q.add 0 = q by simp [Addr.add]] at h0
  obtain ⟨r, h1, h2⟩ := ih (q.add 1) (acc.push ((b.toNat : Nat) : Int).toNat.toUInt8) (fun i c hi => by rw [Nn, Nat.add_comm]; exact h (i + 1) c (by simpa using hi))
  refine ⟨r, ?_, ?_⟩
  ·simp only [List.length_cons, Extern.Bytes.loadBytes, Sem.run_bind, Lk h0, Result.andThen_ok]
   exact h1
  ·rw [h2]
   simp [ByteArray.push]
theorem Jw {u : Value} {l : List (List C)} {s : List UInt8} (h : RepC w cls hdr none u (.seq l)) (hs : bytesOf l = some s) : ∃ r : ByteArray, (Extern.Bytes.bytesOf u).run P w = .ok r w ∧ r.data.toList = s := by
 have hm := Ju hs
 have h1 : l.length = s.length := by rw [hm]; simp
 have h2 : ∀ (i : Nat) b, s[i]? = some b → l[i]? = some [.int .u8 ((b.toNat : Nat) : Int)] := fun i b hi => by rw [hm, List.getElem?_map, hi]; rfl
 obtain ⟨A, cap, sz, rfl, hc, hu, hcells⟩ := XJ (vb := fun _ => 0) (st := []) (show zo w cls hdr (fun _ => 0) [] u (.seq l) from h)
 cases s with
 | nil =>
  have : l = [] := List.eq_nil_of_length_eq_zero (by simpa using h1)
  subst this
  cases A with
  | none => exact ⟨.empty, rfl, rfl⟩
  | some q => exact ⟨.empty, rfl, rfl⟩
 | cons b s =>
  have hl0 := h2 0 b rfl
  obtain ⟨q, rfl, _, _, _⟩ := hcells 0 0 _ _ hl0 rfl
  have hsz : sz = 1 := by rw [<- hu _ (List.mem_of_getElem? hl0)]; rfl
  subst hsz
  obtain ⟨r, r1, r2⟩ := LS (P := P) (w := w) (b :: s) q .empty (fun i c hi => by
   have hli := h2 i c hi
   obtain ⟨q', e, _, _, v, hv, hr⟩ := hcells i 0 _ _ hli rfl
   injection e with e
   subst e
   have := (show zo w cls hdr (fun _ => 0) [] v (.int .u8 ((c.toNat : Nat) : Int)) from hr).int
   rw [this] at hv
   simpa using hv)
  refine ⟨r, ?_, by simpa using r2⟩
  rw [h1]
  exact r1
theorem Pd {f : FuncId} {fn : Func} (hf : P.funcs[f]? = some fn) (hn : (fn.name == "runtime.NumGoroutine") = false) (hb : fn.body = none) (hnext : Extern.findNext fn = none) (hfind : Extern.find fn = some Extern.BytealgCompare.compare)
  {st : List Entry} {as : List V} {r : V × List Entry} (h : Nz st as = some r) : wW P f st as r := by
 intro w cls hdr vb us hgl hus hE hids hvars
 unfold Nz at h
 split at h
 ·rename_i a b
  split at h
  ·obtain ⟨x, hx, h⟩ := Option.bind_eq_some_iff.1 h
   obtain ⟨y, hy, rfl⟩ := Option.map_eq_some_iff.1 h
   obtain ⟨l⟩ := us
   cases hus with
   | cons h1 hus => cases hus with
    | cons h2 hus => cases hus with
     | nil =>
      obtain ⟨r1, e1, d1⟩ := Jw (P := P) h1.one hx
      obtain ⟨r2, e2, d2⟩ := Jw (P := P) h2.one hy
      refine .inr ⟨.int .i64 (Lib.compareBytes x y), w, ?_, cls, hdr, vb, Keep.refl _ _ _ _ _ _, fun b _ hc => ⟨rfl, hc⟩, zo.val (RepC.int _ _ _), hE⟩
      have hn' : ¬ fn.name = "runtime.NumGoroutine" := by simpa using hn
      have hc : ∀ u1 u2 : Value, Extern.BytealgCompare.compare #[u1, u2] = (do pure (goInt (Extern.BytealgCompare.cmp (<- Extern.Bytes.bytesOf u1) (<- Extern.Bytes.bytesOf u2)))) := fun _ _ => rfl
      simp [callFunc, hf, hn', hb, hnext, hfind, hc, e1, e2, goInt, Lib.cmp_eq, d1, d2]
  ·cases h
 ·cases h
def zfs (st : List Entry) : List V → Option (V × List Entry)
 | [.val false [.seq a], .val false [.int .u8 c]] => match st with
  | [] => (bytesOf a).map fun x => (.val false [.int .i64 (Lib.indexByte x c.toNat.toUInt8)], [])
  | _ => none
 | _ => none
theorem zio {f : FuncId} {fn : Func} (hf : P.funcs[f]? = some fn) (hn : (fn.name == "runtime.NumGoroutine") = false) (hb : fn.body = none) (hnext : Extern.findNext fn = none) (hfind : Extern.find fn = some Extern.BytealgIndexByte.indexByte)
  {st : List Entry} {as : List V} {r : V × List Entry} (h : zfs st as = some r) : wW P f st as r := by
 intro w cls hdr vb us hgl hus hE hids hvars
 unfold zfs at h
 split at h
 ·rename_i a c
  split at h
  ·obtain ⟨x, hx, rfl⟩ := Option.map_eq_some_iff.1 h
   obtain ⟨l⟩ := us
   cases hus with
   | cons h1 hus => cases hus with
    | cons h2 hus => cases hus with
     | nil =>
      rename_i u1 _
      obtain ⟨r1, e1, d1⟩ := Jw (P := P) h1.one hx
      have e2 := h2.one.int
      refine .inr ⟨.int .i64 (Lib.indexByte x c.toNat.toUInt8), w, ?_, cls, hdr, vb, Keep.refl _ _ _ _ _ _, fun b _ hc => ⟨rfl, hc⟩, zo.val (RepC.int _ _ _), hE⟩
      have hn' : ¬ fn.name = "runtime.NumGoroutine" := by simpa using hn
      have hc : ∀ u1 u2 : Value, Extern.BytealgIndexByte.indexByte #[u1, u2] = (do
        let b <- Extern.Bytes.bytesOf u1
        let c <- Extern.Bytes.asByte u2
        match (List.range b.size).find? fun i => b[i]! == c with
        | some i => pure (goInt i)
        | none => pure (goInt (-1))) := fun _ _ => rfl
      have hk := Lib.firstIdx_eq r1 c.toNat.toUInt8
      rw [d1] at hk
      unfold firstIdx at hk
      subst e2
      have hX : (Extern.BytealgIndexByte.indexByte #[u1, .int .u8 c]).run P w = .ok (.int .i64 (Lib.indexByte x c.toNat.toUInt8)) w := by
       rw [hc]
       simp only [Sem.run_bind, e1, Result.andThen_ok, Extern.Bytes.asByte, Sem.run_pure]
       split <;> rename_i hq <;> rw [hq] at hk <;> simp [goInt, <- hk]
      simp [callFunc, hf, hn', hb, hnext, hfind, hX]
  ·cases h
 ·cases h
def vB (b : Bool) : C := bif b then .opq else .raw .nilIface
def xO (s : List UInt8) : Int × Bool :=
 match Lib.atoiAll s with
 | .ok v => (v, false)
 | .range => (Lib.atoiSat s, true)
 | _ => (0, true)
def zbb (st : List Entry) : List V → Option (V × List Entry)
 | [.val false [.str s]] => match st with
  | [] => if s.length <= 2 ^ 40 then some (.tup [(false, [.int .i64 (xO s).1]), (false, [vB (xO s).2])], []) else none
  | _ => none
 | _ => none
theorem zid {f ge gr : Nat} (henter : ∀ args w, (callFunc f args).run P w = .ok (.enter f args) w)
  (hok : ∀ (s : ByteArray), s.size <= 2 ^ 40 → ∀ v, Lib.atoiAll s.data.toList = .ok v → ∀ w, Calls P f #[.string s] w fun e w' => e = .returned (.tuple #[.int .i64 v, .nilIface]) ∧ RowKit.Below w.heap.size w w')
  (hsyn : ∀ (s : ByteArray), s.size <= 2 ^ 40 → (∀ v, Lib.atoiAll s.data.toList ≠ .ok v) → Lib.atoiAll s.data.toList ≠ .range → ∀ (te : TypeId) (pe : Value) w, w.cell? ⟨ge, 0, none⟩ = some (.iface te pe) → Calls P f #[.string s] w fun e w' => (∃ T z, e = .returned (.tuple #[.int .i64 0, .iface T z])) ∧ RowKit.Below w.heap.size w w')
  (hrng : ∀ (s : ByteArray), s.size <= 2 ^ 40 → Lib.atoiAll s.data.toList = .range → ∀ (te : TypeId) (pe : Value) w, w.cell? ⟨gr, 0, none⟩ = some (.iface te pe) → Calls P f #[.string s] w fun e w' => (∃ T z, e = .returned (.tuple #[.int .i64 (Lib.atoiSat s.data.toList), .iface T z])) ∧ RowKit.Below w.heap.size w w')
  (h1 : P.globalNamed "strconv.ErrSyntax" = some ge) (h2 : P.globalNamed "strconv.ErrRange" = some gr)
  {st : List Entry} {as : List V} {r : V × List Entry} (h : zbb st as = some r) : wW P f st as r := by
 intro w cls hdr vb us hgl hus hE hids hvars
 unfold zbb at h
 split at h
 ·rename_i s
  split at h
  ·split at h
   ·rename_i hs
    injection h with h
    subst h
    obtain ⟨l⟩ := us
    cases hus with
    | cons h1' hus => cases hus with
     | nil =>
      have e1 := h1'.one.str
      subst e1
      have hsz : (⟨s.toArray⟩ : ByteArray).size = s.length := by simp [ByteArray.size]
      have hd : (⟨s.toArray⟩ : ByteArray).data.toList = s := by simp
      have fin : ∀ (n : Int) (b : Bool) (u : Value) w', RowKit.Below w.heap.size w w' → zo w' cls hdr vb [] u (vB b) → ∃ cls' hdr' vb', Keep w cls hdr vb [] w' cls' hdr' vb' (yx (.tup [(false, [.int .i64 n]), (false, [vB b])], [])).2 (fun id => id < ([] : List Entry).length) ∧ (∀ b, b < w.heap.size → cls b = some [] → w'.heap[b]? = w.heap[b]? ∧ cls' b = some []) ∧
        yp w' cls' hdr' vb' (yx (.tup [(false, [.int .i64 n]), (false, [vB b])], [])).2 (.tuple #[.int .i64 n, u]) (yx (.tup [(false, [.int .i64 n]), (false, [vB b])], [])).1 ∧ ∀ id, yd w' cls' hdr' vb' (yx (.tup [(false, [.int .i64 n]), (false, [vB b])], [])).2 id (get (yx (.tup [(false, [.int .i64 n]), (false, [vB b])], [])).2 id) := by
       intro n b u w' hb hu
       have hl : yx (.tup [(false, [.int .i64 n]), (false, [vB b])], []) = (.tup [(false, [.int .i64 n]), (false, [vB b])], []) := by cases b <;> rfl
       rw [hl]
       obtain ⟨b1, b2, b3, b4, b5⟩ := hb
       refine ⟨cls, hdr, vb, ⟨fun k hk hc => ⟨b5 k hk, hc⟩, fun id hid => by simp at hid, fun id hid => by simp at hid, b4, b1, b3, b2⟩, fun k hk hc => ⟨b5 k hk, hc⟩, ?_, fun id => by
        show yd _ _ _ _ _ _ (get [] id)
        rw [show get [] id = .dead by cases id <;> rfl]; trivial⟩
       refine ⟨[.int .i64 n, u], rfl, .cons ⟨[.int .i64 n], .cons (RepC.int _ _ _) .nil, rfl⟩ (.cons ⟨[u], .cons hu .nil, rfl⟩ .nil)⟩
      have conv : ∀ {post : Ending → World → Prop}, Calls P f #[.string ⟨s.toArray⟩] w post → (∀ e w', post e w' → ∃ u, e = .returned u ∧ ∃ cls' hdr' vb', Keep w cls hdr vb [] w' cls' hdr' vb' (yx (.tup [(false, [.int .i64 (xO s).1]), (false, [vB (xO s).2])], [])).2 (fun id => id < ([] : List Entry).length) ∧ (∀ b, b < w.heap.size → cls b = some [] → w'.heap[b]? = w.heap[b]? ∧ cls' b = some []) ∧
        yp w' cls' hdr' vb' (yx (.tup [(false, [.int .i64 (xO s).1]), (false, [vB (xO s).2])], [])).2 u (yx (.tup [(false, [.int .i64 (xO s).1]), (false, [vB (xO s).2])], [])).1 ∧ ∀ id, yd w' cls' hdr' vb' (yx (.tup [(false, [.int .i64 (xO s).1]), (false, [vB (xO s).2])], [])).2 id (get (yx (.tup [(false, [.int .i64 (xO s).1]), (false, [vB (xO s).2])], [])).2 id)) →
        ze9 P f #[.string ⟨s.toArray⟩] w fun u w' => ∃ cls' hdr' vb', Keep w cls hdr vb [] w' cls' hdr' vb' (yx (.tup [(false, [.int .i64 (xO s).1]), (false, [vB (xO s).2])], [])).2 (fun id => id < ([] : List Entry).length) ∧ (∀ b, b < w.heap.size → cls b = some [] → w'.heap[b]? = w.heap[b]? ∧ cls' b = some []) ∧
        yp w' cls' hdr' vb' (yx (.tup [(false, [.int .i64 (xO s).1]), (false, [vB (xO s).2])], [])).2 u (yx (.tup [(false, [.int .i64 (xO s).1]), (false, [vB (xO s).2])], [])).1 ∧ ∀ id, yd w' cls' hdr' vb' (yx (.tup [(false, [.int .i64 (xO s).1]), (false, [vB (xO s).2])], [])).2 id (get (yx (.tup [(false, [.int .i64 (xO s).1]), (false, [vB (xO s).2])], [])).2 id) := fun hc hp =>
       .inl ⟨henter _ _, hc.mono fun e w' he => by obtain ⟨u, rfl, hu⟩ := hp e w' he; exact hu⟩
      have hgs : ∀ n g, (n, [C.opq]) ∈ XH → P.globalNamed n = some g → ∃ te pe, w.cell? ⟨g, 0, none⟩ = some (.iface te pe) := fun n g hm hg => by
       obtain ⟨_, _, h3, _⟩ := hgl n _ hm g hg
       obtain ⟨u, hu, hr⟩ := h3 0 .opq rfl
       cases hr
       exact ⟨_, _, hu⟩
      cases ha : Lib.atoiAll s with
      | ok v =>
       refine conv (hok ⟨s.toArray⟩ (by rw [hsz]; exact hs) v (by rw [hd]; exact ha) w) fun e w' he => ?_
       obtain ⟨rfl, hb⟩ := he
       refine ⟨_, rfl, ?_⟩
       have : xO s = (v, false) := by unfold xO; rw [ha]
       rw [this]
       exact fin v false _ w' hb (RepC.raw _ _ rfl)
      | range =>
       obtain ⟨te, pe, hc⟩ := hgs _ _ (by simp [XH]) h2
       refine conv (hrng ⟨s.toArray⟩ (by rw [hsz]; exact hs) (by rw [hd]; exact ha) te pe w hc) fun e w' he => ?_
       obtain ⟨⟨T, z, rfl⟩, hb⟩ := he
       refine ⟨_, rfl, ?_⟩
       have : xO s = (Lib.atoiSat s, true) := by unfold xO; rw [ha]
       rw [this, hd]
       exact fin _ true _ w' hb (RepC.opq _ _ _)
      | _ =>
       obtain ⟨te, pe, hc⟩ := hgs _ _ (by simp [XH]) h1
       refine conv (hsyn ⟨s.toArray⟩ (by rw [hsz]; exact hs) (by rw [hd, ha]; intro v e; cases e) (by rw [hd, ha]; intro e; cases e) te pe w hc) fun e w' he => ?_
       obtain ⟨⟨T, z, rfl⟩, hb⟩ := he
       refine ⟨_, rfl, ?_⟩
       have : xO s = (0, true) := by unfold xO; rw [ha]
       rw [this]
       exact fin 0 true _ w' hb (RepC.opq _ _ _)
   ·cases h
  ·cases h
 ·cases h
end
end Go.Am
/- Small facts for We over lists. -/
namespace Go.Am
theorem zl (i : Nat) : zH (i : Int) = some i := by unfold zH; rw [if_pos (by omega)]; rfl
theorem yt {i : Nat} (h : i < 2 ^ 62) : w64 ((i : Int) + 1) = ((i + 1 : Nat) : Int) := yu (by omega) (by omega)
theorem XK {i : Nat} (h : i < 2 ^ 62) (h0 : 0 < i) : w64 ((i : Int) - 1) = ((i - 1 : Nat) : Int) := by rw [yu (by omega) (by omega)]; omega
theorem xr {α : Type} {l : List α} {i : Nat} (h : i < l.length) : l.drop i = l[i] :: l.drop (i + 1) := List.drop_eq_getElem_cons h
theorem zg {m d : Nat} (h : d < m) : ∃ k, m = k + 1 ∧ d <= k := ⟨m - 1, by omega, by omega⟩
theorem zr {α : Type} {l : List α} {i : Nat} (h : i < l.length) : l[i]? = some l[i] := List.getElem?_eq_getElem h
theorem Oz {b n : Nat} (h : n <= 2 ^ 20) (hb : b <= 2 ^ 20) : QZ b (n : Int) = some n := by
 unfold QZ
 have h1 : b * n <= 2 ^ 20 * 2 ^ 20 := Nat.mul_le_mul hb h
 have h2 : ((b * n : Nat) : Int) = (b : Int) * (n : Int) := by simp
 rw [if_pos ⟨by omega, by omega, by rw [<- h2]; omega⟩]; simp
theorem yc {α : Type} {p : Prop} {inst : Decidable p} {x : Option α} {r : α} (h : @ite _ p inst x none = some r) : p ∧ x = some r := by
 split at h
 ·rename_i hp; exact ⟨hp, h⟩
 ·cases h
def Pre {α : Type} (a v : List α) (i : Nat) : Prop := v.length = a.length ∧ ∀ j, j < i → v[j]? = a[j]?
theorem Pre.start {α : Type} {a v : List α} (h : v.length = a.length) : Pre a v 0 := ⟨h, fun j hj => by omega⟩
theorem Pre.step {α : Type} {a v : List α} {i : Nat} (h : Pre a v i) (hi : i < a.length) : Pre a (v.set i a[i]) (i + 1) := by
 refine ⟨by simp [h.1], fun j hj => ?_⟩
 by_cases e : j = i
 ·subst e; rw [List.getElem?_set_self (by rw [h.1]; exact hi)]; simp [hi]
 ·rw [List.getElem?_set_ne (by omega)]; exact h.2 j (by omega)
theorem Pre.done {α : Type} {a v : List α} {i : Nat} (h : Pre a v i) (hi : a.length <= i) : v = a := by
 refine List.ext_getElem? fun j => ?_
 rcases Nat.lt_or_ge j a.length with hj | hj
 ·exact h.2 j (by omega)
 ·rw [List.getElem?_eq_none (by rw [h.1]; exact hj), List.getElem?_eq_none hj]
def inB (lo hi : Nat) (x : UInt8) : Bool := decide (lo <= x.toNat) && decide (x.toNat <= hi)
end Go.Am
/- A function's ways as one tree, walked beside the machine's tree of questions: one check by evaluation says that the machine answers what the tree says. -/
namespace Go.Am
inductive Tw (cfg : Cfg) (α ρ : Type) (C : Option α → ρ → Prop) : Type 1 where
 | no
 | ret (a : α)
 | tl (o : Option α) (r : ρ) (h : C o r)
 | q (x : Q cfg) (t : Tw cfg α ρ C)
 | qt (n : Nat) (x : Q cfg) (t : Tw cfg α ρ C)
 | ag (i : Nat) (t : Tw cfg α ρ C)
 | ax (n : Nat) (p : Bool) (i : Nat) (t : Tw cfg α ρ C)
 | ndC (c : Prop) (d : Decidable c) (t : c → Tw cfg α ρ C)
 | spC (c : Prop) (d : Decidable c) (t : c → Tw cfg α ρ C) (e : ¬c → Tw cfg α ρ C)
 | brC (n : Option Nat) (p : Bool) (c : Prop) (d : Decidable c) (q : Ask) (h1 : c → (zx cfg).ans q = some (.b p)) (h2 : ¬c → (zx cfg).ans q = some (.b (!p))) (t : c → Tw cfg α ρ C) (e : ¬c → Tw cfg α ρ C)
 | vmC (n : Nat) (p : Bool) (b : Bool) (q : Ask) (h1 : b = true → (zx cfg).ans q = some (.b p)) (h2 : b = false → (zx cfg).ans q = some (.b (!p))) (t e : Tw cfg α ρ C)
 | bB {β : Type} (o : Option (β × Bool)) (q : Ask) (a : β × Bool → Ans) (h : ∀ x, o = some x → (zx cfg).ans q = some (a x)) (t e : β → Tw cfg α ρ C)
 | bd {β : Type} (o : Option β) (q : Ask) (a : β → Ans) (h : ∀ x, o = some x → (zx cfg).ans q = some (a x)) (t : β → Tw cfg α ρ C)
 | b2 {β γ : Type} (o : Option (β ⊕ γ)) (q : Ask) (a : β ⊕ γ → Ans) (h : ∀ x, o = some x → (zx cfg).ans q = some (a x)) (t : β → Tw cfg α ρ C) (e : γ → Tw cfg α ρ C)
 | b3 {β γ δ : Type} (o : Option (β ⊕ (γ ⊕ δ))) (q : Ask) (a : β ⊕ (γ ⊕ δ) → Ans) (h : ∀ x, o = some x → (zx cfg).ans q = some (a x)) (t : β → Tw cfg α ρ C) (e : γ → Tw cfg α ρ C) (g : δ → Tw cfg α ρ C)
inductive Tm (ρ : Type) : Type 1 where
 | done (r : ρ)
 | no
 | bad
 | one (q : Ask) (t : Tm ρ)
 | nd {c : Prop} (t : c → Tm ρ)
 | two {c : Prop} (t : c → Tm ρ) (e : ¬c → Tm ρ)
 | al0 (t e : Tm ρ)
 | all {β : Type} (t : β → Tm ρ)
 | al2 {β γ : Type} (t : β → Tm ρ) (e : γ → Tm ρ)
 | al3 {β γ δ : Type} (t : β → Tm ρ) (e : γ → Tm ρ) (g : δ → Tm ρ)
def RC (k : IntKind) (n : Int) : Int := match k with
 | .u8 => ((b8 n).toNat : Nat)
 | k => k.wrap n
theorem BP (k : IntKind) (n : Int) : RC k n = k.wrap n := by cases k <;> first | rfl | exact Kx n
def skip {ρ : Type} : F ρ → Option Nat → F ρ
 | .ask q k, n => match q with
  | .add i a b => skip (k (.i (RC i (a + b)))) n
  | .sub i a b => skip (k (.i (RC i (a - b)))) n
  | .mul i a b => skip (k (.i (RC i (a * b)))) n
  | .quo i a b => skip (k (.i (i.wrap (a.tdiv b)))) n
  | .rem a b => skip (k (.i (a.tmod b))) n
  | .bit op i a b => skip (k (.i (Qp op i a b))) n
  | .neg i a => skip (k (.i (i.wrap (0 - a)))) n
  | .conv i a => match i with
   | .i64 => .ask (.conv .i64 a) k
   | i => skip (k (.i (RC i a))) n
  | .maxI a b => skip (k (.i (if a < b then b else a))) n
  | .minI a b => skip (k (.i (if b < a then b else a))) n
  | .notB a => skip (k (.b (!a))) n
  | .catS a b => skip (k (.s (a ++ b))) n
  | .lenS l => skip (k (.i (l.length : Int))) n
  | .byteI b => skip (k (.i ((b.toNat : Nat) : Int))) n
  | .tr b => match n with
   | none => skip (k (.b b)) none
   | some 0 => .ask (.tr b) k
   | some (m + 1) => skip (k (.b b)) (some m)
  | q => .ask q k
 | f, _ => f
section
variable {cfg : Cfg}
theorem TF {ρ : Type} (f : F ρ) : ∀ n, (skip f n).run (zx cfg) = f.run (zx cfg) := by
 induction f with
 | pure a => intro n; rfl
 | fail => intro n; rfl
 | ask q k ih =>
  intro n
  have go : ∀ {q : Ask} {x : Ans} {n : Option Nat}, (zx cfg).ans q = some x → (skip (k x) n).run (zx cfg) = (F.ask q k).run (zx cfg) := by
   intro q x n h
   rw [ih x n]; simp only [F.run, h, Option.bind_some]
  have w : ∀ i n, some (Ans.i (i.wrap n)) = some (Ans.i (RC i n)) := fun i n => by rw [BP]
  cases q with
  | add i a b => exact go (w i (a + b))
  | sub i a b => exact go (w i (a - b))
  | mul i a b => exact go (w i (a * b))
  | quo i a b => exact go rfl
  | rem a b => exact go rfl
  | bit op i a b => exact go rfl
  | neg i a => exact go rfl
  | conv i a =>
   have := w i a
   cases i <;> first | rfl | exact go this
  | maxI a b => exact go rfl
  | minI a b => exact go rfl
  | notB a => exact go rfl
  | catS a b => exact go rfl
  | lenS l => exact go rfl
  | byteI b => exact go rfl
  | tr b => match n with
   | none => exact go rfl
   | some 0 => rfl
   | some (m + 1) => exact go rfl
  | _ => rfl
variable {α ρ : Type} {C : Option α → ρ → Prop}
def trF (fin : ρ → Bool) : Tw cfg α ρ C → List (Ask × Ans) → F ρ → Tm ρ
 | .no, _, _ => .no
 | .ret _, _, f => match skip f none with
  | .pure r => bif fin r then .done r else .bad
  | _ => .bad
 | .tl .., _, f => match skip f none with
  | .pure r => .done r
  | _ => .bad
 | .q x t, hs, f => match skip f none with
  | .ask q k => .one q (trF fin t hs (k x.a))
  | _ => .bad
 | .qt n x t, hs, f => match skip f (some n) with
  | .ask q k => .one q (trF fin t hs (k x.a))
  | _ => .bad
 | .ag i t, hs, f => match skip f none with
  | .ask q k => match hs[i]? with
   | some p => .one q (trF fin t hs (k p.2))
   | none => .bad
  | _ => .bad
 | .ax n p i t, hs, f => match skip f (some n) with
  | .ask q k => match hs[i]? with
   | some (.tr _, .b v) => .one q (trF fin t hs (k (.b (bif p then v else !v))))
   | _ => .bad
  | _ => .bad
 | .ndC _ _ t, hs, f => .nd fun h => trF fin (t h) hs f
 | .spC _ _ t e, hs, f => .two (fun h => trF fin (t h) hs f) fun h => trF fin (e h) hs f
 | .brC n p _ _ _ _ _ t e, hs, f => match skip f n with
  | .ask q k => .one q (.two (fun h => trF fin (t h) hs (k (.b p))) fun h => trF fin (e h) hs (k (.b !p)))
  | _ => .bad
 | .vmC n p b _ _ _ t e, hs, f => match skip f (some n) with
  | .ask q k => .one q (.al0 (trF fin t ((.tr b, .b true) :: hs) (k (.b p))) (trF fin e ((.tr b, .b false) :: hs) (k (.b !p))))
  | _ => .bad
 | .bB _ q' a _ t e, hs, f => match skip f none with
  | .ask q k => .one q (.al2 (fun x => trF fin (t x) ((q', a (x, true)) :: hs) (k (a (x, true)))) fun x => trF fin (e x) ((q', a (x, false)) :: hs) (k (a (x, false))))
  | _ => .bad
 | .bd _ q' a _ t, hs, f => match skip f none with
  | .ask q k => .one q (.all fun x => trF fin (t x) ((q', a x) :: hs) (k (a x)))
  | _ => .bad
 | .b2 _ q' a _ t e, hs, f => match skip f none with
  | .ask q k => .one q (.al2 (fun x => trF fin (t x) ((q', a (.inl x)) :: hs) (k (a (.inl x)))) fun x => trF fin (e x) ((q', a (.inr x)) :: hs) (k (a (.inr x))))
  | _ => .bad
 | .b3 _ q' a _ t e g, hs, f => match skip f none with
  | .ask q k => .one q (.al3 (fun x => trF fin (t x) ((q', a (.inl x)) :: hs) (k (a (.inl x)))) (fun x => trF fin (e x) ((q', a (.inr (.inl x))) :: hs) (k (a (.inr (.inl x))))) fun x => trF fin (g x) ((q', a (.inr (.inr x))) :: hs) (k (a (.inr (.inr x)))))
  | _ => .bad
def trT (enc : α → ρ) : Tw cfg α ρ C → List (Ask × Ans) → Tm ρ
 | .no, _ => .no
 | .ret a, _ => .done (enc a)
 | .tl _ r _, _ => .done r
 | .q x t, hs => .one x.q (trT enc t hs)
 | .qt _ x t, hs => .one x.q (trT enc t hs)
 | .ag i t, hs => match hs[i]? with
  | some p => .one p.1 (trT enc t hs)
  | none => .no
 | .ax _ p i t, hs => match hs[i]? with
  | some (.tr b, .b _) => .one (.tr (bif p then b else !b)) (trT enc t hs)
  | _ => .no
 | .ndC _ _ t, hs => .nd fun h => trT enc (t h) hs
 | .spC _ _ t e, hs => .two (fun h => trT enc (t h) hs) fun h => trT enc (e h) hs
 | .brC _ _ _ _ q _ _ t e, hs => .one q (.two (fun h => trT enc (t h) hs) fun h => trT enc (e h) hs)
 | .vmC _ _ b q _ _ t e, hs => .one q (.al0 (trT enc t ((.tr b, .b true) :: hs)) (trT enc e ((.tr b, .b false) :: hs)))
 | .bB _ q a _ t e, hs => .one q (.al2 (fun x => trT enc (t x) ((q, a (x, true)) :: hs)) fun x => trT enc (e x) ((q, a (x, false)) :: hs))
 | .bd _ q a _ t, hs => .one q (.all fun x => trT enc (t x) ((q, a x) :: hs))
 | .b2 _ q a _ t e, hs => .one q (.al2 (fun x => trT enc (t x) ((q, a (.inl x)) :: hs)) fun x => trT enc (e x) ((q, a (.inr x)) :: hs))
 | .b3 _ q a _ t e g, hs => .one q (.al3 (fun x => trT enc (t x) ((q, a (.inl x)) :: hs)) (fun x => trT enc (e x) ((q, a (.inr (.inl x))) :: hs)) fun x => trT enc (g x) ((q, a (.inr (.inr x))) :: hs))
def Tw.den : Tw cfg α ρ C → Option α
 | .no => none
 | .ret a => some a
 | .tl o _ _ => o
 | .q _ t | .qt _ _ t | .ag _ t | .ax _ _ _ t => t.den
 | .ndC c _ t => if h : c then (t h).den else none
 | .spC c _ t e => if h : c then (t h).den else (e h).den
 | .brC _ _ c _ _ _ _ t e => if h : c then (t h).den else (e h).den
 | .vmC _ _ b _ _ _ t e => bif b then t.den else e.den
 | .bB o _ _ _ t e => o.bind fun x => bif x.2 then (t x.1).den else (e x.1).den
 | .bd o _ _ _ t => o.bind fun x => (t x).den
 | .b2 o _ _ _ t e => o.bind fun x => match x with
  | .inl x => (t x).den
  | .inr x => (e x).den
 | .b3 o _ _ _ t e g => o.bind fun x => match x with
  | .inl x => (t x).den
  | .inr (.inl x) => (e x).den
  | .inr (.inr x) => (g x).den
theorem zbc {fin : ρ → Bool} {κ : ρ → Option ρ} {enc : α → ρ} (hfin : ∀ r, fin r = true → κ r = some r) (hC : ∀ o r, C o r → ∀ a, o = some a → κ r = some (enc a)) (t : Tw cfg α ρ C) :
  ∀ hs f, (∀ p ∈ hs, (zx cfg).ans p.1 = some p.2) → trF fin t hs f = trT enc t hs → ∀ a, t.den = some a → (f.run (zx cfg)).bind κ = some (enc a) := by
 have ask : ∀ {f : F ρ} {n : Option Nat} {q : Ask} {k : Ans → F ρ} {x : Ans}, skip f n = .ask q k → (zx cfg).ans q = some x → f.run (zx cfg) = (k x).run (zx cfg) := by
  intro f n q k x h1 h2
  rw [<- TF f n, h1]; simp only [F.run, h2, Option.bind_some]
 have push : ∀ {hs : List (Ask × Ans)} {q : Ask} {x : Ans}, (∀ p ∈ hs, (zx cfg).ans p.1 = some p.2) → (zx cfg).ans q = some x → ∀ p ∈ (q, x) :: hs, (zx cfg).ans p.1 = some p.2 := by
  intro hs q x h1 h2 p hp
  rcases List.mem_cons.1 hp with rfl | hp
  ·exact h2
  ·exact h1 p hp
 induction t with
 | no => intro hs f _ _ a h; cases h
 | ret b =>
  intro hs f _ he a h
  simp only [Tw.den, Option.some.injEq] at h
  subst h
  simp only [trF, trT] at he
  split at he
  ·rename_i r hr
   cases hf : fin r with
   | false => rw [hf] at he; cases he
   | true =>
    rw [hf] at he
    simp only [cond_true, Tm.done.injEq] at he
    subst he
    rw [<- TF f none, hr]
    exact hfin _ hf
  ·cases he
 | tl o r hc =>
  intro hs f _ he a h
  simp only [Tw.den] at h
  simp only [trF, trT] at he
  split at he
  ·rename_i r' hr
   simp only [Tm.done.injEq] at he
   subst he
   rw [<- TF f none, hr]
   exact hC o r' hc a h
  ·cases he
 | q x t ih =>
  intro hs f hh he a h
  simp only [trF, trT] at he
  split at he
  ·rename_i q k hq
   simp only [Tm.one.injEq] at he
   rw [ask hq (by rw [he.1]; exact x.h)]
   exact ih hs _ hh he.2 a h
  ·cases he
 | qt n x t ih =>
  intro hs f hh he a h
  simp only [trF, trT] at he
  split at he
  ·rename_i q k hq
   simp only [Tm.one.injEq] at he
   rw [ask hq (by rw [he.1]; exact x.h)]
   exact ih hs _ hh he.2 a h
  ·cases he
 | ag i t ih =>
  intro hs f hh he a h
  simp only [trF, trT] at he
  cases hi : hs[i]? with
  | none =>
   rw [hi] at he
   split at he <;> cases he
  | some p =>
   rw [hi] at he
   split at he
   ·rename_i q k hq
    simp only [Tm.one.injEq] at he
    rw [ask hq (by rw [he.1]; exact hh p (List.mem_of_getElem? hi))]
    exact ih hs _ hh he.2 a h
   ·cases he
 | ax n p i t ih =>
  intro hs f hh he a h
  simp only [trF, trT] at he
  split at he
  ·rename_i q k hq
   split at he
   ·rename_i b v hi
    simp only [Tm.one.injEq] at he
    have hb : some (Ans.b b) = some (Ans.b v) := hh _ (List.mem_of_getElem? hi)
    obtain rfl : b = v := by simpa using hb
    rw [ask hq (by rw [he.1]; rfl)]
    exact ih hs _ hh (by simpa using he.2) a h
   ·cases he
  ·split at he <;> cases he
 | ndC c d t ih =>
  intro hs f hh he a h
  simp only [trF, trT] at he
  simp only [Tw.den] at h
  split at h
  ·rename_i hc
   injection he with _ he
   exact ih hc hs f hh (congrFun he hc) a h
  ·cases h
 | spC c d t e iht ihe =>
  intro hs f hh he a h
  simp only [trF, trT] at he
  simp only [Tw.den] at h
  injection he with _ he1 he2
  split at h
  ·rename_i hc
   exact iht hc hs f hh (congrFun he1 hc) a h
  ·rename_i hc
   exact ihe hc hs f hh (congrFun he2 hc) a h
 | brC n p c d q h1 h2 t e iht ihe =>
  intro hs f hh he a h
  simp only [trF, trT] at he
  simp only [Tw.den] at h
  split at he
  ·rename_i q' k hq
   simp only [Tm.one.injEq] at he
   obtain ⟨rfl, he⟩ := he
   injection he with _ he1 he2
   split at h
   ·rename_i hc
    rw [ask hq (h1 hc)]
    exact iht hc hs _ hh (congrFun he1 hc) a h
   ·rename_i hc
    rw [ask hq (h2 hc)]
    exact ihe hc hs _ hh (congrFun he2 hc) a h
  ·cases he
 | vmC n p b q h1 h2 t e iht ihe =>
  intro hs f hh he a h
  simp only [trF, trT] at he
  split at he
  ·rename_i q' k hq
   simp only [Tm.one.injEq, Tm.al0.injEq] at he
   obtain ⟨rfl, he1, he2⟩ := he
   cases b with
   | true =>
    rw [ask hq (h1 rfl)]
    exact iht _ _ (push hh rfl) he1 a h
   | false =>
    rw [ask hq (h2 rfl)]
    exact ihe _ _ (push hh rfl) he2 a h
  ·cases he
 | bB o q x hx t e iht ihe =>
  intro hs f hh he a h
  simp only [trF, trT] at he
  simp only [Tw.den] at h
  obtain ⟨y, hy, h⟩ := Option.bind_eq_some_iff.1 h
  split at he
  ·rename_i q' k hq
   simp only [Tm.one.injEq] at he
   obtain ⟨rfl, he⟩ := he
   injection he with _ _ he1 he2
   rw [ask hq (hx y hy)]
   obtain ⟨y, b⟩ := y
   cases b with
   | true => exact iht y _ _ (push hh (hx _ hy)) (congrFun he1 y) a h
   | false => exact ihe y _ _ (push hh (hx _ hy)) (congrFun he2 y) a h
  ·cases he
 | bd o q x hx t ih =>
  intro hs f hh he a h
  simp only [trF, trT] at he
  simp only [Tw.den] at h
  obtain ⟨y, hy, h⟩ := Option.bind_eq_some_iff.1 h
  split at he
  ·rename_i q' k hq
   simp only [Tm.one.injEq] at he
   obtain ⟨rfl, he⟩ := he
   injection he with _ he
   rw [ask hq (hx y hy)]
   exact ih y _ _ (push hh (hx y hy)) (congrFun he y) a h
  ·cases he
 | b2 o q x hx t e iht ihe =>
  intro hs f hh he a h
  simp only [trF, trT] at he
  simp only [Tw.den] at h
  obtain ⟨y, hy, h⟩ := Option.bind_eq_some_iff.1 h
  split at he
  ·rename_i q' k hq
   simp only [Tm.one.injEq] at he
   obtain ⟨rfl, he⟩ := he
   injection he with _ _ he1 he2
   rw [ask hq (hx y hy)]
   cases y with
   | inl y => exact iht y _ _ (push hh (hx _ hy)) (congrFun he1 y) a h
   | inr y => exact ihe y _ _ (push hh (hx _ hy)) (congrFun he2 y) a h
  ·cases he
 | b3 o q x hx t e g iht ihe ihg =>
  intro hs f hh he a h
  simp only [trF, trT] at he
  simp only [Tw.den] at h
  obtain ⟨y, hy, h⟩ := Option.bind_eq_some_iff.1 h
  split at he
  ·rename_i q' k hq
   simp only [Tm.one.injEq] at he
   obtain ⟨rfl, he⟩ := he
   injection he with _ _ _ he1 he2 he3
   rw [ask hq (hx y hy)]
   match y with
   | .inl y => exact iht y _ _ (push hh (hx _ hy)) (congrFun he1 y) a h
   | .inr (.inl y) => exact ihe y _ _ (push hh (hx _ hy)) (congrFun he2 y) a h
   | .inr (.inr y) => exact ihg y _ _ (push hh (hx _ hy)) (congrFun he3 y) a h
  ·cases he
def OkC (cfg : Cfg) {α : Type} (o : Option α) (f : FuncId) (st : List Entry) (xs : List V) (enc : α → V × List Entry) : Prop := ∀ r, o = some r → (zx cfg).call f st xs = some (enc r)
def OkL (cfg : Cfg) {α : Type} (o : Option α) (f : FuncId) (b : Code) (s : S) (enc : α → Ex × S) : Prop := ∀ r, o = some r → (zx cfg).loop f b s = some (enc r)
abbrev Tc (cfg : Cfg) (α : Type) := Tw cfg α (V × List Entry) fun _ _ => False
theorem tc {f : FuncId} {st : List Entry} {xs : List V} {code : Code} {nt : Nat} {rs : List ResultVar} {o : Option α} {enc : α → V × List Entry} (t : Tc cfg α) (hf : cfg.funcs f = some (code, nt, rs))
  (h : trF (fun _ => true) t [] (Pa cfg f st xs code nt rs) = trT enc t [] := by kernel_rfl) (hd : t.den = o := by kernel_rfl) (hX : cfg.X f st xs = none := by exact rfl) : OkC cfg o f st xs enc := by
 intro r hr
 refine Li hX hf ?_
 rw [<- Nx cfg (zx cfg) rfl]
 subst hd
 have := zbc (κ := some) (fun _ _ => rfl) (fun _ _ h => h.elim) t [] _ (by simp) h r hr
 simpa using this
def KL (cfg : Cfg) (f : FuncId) (b : Code) {α : Type} (enc : α → Ex × S) (o : Option α) (r : Ex × S) : Prop := r.1 = .normal ∧ OkL cfg o f b r.2 enc
abbrev Tl (cfg : Cfg) (f : FuncId) (b : Code) {α : Type} (enc : α → Ex × S) := Tw cfg α (Ex × S) (KL cfg f b enc)
def zhu : Ex × S → Bool
 | (.normal, _) => false
 | _ => true
theorem tlp {f : FuncId} {b : Code} {s : S} {o : Option α} {enc : α → Ex × S} (t : Tl cfg f b enc)
  (h : trF zhu t [] (jW cfg f b s) = trT enc t [] := by kernel_rfl) (hd : t.den = o := by kernel_rfl) : OkL cfg o f b s enc := by
 intro r hr
 subst hd
 have := zbc (κ := fun x => if x.1 = .normal then (zx cfg).loop f b x.2 else some x) (fun x hx => by
  obtain ⟨ex, s⟩ := x
  cases ex <;> first | (cases hx; done) | rfl) (fun o x hC a ha => by
  rw [if_pos hC.1]; exact hC.2 a ha) t [] _ (by simp) h r hr
 rw [V1]
 rw [Kv] at this
 cases hx : exec cfg (zx cfg) f b s with
 | none => rw [hx] at this; cases this
 | some x =>
  rw [hx] at this
  obtain ⟨ex, s1⟩ := x
  cases ex <;> exact this
end
namespace Tw
variable {cfg : Cfg} {α ρ τ β γ δ : Type} {C : Option α → ρ → Prop}
def nd (c : Prop) [d : Decidable c] (t : c → Tw cfg α ρ C) : Tw cfg α ρ C := .ndC c d t
def sp (c : Prop) [d : Decidable c] (t : c → Tw cfg α ρ C) (e : ¬c → Tw cfg α ρ C) : Tw cfg α ρ C := .spC c d t e
def le (e : τ → List Go.Am.C) (x : List τ) (t : Tw cfg α ρ C) : Tw cfg α ρ C := .q (.le e x) t
def na (z : Int) (t : Nat → Tw cfg α ρ C) : Tw cfg α ρ C := .bd (zH z) (.nat z) .n (fun _ h => A.nat h) t
def nl (i : Nat) (t : Tw cfg α ρ C) : Tw cfg α ρ C := .q ⟨.nat i, .n i, rfl⟩ t
def ix {e c : τ → List Go.Am.C} (h : ∀ x, e x = c x) (l : List τ) (i : Nat) (t : τ → Tw cfg α ρ C) : Tw cfg α ρ C := .bd l[i]? (.idx (eL e l) i) (fun x => .e (c x)) (fun x hx => A.idx hx (h x)) t
def ix0 (e : τ → List Go.Am.C) (l : List τ) (i : Nat) (t : τ → Tw cfg α ρ C) : Tw cfg α ρ C := .bd l[i]? (.idx (eL e l) i) (fun x => .e (e x)) (fun _ hx => A.idx hx rfl) t
def is (l : List UInt8) (i : Nat) (t : UInt8 → Tw cfg α ρ C) : Tw cfg α ρ C := .bd l[i]? (.idxS l i) .u (fun _ hx => A.idxS hx) t
def ct (e : τ → List Go.Am.C) (l : List τ) (lo hi : Option Nat) (t : List τ → Tw cfg α ρ C) : Tw cfg α ρ C := .bd (WB l lo hi) (.cut (eL e l) lo hi) (fun x => .l (eL e x)) (fun _ hx => A.cut hx) t
def cs (l : List UInt8) (lo hi : Option Nat) (t : List UInt8 → Tw cfg α ρ C) : Tw cfg α ρ C := .bd (WB l lo hi) (.cutS l lo hi) .s (fun _ hx => A.cutS hx) t
def md (m : Nat) (x : Int) (t : Nat → Tw cfg α ρ C) : Tw cfg α ρ C := .bd (QZ m x) (.made m x) .n (fun _ hx => A.made hx) t
def un {n : Nat} {e : τ → List Go.Am.C} (E : Enc n e) (l : List τ) (t : Tw cfg α ρ C) : Tw cfg α ρ C := .q ⟨.uni n (eL e l), .b true, A.uni E⟩ t
def uo {n : Nat} {o e : τ → List Go.Am.C} (O : OEnc n o e) (l : List τ) (t : Tw cfg α ρ C) : Tw cfg α ρ C := .q ⟨.uni n (eL o l), .b true, A.uniO O⟩ t
def vw {n : Nat} {e : τ → List Go.Am.C} (E : Enc n e) (l : List τ) (t : Tw cfg α ρ C) : Tw cfg α ρ C := .q ⟨.view (eL e l), .l (eL e l), A.view E⟩ t
def vo {n : Nat} {o e : τ → List Go.Am.C} (O : OEnc n o e) (l : List τ) (t : Tw cfg α ρ C) : Tw cfg α ρ C := .q ⟨.view (eL o l), .l (eL e l), A.viewO O⟩ t
def cn {n : Nat} {o e : τ → List Go.Am.C} (O : OEnc n o e) (l : List τ) (t : Tw cfg α ρ C) : Tw cfg α ρ C := .q ⟨.cln (eL o l), .b true, A.cln O⟩ t
def pl {n : Nat} {e : τ → List Go.Am.C} (E : Enc n e) (l : List τ) (t : Tw cfg α ρ C) : Tw cfg α ρ C := .q ⟨.pl (eL e l), .b true, A.pl E⟩ t
def bt (l : List UInt8) (t : Tw cfg α ρ C) : Tw cfg α ρ C := .q ⟨.bytes (eL za l), .s l, A.bytes⟩ t
def os (l : List UInt8) (t : Tw cfg α ρ C) : Tw cfg α ρ C := .q ⟨.ofStr l, .l (eL za l), A.ofStr⟩ t
def ap (m : Nat) {n : Nat} {e : τ → List Go.Am.C} (E : Enc n e) (a b : List τ) (t : y4 m (a.length + b.length) → Tw cfg α ρ C) : Tw cfg α ρ C := .nd (y4 m (a.length + b.length)) fun h => .q ⟨.room m (eL e a) (eL e b), .b true, A.room h⟩ <| .q ⟨.uni n (eL e b), .b true, A.uni E⟩ <| .q ⟨.app (eL e a) (eL e b), .l (eL e (a ++ b)), A.app⟩ (t h)
def ao (m : Nat) {n : Nat} {o e : τ → List Go.Am.C} (O : OEnc n o e) (a b : List τ) (t : y4 m (a.length + b.length) → Tw cfg α ρ C) : Tw cfg α ρ C := .nd (y4 m (a.length + b.length)) fun h => .q ⟨.room m (eL o a) (eL o b), .b true, A.room h⟩ <| .q ⟨.uni n (eL o b), .b true, A.uniO O⟩ <| .q ⟨.app (eL o a) (eL o b), .l (eL o (a ++ b)), A.app⟩ (t h)
def lI (a b : Int) (t : a < b → Tw cfg α ρ C) (e : ¬ a < b → Tw cfg α ρ C) : Tw cfg α ρ C := .brC none true (a < b) inferInstance (.ltI a b) A.ltI_t A.ltI_f t e
def gI (a b : Int) (t : a <= b → Tw cfg α ρ C) (e : ¬ a <= b → Tw cfg α ρ C) : Tw cfg α ρ C := .brC none true (a <= b) inferInstance (.leI a b) A.leI_t A.leI_f t e
def eI (a b : Int) (t : a = b → Tw cfg α ρ C) (e : ¬ a = b → Tw cfg α ρ C) : Tw cfg α ρ C := .brC none true (a = b) inferInstance (.eqI a b) A.eqI_t A.eqI_f t e
def sI (a b : List UInt8) (t : a = b → Tw cfg α ρ C) (e : ¬ a = b → Tw cfg α ρ C) : Tw cfg α ρ C := .brC none true (a = b) inferInstance (.eqS a b) A.eqS_t A.eqS_f t e
def bI (a b : List UInt8) (t : Op.bytesLess a b = true → Tw cfg α ρ C) (e : ¬ Op.bytesLess a b = true → Tw cfg α ρ C) : Tw cfg α ρ C := .brC none true (Op.bytesLess a b = true) inferInstance (.ltS a b) A.ltS_t A.ltS_f t e
def lD (a b : Int) (t : Tw cfg α ρ C) : Tw cfg α ρ C := .q (.lD a b) t
def gD (a b : Int) (t : Tw cfg α ρ C) : Tw cfg α ρ C := .q (.gD a b) t
def eD (a b : Int) (t : Tw cfg α ρ C) : Tw cfg α ρ C := .q (.eD a b) t
def sD (a b : List UInt8) (t : Tw cfg α ρ C) : Tw cfg α ρ C := .q ⟨.eqS a b, .b (decide (a = b)), A.eqS_d⟩ t
def bD (a b : List UInt8) (t : Tw cfg α ρ C) : Tw cfg α ρ C := .q ⟨.ltS a b, .b (decide (Op.bytesLess a b = true)), A.ltS_d⟩ t
def cI (n : Nat) (c : Prop) [d : Decidable c] (t : c → Tw cfg α ρ C) (e : ¬c → Tw cfg α ρ C) : Tw cfg α ρ C := .brC (some n) true c d (.tr (decide c)) (fun h => congrArg (fun b => some (Ans.b b)) (decide_eq_true h)) (fun h => congrArg (fun b => some (Ans.b b)) (decide_eq_false h)) t e
def cN (n : Nat) (c : Prop) [d : Decidable c] (t : c → Tw cfg α ρ C) (e : ¬c → Tw cfg α ρ C) : Tw cfg α ρ C := .brC (some n) false c d (.tr (!decide c)) (fun h => congrArg (fun b => some (Ans.b !b)) (decide_eq_true h)) (fun h => congrArg (fun b => some (Ans.b !b)) (decide_eq_false h)) t e
def kT (n : Nat) {b : Bool} (h : b = true) (t : Tw cfg α ρ C) : Tw cfg α ρ C := .qt n ⟨.tr b, .b true, congrArg (fun b => some (Ans.b b)) h⟩ t
def kF (n : Nat) {b : Bool} (h : b = false) (t : Tw cfg α ρ C) : Tw cfg α ρ C := .qt n ⟨.tr b, .b false, congrArg (fun b => some (Ans.b b)) h⟩ t
def cl {o : Option β} {f : FuncId} {st : List Entry} {xs : List V} {R : β → V × List Entry} (h : OkC cfg o f st xs R) (t : β → Tw cfg α ρ C) : Tw cfg α ρ C := .bd o (.call f st xs) (fun r => .r (R r).1 (R r).2) (fun r hr => A.call (h r hr)) t
def c2 {o : Option (β ⊕ γ)} {f : FuncId} {st : List Entry} {xs : List V} {R : β ⊕ γ → V × List Entry} (h : OkC cfg o f st xs R) (t : β → Tw cfg α ρ C) (e : γ → Tw cfg α ρ C) : Tw cfg α ρ C := .b2 o (.call f st xs) (fun r => .r (R r).1 (R r).2) (fun r hr => A.call (h r hr)) t e
def az (n i : Nat) (t : Tw cfg α ρ C) : Tw cfg α ρ C := .ax n true i t
def an (n i : Nat) (t : Tw cfg α ρ C) : Tw cfg α ρ C := .ax n false i t
def ae {o : Option (β × Bool)} {f : FuncId} {st : List Entry} {xs : List V} {R : β × Bool → V × List Entry} (h : OkC cfg o f st xs R) (t e : β → Tw cfg α ρ C) : Tw cfg α ρ C := .bB o (.call f st xs) (fun r => .r (R r).1 (R r).2) (fun r hr => A.call (h r hr)) t e
def fs (a b : List UInt8) (t : a.length + b.length <= 1000000 → Tw cfg α ρ C) : Tw cfg α ρ C := .nd (a.length + b.length <= 1000000) fun h => .q ⟨.fits a b, .b true, congrArg (fun z => some (Ans.b z)) (decide_eq_true h)⟩ (t h)
def fq {a b : List UInt8} (h : a.length + b.length <= 1000000) (t : Tw cfg α ρ C) : Tw cfg α ρ C := .q ⟨.fits a b, .b true, congrArg (fun z => some (Ans.b z)) (decide_eq_true h)⟩ t
def vM (n : Nat) (b : Bool) (t e : Tw cfg α ρ C) : Tw cfg α ρ C := .vmC n true b (.tr b) (fun h => congrArg (fun b => some (Ans.b b)) h) (fun h => congrArg (fun b => some (Ans.b b)) h) t e
def vN (n : Nat) (b : Bool) (t e : Tw cfg α ρ C) : Tw cfg α ρ C := .vmC n false b (.tr !b) (fun h => congrArg (fun b => some (Ans.b !b)) h) (fun h => congrArg (fun b => some (Ans.b !b)) h) t e
def sl {e : τ → List Go.Am.C} {x : τ} {c : List Go.Am.C} (h : e x = c) (l : List τ) (i : Nat) (t : Tw cfg α ρ C) : Tw cfg α ρ C := .q ⟨.setL (eL e l) i c, .l (eL e (l.set i x)), A.setL h⟩ t
def eb {a b x y : Bool} (ha : a = x) (hb : b = y) (t : Tw cfg α ρ C) : Tw cfg α ρ C := .q ⟨.eqB a b, .b (x == y), by subst ha; subst hb; rfl⟩ t
def cv (x : UInt8) (t : Tw cfg α ρ C) : Tw cfg α ρ C := .q ⟨.conv .i64 ((x.toNat : Nat) : Int), .i ((x.toNat : Nat) : Int), A.conv_u8⟩ t
def cw (x : Int) (t : Tw cfg α ρ C) : Tw cfg α ρ C := .q ⟨.conv .i64 x, .i (w64 x), rfl⟩ t
def lp {o : Option β} {f : FuncId} {b : Code} {s : S} {R : β → Ex × S} (h : OkL cfg o f b s R) (t : β → Tw cfg α ρ C) : Tw cfg α ρ C := .bd o (.loop f b s) (fun r => .x (R r).1 (R r).2) (fun r hr => A.loop (h r hr)) t
def l2 {o : Option (β ⊕ γ)} {f : FuncId} {b : Code} {s : S} {R : β ⊕ γ → Ex × S} (h : OkL cfg o f b s R) (t : β → Tw cfg α ρ C) (e : γ → Tw cfg α ρ C) : Tw cfg α ρ C := .b2 o (.loop f b s) (fun r => .x (R r).1 (R r).2) (fun r hr => A.loop (h r hr)) t e
def l3 {o : Option (β ⊕ (γ ⊕ δ))} {f : FuncId} {b : Code} {s : S} {R : β ⊕ (γ ⊕ δ) → Ex × S} (h : OkL cfg o f b s R) (t : β → Tw cfg α ρ C) (e : γ → Tw cfg α ρ C) (g : δ → Tw cfg α ρ C) : Tw cfg α ρ C := .b3 o (.loop f b s) (fun r => .x (R r).1 (R r).2) (fun r hr => A.loop (h r hr)) t e g
def go {f : FuncId} {b : Code} {enc : α → Ex × S} {o : Option α} {s : S} (h : OkL cfg o f b s enc) : Tl cfg f b enc := .tl o (.normal, s) ⟨rfl, h⟩
def aq {m : Nat} {a b : List τ} (h : y4 m (a.length + b.length)) {n : Nat} {e : τ → List Go.Am.C} (E : Enc n e) (t : Tw cfg α ρ C) : Tw cfg α ρ C := .q ⟨.room m (eL e a) (eL e b), .b true, A.room h⟩ <| .q ⟨.uni n (eL e b), .b true, A.uni E⟩ <| .q ⟨.app (eL e a) (eL e b), .l (eL e (a ++ b)), A.app⟩ t
def ar {m : Nat} {a b : List τ} (h : y4 m (a.length + b.length)) {n : Nat} {o e : τ → List Go.Am.C} (O : OEnc n o e) (t : Tw cfg α ρ C) : Tw cfg α ρ C := .q ⟨.room m (eL o a) (eL o b), .b true, A.room h⟩ <| .q ⟨.uni n (eL o b), .b true, A.uniO O⟩ <| .q ⟨.app (eL o a) (eL o b), .l (eL o (a ++ b)), A.app⟩ t
def gb {f : FuncId} {b : Code} {enc : α → Ex × S} {o : Option β} {s : S} {enc2 : β → Ex × S} (h : OkL cfg o f b s enc2) (k : β → Option α) (he : ∀ x a, k x = some a → enc2 x = enc a) : Tl cfg f b enc := .tl (o.bind k) (.normal, s) ⟨rfl, fun a ha => by
 obtain ⟨x, hx, hk⟩ := Option.bind_eq_some_iff.1 ha
 rw [h x hx, he x a hk]⟩
end Tw
def ci (n : Int) : C := .int .i64 n
def cq {τ : Type} (e : τ → List C) (x : List τ) : C := .seq (eL e x)
def vi (n : Int) : V := .val false [.int .i64 n]
def vb (b : Bool) : V := .val false [.bool b]
def vO {τ : Type} (e : τ → List C) : τ ⊕ Unit → V
 | .inl x => .val false [.rptr (e x)]
 | .inr _ => .val false [.raw (.pointer none)]
def vs (x : List UInt8) : V := .val false [.str x]
def vq {τ : Type} (e : τ → List C) (x : List τ) : V := .val false [.seq (eL e x)]
def vr (i : Nat) : V := .val false [.ref i]
def vp (i o : Nat) : V := .val false [.ptr i o]
theorem dT {c : Prop} [Decidable c] (h : c) : decide c = true := decide_eq_true h
theorem dF {c : Prop} [Decidable c] (h : ¬ c) : decide c = false := decide_eq_false h
theorem nT {b : Bool} (h : b = true) : (!b) = false := by rw [h]; rfl
theorem nF {b : Bool} (h : b = false) : (!b) = true := by rw [h]; rfl
theorem bF {b : Bool} (h : ¬ b = true) : b = false := Bool.eq_false_iff.2 h
end Go.Am
