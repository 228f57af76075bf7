/- The machine, part 4: a small deterministic machine over plain data, and the proof that what it answers the program answers too. Conditions: none beyond those written at each theorem. -/
import Derived.Test.YtoopljdbjefgoaaCAmC
import Derived.Test.YtoopljdbjefgoaaCAmA
import Derived.KernelRfl
import Derived.Lib.Bytealg
set_option linter.unusedVariables false
set_option linter.unusedSimpArgs false
/- The tree of questions and answers says what the machine says. -/
namespace Go.Am

section
variable {α β : Type} (μ : M)
theorem run_pure (a : α) : (F.pure a).run μ = some a := rfl
theorem run_fail : (F.fail : F α).run μ = none := rfl
theorem run_bind (x : F α) (f : α → F β) : (x.bind f).run μ = (x.run μ).bind fun a => (f a).run μ := by
  induction x with
  | pure a => rfl
  | fail => rfl
  | ask q k ih =>
    simp only [F.bind, F.run]
    cases μ.ans q with
    | none => rfl
    | some x => exact ih x
theorem run_of (x : Option α) : (F.of x).run μ = x := by cases x <;> rfl
theorem run_bif (c : Bool) (x y : F α) : (bif c then x else y).run μ = bif c then x.run μ else y.run μ := by cases c <;> rfl
theorem run_ite (c : Prop) [Decidable c] (x y : F α) : (if c then x else y).run μ = if c then x.run μ else y.run μ := by split <;> rfl
theorem run_aB (q : Ask) (k : Bool → F α) {x : Bool} (h : μ.ans q = some (.b x)) : (aB q k).run μ = (k x).run μ := by simp only [aB, F.run, h, Option.bind_some]
theorem run_aI (q : Ask) (k : Int → F α) {x : Int} (h : μ.ans q = some (.i x)) : (aI q k).run μ = (k x).run μ := by simp only [aI, F.run, h, Option.bind_some]
theorem run_aL (q : Ask) (k : List (List C) → F α) {x : List (List C)} (h : μ.ans q = some (.l x)) : (aL q k).run μ = (k x).run μ := by simp only [aL, F.run, h, Option.bind_some]
theorem run_aS (q : Ask) (k : List UInt8 → F α) {x : List UInt8} (h : μ.ans q = some (.s x)) : (aS q k).run μ = (k x).run μ := by simp only [aS, F.run, h, Option.bind_some]
theorem run_aNo (q : Ask) (k : Nat → F α) {x : Option Nat} (h : μ.ans q = x.map .n) : (aN q k).run μ = x.bind fun n => (k n).run μ := by
  simp only [aN, F.run, h]; cases x <;> rfl
theorem run_aLo (q : Ask) (k : List (List C) → F α) {x : Option (List (List C))} (h : μ.ans q = x.map .l) : (aL q k).run μ = x.bind fun n => (k n).run μ := by
  simp only [aL, F.run, h]; cases x <;> rfl
theorem run_aSo (q : Ask) (k : List UInt8 → F α) {x : Option (List UInt8)} (h : μ.ans q = x.map .s) : (aS q k).run μ = x.bind fun n => (k n).run μ := by
  simp only [aS, F.run, h]; cases x <;> rfl
theorem run_aEo (q : Ask) (k : List C → F α) {x : Option (List C)} (h : μ.ans q = x.map .e) : (aE q k).run μ = x.bind fun n => (k n).run μ := by
  simp only [aE, F.run, h]; cases x <;> rfl
theorem run_aUo (q : Ask) (k : UInt8 → F α) {x : Option UInt8} (h : μ.ans q = x.map .u) : (aU q k).run μ = x.bind fun n => (k n).run μ := by
  simp only [aU, F.run, h]; cases x <;> rfl
theorem run_aR (f : FuncId) (st : List Entry) (as : List V) (k : V × List Entry → F α) : (aR (.call f st as) k).run μ = (μ.call f st as).bind fun r => (k r).run μ := by
  simp only [aR, F.run, M.ans]; cases μ.call f st as <;> rfl
theorem run_aX (f : FuncId) (b : Code) (s : S) (k : Ex × S → F α) : (aX (.loop f b s) k).run μ = (μ.loop f b s).bind fun r => (k r).run μ := by
  simp only [aX, F.run, M.ans]; cases μ.loop f b s <;> rfl
end

section
variable (cfg : Cfg) (μ : M)

theorem vw_run (st : List Entry) (c : C) : (vwF st c).run μ = vw μ.p st c := by
  cases c <;> try rfl
  rename_i id
  simp only [vwF, vw, content]
  cases get st id <;> simp only [run_fail, Option.map_none, Option.map_some]
  rw [run_aL μ _ _ rfl]; rfl

theorem vws_run (st : List Entry) (cs : List C) : (vwsF st cs).run μ = vws μ.p st cs := by
  induction cs with
  | nil => rfl
  | cons c cs ih =>
    simp only [vwsF, vws, run_bind, vw_run, ih, run_pure, Option.map_eq_bind]; rfl

theorem arith_run (k : IntKind) (op : BinOp) (a b : Int) : (arithF k op a b).run μ = arith μ.p k op a b := by
  cases op <;> first
    | rfl
    | (simp only [arithF, arith]; rw [run_aB μ _ _ rfl, run_bif, run_aI μ _ _ rfl]; rfl)

theorem bin_run (op : BinOp) (td : TD) (x y : C) : (binF op td x y).run μ = bin μ.p op td x y := by
  cases y with
  | raw v =>
    cases v with
    | pointer p => cases p <;> cases x <;> first | rfl | exact run_of _ _
    | _ => cases x <;> rfl
  | int k' b =>
    cases x with
    | int k a => simp only [binF, bin]; rw [run_ite, arith_run]; rfl
    | _ => rfl
  | bool b =>
    cases x with
    | bool a => cases op <;> cases td <;> rfl
    | _ => rfl
  | str b =>
    cases x with
    | str a => cases op <;> first
      | rfl
      | (simp only [binF, bin]; rw [run_aB μ _ _ rfl, run_bif, run_aS μ _ _ rfl]; rfl)
    | _ => rfl
  | _ => cases x <;> rfl

theorem un_run (op : UnOp) (x : C) : (unF op x).run μ = un μ.p op x := by
  cases x <;> cases op <;> rfl

theorem natOf_run (c : C) : (natOfF c).run μ = natOf μ.p c := by
  cases c <;> try rfl
  rename_i k n
  simp only [natOfF, natOf]
  rw [run_aNo μ _ _ rfl]
  cases μ.p.nat n <;> rfl

theorem source_run (fl : Bool) (st : List Entry) (c : C) : (sourceF fl st c).run μ = source μ.p fl st c := by
  cases c <;> try rfl
  rename_i id
  simp only [sourceF, source]
  cases get st id <;> try rfl
  cases fl
  · simp only [cond_false]; rw [run_aB μ _ _ rfl, run_bif]; rfl
  · rfl

theorem optNat_run (s : S) (x : Option Operand) : (optNatF s x).run μ = optNat μ.p s x := by
  cases x with
  | none => rfl
  | some x =>
    simp only [optNatF, optNat, run_bind, run_of, natOf_run, run_pure, Option.map_eq_bind]; rfl

theorem viewArgs_run (st : List Entry) (lend : List Nat) (vs : List V) : ∀ k, (viewArgsF st lend k vs).run μ = viewArgs μ.p st lend k vs := by
  induction vs with
  | nil => intro k; rfl
  | cons v vs ih =>
    intro k
    cases v <;> try rfl
    simp only [viewArgsF, viewArgs, run_bind, run_ite, vws_run, run_pure, ih, Option.map_eq_bind]; rfl

theorem clC_run (c : C) : (clCF c).run μ = some (clC μ.p c) := by cases c <;> rfl

theorem cls_run (cs : List C) : (clsF cs).run μ = some (cs.all (clC μ.p)) := by
  induction cs with
  | nil => rfl
  | cons c cs ih =>
    simp only [clsF, run_bind, clC_run, Option.bind_some, run_bif, ih, run_pure, List.all_cons]
    cases clC μ.p c <;> rfl

theorem clT_run (vs : List (Bool × List C)) : (clTF vs).run μ = some (vs.all fun x => x.2.all (clC μ.p)) := by
  induction vs with
  | nil => rfl
  | cons c cs ih =>
    simp only [clTF, run_bind, cls_run, Option.bind_some, run_bif, ih, run_pure, List.all_cons]
    cases c.2.all (clC μ.p) <;> rfl

theorem clV_run (v : V) : (clVF v).run μ = some (clV μ.p v) := by
  cases v with
  | val g cs => exact cls_run μ cs
  | tup vs => exact clT_run μ vs
  | dead => rfl

theorem clEnt_run (e : Entry) : (clEntF e).run μ = some (clEnt μ.p e) := by
  cases e with
  | var cs => exact cls_run μ cs
  | obj sz l => rfl
  | hole sz l i off x => rfl
  | mp es => rfl
  | dead => rfl

theorem clEs_run (es : List Entry) : (clEsF es).run μ = some (es.all (clEnt μ.p)) := by
  induction es with
  | nil => rfl
  | cons c cs ih =>
    simp only [clEsF, run_bind, clEnt_run, Option.bind_some, run_bif, ih, run_pure, List.all_cons]
    cases clEnt μ.p c <;> rfl

theorem callF_run (nid : Nat) (s : S) (f : FuncId) (args : List V) : (callFF cfg nid s f args).run μ = callF cfg μ nid s f args := by
  simp only [callFF, callF, run_bind, run_bif, run_of, viewArgs_run, run_fail, run_aR, run_pure, clV_run, clEs_run]
  cases viewArgs μ.p s.st (cfg.lend f) 0 args with
  | none => rfl
  | some as =>
    simp only [Option.bind_some]
    generalize dedup (dedup [] (idsArgs as)) _ = ks
    generalize viewIds (cfg.lend f) 0 args = vs
    cases vs.any fun i => ks.contains i with
    | true => rfl
    | false =>
      simp only [cond_false]
      cases lentE s.st ks ks with
      | none => rfl
      | some st0 =>
        simp only [Option.bind_some]
        cases trArgs ks as with
        | none => rfl
        | some as' =>
          simp only [Option.bind_some]
          cases μ.call f st0 as' with
          | none => rfl
          | some r =>
            simp only [Option.bind_some]
            have key : ∀ (ok : Bool), (bif Nat.beq r.2.length ks.length && ok then (backV (ks ++ (List.range ((land r).2.length - ks.length)).map (nid + ·)) (land r).1).bind fun v => (backSt (ks ++ (List.range ((land r).2.length - ks.length)).map (nid + ·)) (ks ++ (List.range ((land r).2.length - ks.length)).map (nid + ·)) (land r).2 s.st).bind fun st' => some (v, st', ks ++ (List.range ((land r).2.length - ks.length)).map (nid + ·)) else none) =
              (bif Nat.beq r.2.length ks.length && ok then (backV (ks ++ (List.range ((land r).2.length - ks.length)).map (nid + ·)) (land r).1).bind fun v => (backSt (ks ++ (List.range ((land r).2.length - ks.length)).map (nid + ·)) (ks ++ (List.range ((land r).2.length - ks.length)).map (nid + ·)) (land r).2 s.st).map fun st' => (v, st', ks ++ (List.range ((land r).2.length - ks.length)).map (nid + ·)) else none) := fun ok => by
              simp only [Option.map_eq_bind]; rfl
            cases vs.isEmpty with
            | true => simp only [cond_true, Option.bind_some, Bool.true_or]; exact key true
            | false =>
              simp only [cond_false, Bool.false_or]
              cases clV μ.p r.1 with
              | true => simp only [cond_true, Option.bind_some, Bool.true_and]; exact key _
              | false => simp only [cond_false, Option.bind_some, Bool.false_and]; exact key false

theorem fzC_run (nid : Nat) (st : List Entry) (c : C) : (fzCF nid st c).run μ = fzC μ.p nid st c := by
  cases c <;> try rfl
  rename_i id
  simp only [fzCF, fzC, run_bif]
  cases get st id <;> rfl

theorem fzE_run (nid : Nat) (cs : List C) : ∀ st, (fzEF nid st cs).run μ = fzE μ.p nid st cs := by
  induction cs with
  | nil => intro st; rfl
  | cons c cs ih =>
    intro st
    simp only [fzEF, fzE, run_bind, fzC_run, ih, run_pure, Option.map_eq_bind]; rfl

theorem fzT_run (nid : Nat) (vs : List (Bool × List C)) : ∀ st, (fzTF nid st vs).run μ = fzT μ.p nid st vs := by
  induction vs with
  | nil => intro st; rfl
  | cons c cs ih =>
    intro st
    simp only [fzTF, fzT, run_bind, fzE_run, ih, run_pure, Option.map_eq_bind]; rfl

theorem fzV_run (nid : Nat) (st : List Entry) (v : V) : (fzVF nid st v).run μ = fzV μ.p nid st v := by
  cases v with
  | val g cs => simp only [fzVF, fzV, run_bind, fzE_run, run_pure, Option.map_eq_bind]; rfl
  | tup vs => simp only [fzVF, fzV, run_bind, fzT_run, run_pure, Option.map_eq_bind]; rfl
  | dead => rfl

theorem fzCall_run (nid : Nat) (d : Option Tmp) (r : V × List Entry × List Nat) : (fzCallF cfg nid d r).run μ = fzCall μ.p cfg nid d r := by
  simp only [fzCallF, fzCall, run_bif, run_bind, fzV_run, run_pure, run_fail]

theorem loadC_run (s : S) (t : TI) (c : C) : (loadCF s t c).run μ = loadC μ.p s t c := by
  cases c <;> try rfl
  · exact run_of _ _
  · rename_i id i sz off
    simp only [loadCF, loadC]
    cases get s.st id <;> try rfl
    · simp only
      rw [run_aEo μ _ _ rfl]
      congr 1; funext x; exact run_of _ _
    · rename_i z l
      simp only
      rw [run_aEo μ _ _ rfl]
      cases μ.p.idx l i with
      | none => rfl
      | some e => exact run_of _ _
  · exact run_of _ _

theorem storeC_run (s : S) (t : TI) (cs : List C) (c : C) : (storeCF s t cs c).run μ = storeC μ.p s t cs c := by
  cases c <;> try rfl
  · rename_i id off
    simp only [storeCF, storeC]
    cases get s.st id <;> try rfl
    rw [run_ite]; rfl
  · rename_i id i sz off
    simp only [storeCF, storeC]
    cases get s.st id <;> try rfl
    · simp only [run_ite, run_fail]
      rw [run_aEo μ _ _ rfl]
      simp only [run_pure, Option.map_eq_bind]; rfl
    rename_i s0 l
    simp only
    rw [run_aEo μ _ _ rfl]
    cases μ.p.idx l i with
    | none => rfl
    | some e =>
      simp only [Option.bind_some, run_ite, run_bind, run_of, run_fail]
      split
      · cases takeE s.st cs with
        | none => rfl
        | some x =>
          simp only [Option.bind_some]
          split
          · rfl
          · rw [run_aL μ _ _ rfl]; rfl
      · rfl

theorem callB_run (s : S) (nid : Nat) (b : Builtin) (ts : Array TypeId) (xs : List Operand) : (callBF cfg s nid b ts xs).run μ = callB μ.p cfg s nid b ts xs := by
  have len1 : ∀ x, (callBF cfg s nid .len ts [x]).run μ = callB μ.p cfg s nid .len ts [x] := fun x => by
    simp only [callBF, callB, run_bind, run_of]
    congr 1; funext c
    cases (ts[0]?).map (tdOf cfg) with
    | none => rfl
    | some d =>
      cases d <;> cases c <;> first | rfl | skip
      simp only [run_bind, run_of]; rfl
  have app : ∀ x y, (callBF cfg s nid .append ts [x, y]).run μ = callB μ.p cfg s nid .append ts [x, y] := fun x y => by
    simp only [callBF, callB, run_bind, run_of]
    congr 1; funext a
    congr 1; funext b
    cases (ts[0]?).bind cfg.T with
    | none => rfl
    | some i =>
      obtain ⟨d, d1, d2, d3, d4⟩ := i
      cases d with
      | slice e =>
        simp only
        cases cfg.T e with
        | none => rfl
        | some te =>
          simp only [run_bind, run_of, source_run]
          congr 1; funext p
          congr 1; funext q
          rw [run_aB μ _ _ rfl, run_aB μ _ _ rfl, run_bif, run_aL μ _ _ rfl]; rfl
      | _ => rfl
  have mx : ∀ x y, (callBF cfg s nid .max ts [x, y]).run μ = callB μ.p cfg s nid .max ts [x, y] := fun x y => by
    simp only [callBF, callB, run_bind, run_of]
    congr 1; funext a
    congr 1; funext b
    cases a with
    | int k a =>
      cases b with
      | int k' b => cases k <;> cases k' <;> rfl
      | _ => cases k <;> rfl
    | _ => cases b <;> rfl
  have mn : ∀ x y, (callBF cfg s nid .min ts [x, y]).run μ = callB μ.p cfg s nid .min ts [x, y] := fun x y => by
    simp only [callBF, callB, run_bind, run_of]
    congr 1; funext a
    congr 1; funext b
    cases a with
    | int k a =>
      cases b with
      | int k' b => cases k <;> cases k' <;> rfl
      | _ => cases k <;> rfl
    | _ => cases b <;> rfl
  cases b with
  | len => match xs with
    | [] => rfl
    | [x] => exact len1 x
    | _ :: _ :: _ => rfl
  | append => match xs with
    | [] => rfl
    | [_] => rfl
    | [x, y] => exact app x y
    | _ :: _ :: _ :: _ => rfl
  | max => match xs with
    | [] => rfl
    | [_] => rfl
    | [x, y] => exact mx x y
    | _ :: _ :: _ :: _ => rfl
  | min => match xs with
    | [] => rfl
    | [_] => rfl
    | [x, y] => exact mn x y
    | _ :: _ :: _ :: _ => rfl
  | _ => rfl

theorem ret_run (s : S) (v : V) : (retF s v).run μ = ret s v := rfl

theorem unfoldC_run (s : S) (t : TI) (nid : Nat) (c : C) : (unfoldCF s t nid c).run μ = unfoldC μ.p s t nid c := by
  cases c <;> try rfl
  rename_i id i sz off
  simp only [unfoldCF, unfoldC]
  cases get s.st id <;> try rfl
  simp only
  rw [run_aEo μ _ _ rfl]
  congr 1; funext e
  cases e[off]? with
  | none => rfl
  | some c =>
    cases c <;> try rfl
    simp only [run_bif, run_pure, run_fail]

theorem fold1_run (st : List Entry) (id : Nat) : (fold1F st id).run μ = fold1 μ.p st id := by
  unfold fold1F fold1
  cases get st id <;> try rfl
  rename_i sz l i off h
  simp only
  cases get st h <;> try rfl
  simp only
  rw [run_aEo μ _ _ rfl, Option.map_eq_bind]
  congr 1

theorem foldL_run (ids : List Nat) : ∀ st, (foldLF ids st).run μ = foldL μ.p ids st := by
  induction ids with
  | nil => intro st; rfl
  | cons id r ih =>
    intro st
    simp only [foldLF, foldL, run_bind, fold1_run, ih, run_pure, Option.map_eq_bind]; rfl

theorem mpGet_run (es : List (List UInt8 × Bool × List C)) (a : List UInt8) : (mpGetF es a).run μ = some (mpGet μ.p es a) := by
  induction es with
  | nil => rfl
  | cons e r ih =>
    simp only [mpGetF, mpGet]
    rw [run_aB μ _ _ rfl, run_bif, ih]
    cases μ.p.eqS a e.1 <;> rfl

theorem stepOp_run (nid : Nat) (s : S) (o : Oper) : (stepOpF cfg nid s o).run μ = stepOp cfg μ nid s o := by
  obtain ⟨dst, op, type, pos, after, guard⟩ := o
  cases op with
  | move x => rfl
  | makeMap t r => cases r <;> rfl
  | insert t q k x =>
    simp only [stepOpF, stepOp, run_bind, run_of]
    congr 1; funext c
    congr 1; funext d
    cases c <;> try rfl
    cases d <;> try rfl
    cases s.ev x <;> try rfl
    cases tdOf cfg t <;> try rfl
    rename_i id a g cs kt et
    simp only
    cases get s.st id <;> try rfl
    simp only [run_bif, run_bind, mpGet_run, Option.bind_some, run_fail]
    rename_i es
    cases mpGet μ.p es a <;> rfl
  | lookup t q k ok =>
    simp only [stepOpF, stepOp, run_bind, run_of]
    congr 1; funext c
    congr 1; funext d
    cases c <;> try rfl
    cases d <;> try rfl
    cases tdOf cfg t <;> try rfl
    rename_i id a kt et
    simp only
    cases get s.st id <;> try rfl
    simp only [run_bif, run_bind, mpGet_run, Option.bind_some, run_fail]
    rename_i es
    cases mpGet μ.p es a <;> simp only [run_bind, run_of, ret_run]
  | assign x => rfl
  | pick c a b => simp only [stepOpF, stepOp, run_bind, run_of, ret_run]
  | alloc t => simp only [stepOpF, stepOp, run_bind, run_of, run_pure]
  | box t x => simp only [stepOpF, stepOp, run_bind, run_of, run_pure]
  | build t ps =>
    simp only [stepOpF, stepOp, run_bind, run_of]
    congr 1; funext i
    congr 1; funext q
    cases i.d with
    | struct fs => simp only [run_bind, run_of, run_bif, ret_run, run_fail]
    | array n e =>
      cases q with
      | nil => simp only [run_bif, ret_run, run_fail]
      | cons _ _ => rfl
    | _ => rfl
  | buildSlice t n ps =>
    simp only [stepOpF, stepOp]
    cases tdOf cfg t with
    | slice e =>
      simp only [run_bind, run_of, run_ite, run_pure, run_fail]
    | _ => rfl
  | load t x => simp only [stepOpF, stepOp, run_bind, run_of, run_bif, unfoldC_run, loadC_run, ret_run]
  | store t x y => simp only [stepOpF, stepOp, run_bind, run_of, storeC_run]
  | nilCheck x => simp only [stepOpF, stepOp, run_bind, run_of, run_ite, ret_run, run_fail]
  | binOp op t x y u => simp only [stepOpF, stepOp, run_bind, run_of, bin_run, ret_run]
  | unOp op t x => simp only [stepOpF, stepOp, run_bind, run_of, un_run, ret_run]
  | convert a b x =>
    simp only [stepOpF, stepOp, run_bind, run_of]
    congr 1; funext c
    cases tdOf cfg a with
    | slice e =>
      cases tdOf cfg b with
      | string =>
        simp only
        cases tdOf cfg e with
        | int k =>
          cases k <;> try rfl
          cases c <;> try rfl
          · simp only; rw [run_aSo μ _ _ rfl]; rfl
          · simp only [run_bind, run_of]
            congr 1; funext q
            rw [run_aSo μ _ _ rfl]; rfl
        | _ => rfl
      | _ => rfl
    | int k => cases tdOf cfg b <;> cases c <;> rfl
    | string =>
      cases tdOf cfg b with
      | string => cases c <;> rfl
      | slice e =>
        cases c <;> try rfl
        simp only
        cases tdOf cfg e with
        | int k => cases k <;> rfl
        | _ => rfl
      | _ => rfl
    | _ => rfl
  | makeFunc fn first caps =>
    cases fn <;> try rfl
    simp only [stepOpF, stepOp, run_bind, run_of, run_bif, ret_run, run_fail]
  | makeSlice t n n2 =>
    simp only [stepOpF, stepOp]
    cases tdOf cfg t with
    | slice e =>
      simp only [run_bind, run_of]
      congr 1; funext te
      congr 1; funext a
      congr 1; funext b
      cases a with
      | int k a =>
        cases b with
        | int k' b =>
          cases k <;> try rfl
          cases k' <;> try rfl
          simp only
          rw [run_aB μ _ _ rfl, run_bif]
          congr 1
          rw [run_aNo μ _ _ rfl]; rfl
        | _ => cases k <;> rfl
      | _ => cases b <;> rfl
    | _ => rfl
  | slice t x lo hi mx =>
    cases mx with
    | some m => rfl
    | none =>
      simp only [stepOpF, stepOp, run_bind, run_of, optNat_run]
      congr 1; funext a
      congr 1; funext l
      congr 1; funext h
      cases tdOf cfg t with
      | string =>
        cases a <;> try rfl
        simp only; rw [run_aSo μ _ _ rfl]; rfl
      | slice e =>
        cases a <;> try rfl
        · simp only; rw [run_aLo μ _ _ rfl]; simp only [run_bif, ret_run, run_fail]
        · simp only; rw [run_aLo μ _ _ rfl]
          congr 1; funext b
          rw [run_aB μ _ _ rfl]; simp only [run_bif, ret_run, run_fail]
        · rename_i id
          simp only
          cases get s.st id <;> try rfl
          simp only; rw [run_aLo μ _ _ rfl]; simp only [run_ite, run_pure, run_fail]
      | _ => rfl
  | fieldAddr t x f =>
    simp only [stepOpF, stepOp, run_bind, run_of]
    congr 1; funext i
    congr 1; funext a
    cases i.d with
    | struct fs =>
      simp only
      cases fs[f]? with
      | none => rfl
      | some p =>
        simp only [run_ite, run_fail]
        split
        · rfl
        · cases a <;> try rfl
          simp only [run_ite, ret_run, run_fail]
    | _ => rfl
  | field t x f =>
    simp only [stepOpF, stepOp, run_bind, run_of]
    congr 1; funext i
    congr 1; funext cs
    cases i.d with
    | struct fs =>
      cases s.ev x with
      | val g cs' =>
        cases g <;> try rfl
        simp only
        cases fs[f]? with
        | none => rfl
        | some p => simp only [run_bind, run_of, run_ite, ret_run, run_fail]
      | _ => rfl
    | _ => rfl
  | indexAddr t x y =>
    simp only [stepOpF, stepOp, run_bind, run_of, natOf_run]
    congr 1; funext a
    congr 1; funext b
    congr 1; funext i
    cases tdOf cfg t with
    | slice e =>
      cases a <;> try rfl
      · simp only; rw [run_aEo μ _ _ rfl]
        cases μ.p.idx _ i with
        | none => rfl
        | some q => simp only [Option.bind_some, run_ite, ret_run, run_fail]
      · simp only [run_bind, run_of]
        congr 1; funext q
        rw [run_aEo μ _ _ rfl]
        cases μ.p.idx q.2 i with
        | none => rfl
        | some q => simp only [Option.bind_some, run_ite, ret_run, run_fail]
    | array n e =>
      cases a <;> try rfl
      rename_i id off
      simp only
      cases get s.st id <;> try rfl
      simp only
      rw [run_aB μ _ _ rfl]
      simp only [run_bif, ret_run, run_fail]
    | _ => rfl
  | index t x y =>
    simp only [stepOpF, stepOp, run_bind, run_of, natOf_run]
    congr 1; funext b
    congr 1; funext i
    cases tdOf cfg t with
    | string =>
      cases s.ev x with
      | val g cs =>
        cases g <;> try rfl
        match cs with
        | [] => rfl
        | [c] =>
          cases c <;> try rfl
          simp only; rw [run_aUo μ _ _ rfl]
          cases μ.p.idxS _ i <;> rfl
        | c :: _ :: _ => cases c <;> rfl
      | _ => rfl
    | array n e =>
      cases s.ev x with
      | val g cs =>
        cases g <;> try rfl
        simp only [run_bind, run_of]
        congr 1; funext te
        rw [run_aB μ _ _ rfl]
        simp only [run_bif, run_fail]
        rw [run_aEo μ _ _ rfl]
        simp only [run_bind, run_of, ret_run]
      | _ => rfl
    | _ => rfl
  | extract x i =>
    simp only [stepOpF, stepOp]
    cases s.ev x <;> try rfl
    rename_i vs
    simp only
    cases vs[i]? <;> rfl
  | call cl =>
    obtain ⟨callee, args, ts⟩ := cl
    cases callee with
    | builtin b => exact callB_run cfg μ s nid b ts _
    | value g =>
      simp only [stepOpF, stepOp]
      cases (s.ev g).one with
      | none => rfl
      | some c =>
        cases c <;> try rfl
        simp only [run_bind, callF_run]
        congr 1; funext r
        exact fzCall_run cfg μ nid dst r
    | invoke r m => rfl
  | _ => rfl

theorem frzSl_run (ts : List Tmp) : ∀ sl st, (frzSlF ts sl st).run μ = frzSl μ.p ts sl st := by
  induction ts with
  | nil => intro sl st; rfl
  | cons t r ih =>
    intro sl st
    simp only [frzSlF, frzSl, run_bind, fzV_run, run_bif, ih, run_pure, run_fail, Option.map_eq_bind]; rfl

theorem stepN_run (nid : Nat) (s : S) (o : Oper) : (stepNF cfg nid s o).run μ = stepN cfg μ nid s o := by
  unfold stepNF stepN
  simp only [run_bif, run_bind, stepOp_run, run_pure, Option.map_eq_bind]; rfl

theorem stepW_run (nid : Nat) (s : S) (o : Oper) : (stepWF cfg nid s o).run μ = stepW cfg μ nid s o := by
  unfold stepWF stepW
  cases frzTmps cfg.fz s o with
  | nil => exact stepN_run cfg μ nid s o
  | cons t r =>
    simp only [run_bind, frzSl_run, stepN_run, run_pure, Option.map_eq_bind]; rfl

theorem stepH_run (nid : Nat) (s : S) (o : Oper) : (stepHF cfg nid s o).run μ = stepH cfg μ nid s o := by
  unfold stepHF stepH
  cases opHoles s o with
  | nil => exact stepW_run cfg μ nid s o
  | cons t r =>
    simp only [run_bind, foldL_run, stepW_run, run_pure, Option.map_eq_bind]; rfl

theorem step1_run (ops : List Oper) (nid : Nat) (s : S) (o : Oper) : (step1F cfg ops nid s o).run μ = step1 cfg μ ops nid s o := by
  unfold step1F step1
  cases o.guard with
  | none => exact stepH_run cfg μ nid s o
  | some g =>
    obtain ⟨j, want⟩ := g
    simp only
    cases (ops[j]?).bind (·.dst) with
    | none => rfl
    | some d =>
      simp only
      cases look s.sl d with
      | val g cs =>
        cases g <;> try rfl
        match cs with
        | [] => rfl
        | [c] =>
          cases c <;> try rfl
          simp only [run_ite, stepH_run, ret_run]
        | c :: _ :: _ => cases c <;> rfl
      | tup vs =>
        cases vs <;> rfl
      | dead => rfl

theorem region_run (all : List Oper) (ops : List Oper) : ∀ s, (regionF cfg all ops s).run μ = region cfg μ all ops s := by
  induction ops with
  | nil => intro s; rfl
  | cons o r ih =>
    intro s
    simp only [regionF, region, run_bind, step1_run, run_bif, ih, run_fail]

theorem regionD_run (all : List Oper) (ops : List Oper) : ∀ s fs, (regionDF cfg all ops s fs).run μ = regionD cfg μ all ops s fs := by
  induction ops with
  | nil => intro s fs; rfl
  | cons o r ih =>
    intro s fs
    simp only [regionDF, regionD, stepD, run_bind, step1_run, run_bif, ih, run_fail]

theorem runRegion_run (prs : List (Nat × Nat)) (ops : List Oper) (d : Bool) (s : S) : (runRegionF cfg prs ops d s).run μ = runRegion cfg μ prs ops d s := by
  unfold runRegionF runRegion
  cases d <;> simp only [run_ite, run_bind, regionD_run, region_run, run_pure, run_fail, if_true] <;> rfl

theorem exec_run (f : FuncId) (code : Code) : ∀ s, (execF cfg f code s).run μ = exec cfg μ f code s := by
  induction code with
  | skip => intro s; rfl
  | region id ops d =>
    intro s
    simp only [execF, exec, run_bind, runRegion_run, run_pure]
    cases runRegion _ μ (cfg.free f id) ops.toList d s with
    | none => rfl
    | some s' => simp only [Option.bind_some, foldL_run, Option.map_eq_bind]; rfl
  | seq a b iha ihb =>
    intro s
    simp only [execF, exec, run_bind, iha]
    cases exec cfg μ f a s with
    | none => rfl
    | some x =>
      obtain ⟨e, s1⟩ := x
      cases e <;> first | exact ihb s1 | rfl
  | cond x a b iha ihb =>
    intro s
    simp only [execF, exec]
    cases truth (s.ev x) with
    | none => rfl
    | some t => cases t <;> simp only [branch, run_ite, iha, ihb]
  | block id b ih =>
    intro s
    simp only [execF, exec, run_bind, ih]
    cases exec cfg μ f b s with
    | none => rfl
    | some x =>
      obtain ⟨e, s1⟩ := x
      cases e <;> simp only [Option.bind_some, inBlk, run_ite, run_pure]
  | loop b ih => intro s; simp only [execF, exec, run_aX, run_pure]; cases μ.loop f b s <;> rfl
  | exit id => intro s; rfl
  | ret => intro s; rfl
  | _ => intro s; rfl

theorem resV_run (s : S) (x : ResultVar) : (resVF cfg s x).run μ = resV μ.p cfg s x := by
  cases x with
  | tmp t =>
    simp only [resVF, resV]
    cases look s.sl t <;> rfl
  | cell a t =>
    simp only [resVF, resV]
    cases (look s.sl a).one with
    | none => rfl
    | some c =>
      cases cfg.T t with
      | none => rfl
      | some i =>
        simp only [run_bind, loadC_run]
        cases loadC μ.p s i c with
        | none => rfl
        | some v => cases v <;> rfl

theorem res_run (s : S) (rs : List ResultVar) : (resF cfg s rs).run μ = rs.mapM (resV μ.p cfg s) := by
  induction rs with
  | nil => rfl
  | cons x rs ih =>
    rw [List.mapM_cons]
    simp only [resF, run_bind, resV_run, ih, run_pure]
    rfl

theorem leave_run (f : FuncId) (k : Nat) (rs : List ResultVar) (s : S) : (leaveF cfg f k rs s).run μ = leave μ.p cfg f k rs s := by
  simp only [leaveF, leave, run_bind, res_run, run_of]

theorem body_run (f : FuncId) (st : List Entry) (args : List V) (code : Code) (nt : Nat) (rs : List ResultVar) : (bodyF cfg f st args code nt rs).run μ = body cfg μ f st args code nt rs := by
  unfold bodyF body
  cases bounds nt code with
  | false => rfl
  | true =>
    simp only [Bool.not_true, cond_false, run_bind, exec_run]
    cases exec cfg μ f code (takeOver (cfg.mv f) ⟨init 0 args, st, st.length⟩) with
    | none => rfl
    | some x =>
      obtain ⟨e, s⟩ := x
      cases e <;> simp only [Option.bind_some, leave_run, run_fail]

/-- A call's answer, by a way through the tree. -/
theorem call_way {f : FuncId} {st : List Entry} {as : List V} {code : Code} {nt : Nat} {rs : List ResultVar} {r : V × List Entry} (l : List (Ask × Ans)) (hX : cfg.X f st as = none) (hf : cfg.funcs f = some (code, nt, rs))
    (h : follow (l.map Prod.snd) (bodyF cfg f st as code nt rs) = some (r, l)) (hl : Told (mach cfg) l) : (mach cfg).call f st as = some r := by
  refine mach_call hX hf ?_
  rw [← body_run]
  exact follow_run h hl

/-- A round of a loop, by a way through the tree: it goes on. -/
theorem loop_on {f : FuncId} {b : Code} {s s' : S} {r : Option (Ex × S)} (l : List (Ask × Ans)) (h : follow (l.map Prod.snd) (execF cfg f b s) = some ((.normal, s'), l)) (hl : Told (mach cfg) l) (hr : (mach cfg).loop f b s' = r) :
    (mach cfg).loop f b s = r := by
  rw [mach_loop]
  have := follow_run h hl
  rw [exec_run] at this
  rw [this]
  exact hr

/-- The last round. -/
theorem loop_end {f : FuncId} {b : Code} {s s' : S} {ex : Ex} (l : List (Ask × Ans)) (h : follow (l.map Prod.snd) (execF cfg f b s) = some ((ex, s'), l)) (hl : Told (mach cfg) l) (he : ex ≠ .normal) :
    (mach cfg).loop f b s = some (ex, s') := by
  rw [mach_loop]
  have := follow_run h hl
  rw [exec_run] at this
  rw [this]
  cases ex <;> first | exact (he rfl).elim | rfl
end
end Go.Am

/- Plain data as the machine has it, and what the machine answers of it. -/
namespace Go.Am

def eL {τ : Type} (e : τ → List C) (l : List τ) : List (List C) := l.map e
def e_int (x : Int) : List C := [.int .i64 x]
def e_u8 (x : UInt8) : List C := [.int .u8 ((x.toNat : Nat) : Int)]
def e_bool (x : Bool) : List C := [.bool x]
def e_str (x : List UInt8) : List C := [.str x]
def e_sl {τ : Type} (e : τ → List C) (x : List τ) : List C := [.seq (eL e x)]

/-- An encoding of n cells that are plain, and that read alone as they are. -/
structure Enc {τ : Type} (n : Nat) (e : τ → List C) : Prop where
  len : ∀ x, (e x).length = n
  pl : ∀ x, (e x).all plain = true
  vw : ∀ x, viewE (e x) = e x

theorem E_int : Enc 1 e_int := ⟨fun _ => rfl, fun _ => rfl, fun _ => rfl⟩
theorem E_u8 : Enc 1 e_u8 := ⟨fun _ => rfl, fun _ => rfl, fun _ => rfl⟩
theorem E_bool : Enc 1 e_bool := ⟨fun _ => rfl, fun _ => rfl, fun _ => rfl⟩
theorem E_str : Enc 1 e_str := ⟨fun _ => rfl, fun _ => rfl, fun _ => rfl⟩
theorem E_sl {τ : Type} (e : τ → List C) : Enc 1 (e_sl e) := ⟨fun _ => rfl, fun _ => rfl, fun _ => rfl⟩

theorem viewL_eL {τ : Type} {n : Nat} {e : τ → List C} (E : Enc n e) (l : List τ) : viewL (eL e l) = eL e l := by
  induction l with
  | nil => rfl
  | cons x l ih =>
    have : eL e (x :: l) = e x :: eL e l := rfl
    rw [this]; simp only [viewL, ih, E.vw]

/-- A slice that is owned. -/
def o_sl {τ : Type} (n : Nat) (o : τ → List C) (x : List τ) : List C := [.own n (eL o x)]
/-- An encoding of n cells that owns what it holds, and what it is where it is read alone. -/
structure OEnc {τ : Type} (n : Nat) (o e : τ → List C) : Prop where
  len : ∀ x, (o x).length = n
  vw : ∀ x, viewE (o x) = e x
  cl : ∀ x, cleanE (o x) = true

theorem O_int : OEnc 1 e_int e_int := ⟨fun _ => rfl, fun _ => rfl, fun _ => rfl⟩
theorem O_u8 : OEnc 1 e_u8 e_u8 := ⟨fun _ => rfl, fun _ => rfl, fun _ => rfl⟩
theorem O_bool : OEnc 1 e_bool e_bool := ⟨fun _ => rfl, fun _ => rfl, fun _ => rfl⟩
theorem O_str : OEnc 1 e_str e_str := ⟨fun _ => rfl, fun _ => rfl, fun _ => rfl⟩
theorem viewL_oL {τ : Type} {n : Nat} {o e : τ → List C} (O : OEnc n o e) (l : List τ) : viewL (eL o l) = eL e l := by
  induction l with
  | nil => rfl
  | cons x l ih =>
    have : eL o (x :: l) = o x :: eL o l := rfl
    rw [this]; simp only [viewL, ih, O.vw]; rfl
theorem clean_oL {τ : Type} {n : Nat} {o e : τ → List C} (O : OEnc n o e) (l : List τ) : cleanL (eL o l) = true := by
  induction l with
  | nil => rfl
  | cons x l ih =>
    have : eL o (x :: l) = o x :: eL o l := rfl
    rw [this]; simp only [cleanL, ih, O.cl]; rfl
theorem O_sl {τ : Type} {n : Nat} {o e : τ → List C} (m : Nat) (O : OEnc n o e) : OEnc 1 (o_sl m o) (e_sl e) :=
  ⟨fun _ => rfl, fun x => by simp only [o_sl, e_sl, viewE, viewC, viewL_oL O], fun x => by simp only [o_sl, cleanE, cleanC, clean_oL O]; rfl⟩

theorem bytes_eL (s : List UInt8) : bytesOf (eL e_u8 s) = some s := by
  induction s with
  | nil => rfl
  | cons b s ih =>
    have h : eL e_u8 (b :: s) = [C.int .u8 ((b.toNat : Nat) : Int)] :: eL e_u8 s := rfl
    rw [h]
    have hb := b.toNat_lt
    simp only [bytesOf, ih]
    rw [if_pos (by omega)]
    simp

def natO (z : Int) : Option Nat := if 0 ≤ z then some z.toNat else none
def madeO (n : Nat) (x : Int) : Option Nat := if 0 ≤ x ∧ x < 2 ^ 62 ∧ n * x ≤ 140737488355328 then some x.toNat else none
def cutO {τ : Type} (l : List τ) (lo hi : Option Nat) : Option (List τ) := (bound lo hi l.length).map fun b => (l.take b.2).drop b.1
def roomP (n m : Nat) : Prop := m * n ≤ maxBytes ∧ m ≤ 2 ^ 62
instance (n m : Nat) : Decidable (roomP n m) := by unfold roomP; infer_instance
abbrev w64 (x : Int) : Int := IntKind.i64.wrap x
def b8 (x : Int) : UInt8 := UInt8.ofNat (IntKind.u8.wrap x).toNat
theorem b8_toNat (x : Int) : (((b8 x).toNat : Nat) : Int) = IntKind.u8.wrap x := by
  have h : 0 ≤ IntKind.u8.wrap x ∧ IntKind.u8.wrap x < 256 := by unfold IntKind.wrap; simp [IntKind.bits, IntKind.signed]; omega
  unfold b8
  simp only [UInt8.toNat_ofNat']
  omega
theorem w64_id {x : Int} (h1 : -9223372036854775808 ≤ x) (h2 : x < 9223372036854775808) : w64 x = x := by unfold w64 IntKind.wrap; simp [IntKind.bits, IntKind.signed]; omega
theorem need_some {α : Type} {p : Prop} [Decidable p] {x : Option α} {r : α} (h : (if p then x else none) = some r) : p ∧ x = some r := by
  split at h
  · rename_i hp; exact ⟨hp, h⟩
  · cases h

/-- An array of truths: its cells, and one of them turned. -/
def arB (n : Nat) (a : Nat → Bool) : List C := (List.range n).map fun j => .bool (a j)
def updA {τ : Type} (a : Nat → τ) (i : Nat) (x : τ) : Nat → τ := fun j => if j = i then x else a j

namespace A
variable {cfg : Cfg} {a b : Int} {τ : Type} {e : τ → List C} {n : Nat}
theorem ltI_t (h : a < b) : (mach cfg).ans (.ltI a b) = some (.b true) := by show some (Ans.b (decide (a < b))) = _; rw [decide_eq_true h]
theorem ltI_f (h : ¬ a < b) : (mach cfg).ans (.ltI a b) = some (.b false) := by show some (Ans.b (decide (a < b))) = _; rw [decide_eq_false h]
theorem ltI_d : (mach cfg).ans (.ltI a b) = some (.b (decide (a < b))) := rfl
theorem leI_t (h : a ≤ b) : (mach cfg).ans (.leI a b) = some (.b true) := by show some (Ans.b (decide (a ≤ b))) = _; rw [decide_eq_true h]
theorem leI_f (h : ¬ a ≤ b) : (mach cfg).ans (.leI a b) = some (.b false) := by show some (Ans.b (decide (a ≤ b))) = _; rw [decide_eq_false h]
theorem leI_d : (mach cfg).ans (.leI a b) = some (.b (decide (a ≤ b))) := rfl
theorem eqI_t (h : a = b) : (mach cfg).ans (.eqI a b) = some (.b true) := by subst h; show some (Ans.b (a == a)) = _; simp
theorem eqI_f (h : ¬ a = b) : (mach cfg).ans (.eqI a b) = some (.b false) := by show some (Ans.b (a == b)) = _; simp [h]
theorem eqI_d : (mach cfg).ans (.eqI a b) = some (.b (decide (a = b))) := by
  show some (Ans.b (a == b)) = _
  by_cases h : a = b <;> simp [h]
theorem eqS_t {a b : List UInt8} (h : a = b) : (mach cfg).ans (.eqS a b) = some (.b true) := by subst h; show some (Ans.b (a == a)) = _; simp
theorem eqS_f {a b : List UInt8} (h : ¬ a = b) : (mach cfg).ans (.eqS a b) = some (.b false) := by show some (Ans.b (a == b)) = _; simp [h]
theorem eqS_d {a b : List UInt8} : (mach cfg).ans (.eqS a b) = some (.b (decide (a = b))) := by
  show some (Ans.b (a == b)) = _
  by_cases h : a = b <;> simp [h]
theorem ltS_t {a b : List UInt8} (h : Op.bytesLess a b = true) : (mach cfg).ans (.ltS a b) = some (.b true) := by show some (Ans.b (Op.bytesLess a b)) = _; rw [h]
theorem ltS_f {a b : List UInt8} (h : ¬ Op.bytesLess a b = true) : (mach cfg).ans (.ltS a b) = some (.b false) := by show some (Ans.b (Op.bytesLess a b)) = _; rw [show Op.bytesLess a b = false by simpa using h]
theorem ltS_d {a b : List UInt8} : (mach cfg).ans (.ltS a b) = some (.b (decide (Op.bytesLess a b = true))) := by show some (Ans.b (Op.bytesLess a b)) = _; simp
theorem nat {z : Int} {i : Nat} (h : natO z = some i) : (mach cfg).ans (.nat z) = some (.n i) := by
  show (natO z).map Ans.n = _; rw [h]; rfl
theorem made {m : Nat} {x : Int} {k : Nat} (h : madeO m x = some k) : (mach cfg).ans (.made m x) = some (.n k) := by
  show (madeO m x).map Ans.n = _; rw [h]; rfl
theorem idx {l : List τ} {i : Nat} {x : τ} {cs : List C} (h : l[i]? = some x) (he : e x = cs) : (mach cfg).ans (.idx (eL e l) i) = some (.e cs) := by
  show ((eL e l)[i]?).map Ans.e = _
  unfold eL
  rw [List.getElem?_map, h, ← he]; rfl
theorem setL {l : List τ} {i : Nat} {x : τ} {cs : List C} (he : e x = cs) : (mach cfg).ans (.setL (eL e l) i cs) = some (.l (eL e (l.set i x))) := by
  show some (Ans.l ((eL e l).set i cs)) = _
  unfold eL
  rw [List.map_set, he]
theorem idxS {l : List UInt8} {i : Nat} {x : UInt8} (h : l[i]? = some x) : (mach cfg).ans (.idxS l i) = some (.u x) := by
  show (l[i]?).map Ans.u = _; rw [h]; rfl
theorem len {l : List τ} : (mach cfg).ans (.len (eL e l)) = some (.i ((l.length : Nat) : Int)) := by
  show some (Ans.i ((eL e l).length : Int)) = _
  unfold eL; rw [List.length_map]
theorem view (E : Enc n e) {l : List τ} : (mach cfg).ans (.view (eL e l)) = some (.l (eL e l)) := by
  show some (Ans.l (viewL (eL e l))) = _; rw [viewL_eL E]
theorem viewO {o : τ → List C} (O : OEnc n o e) {l : List τ} : (mach cfg).ans (.view (eL o l)) = some (.l (eL e l)) := by
  show some (Ans.l (viewL (eL o l))) = _; rw [viewL_oL O]
theorem cln {o : τ → List C} (O : OEnc n o e) {l : List τ} : (mach cfg).ans (.cln (eL o l)) = some (.b true) := by
  show some (Ans.b (cleanL (eL o l))) = _; rw [clean_oL O]
theorem uniO {o : τ → List C} (O : OEnc n o e) {l : List τ} : (mach cfg).ans (.uni n (eL o l)) = some (.b true) := by
  show some (Ans.b ((eL o l).all (·.length == n))) = _
  congr 2
  rw [List.all_eq_true]
  intro x hx
  obtain ⟨y, _, rfl⟩ := List.mem_map.1 hx
  simp [O.len y]
theorem pl (E : Enc n e) {l : List τ} : (mach cfg).ans (.pl (eL e l)) = some (.b true) := by
  show some (Ans.b ((eL e l).all (·.all plain))) = _
  congr 2
  rw [List.all_eq_true]
  intro x hx
  obtain ⟨y, _, rfl⟩ := List.mem_map.1 hx
  exact E.pl y
theorem uni (E : Enc n e) {l : List τ} : (mach cfg).ans (.uni n (eL e l)) = some (.b true) := by
  show some (Ans.b ((eL e l).all (·.length == n))) = _
  congr 2
  rw [List.all_eq_true]
  intro x hx
  obtain ⟨y, _, rfl⟩ := List.mem_map.1 hx
  simp [E.len y]
theorem room {m : Nat} {l k : List τ} (h : roomP m (l.length + k.length)) : (mach cfg).ans (.room m (eL e l) (eL e k)) = some (.b true) := by
  show some (Ans.b (decide (((eL e l).length + (eL e k).length) * m ≤ maxBytes ∧ (eL e l).length + (eL e k).length ≤ 2 ^ 62))) = _
  unfold eL
  rw [List.length_map, List.length_map]
  have h' : (l.length + k.length) * m ≤ maxBytes ∧ l.length + k.length ≤ 2 ^ 62 := h
  rw [decide_eq_true h']
theorem app {l k : List τ} : (mach cfg).ans (.app (eL e l) (eL e k)) = some (.l (eL e (l ++ k))) := by
  show some (Ans.l (eL e l ++ eL e k)) = _
  unfold eL; rw [List.map_append]
theorem app0 {k : List τ} : (mach cfg).ans (.app (eL e []) (eL e k)) = some (.l (eL e k)) := rfl
theorem rep {k : Nat} {z : τ} {cs : List C} (h : e z = cs) : (mach cfg).ans (.rep k cs) = some (.l (eL e (List.replicate k z))) := by
  show some (Ans.l (List.replicate k cs)) = _
  unfold eL; rw [List.map_replicate, h]
theorem cut {l : List τ} {lo hi : Option Nat} {x : List τ} (h : cutO l lo hi = some x) : (mach cfg).ans (.cut (eL e l) lo hi) = some (.l (eL e x)) := by
  show ((bound lo hi (eL e l).length).map fun b => ((eL e l).take b.2).drop b.1).map Ans.l = _
  unfold cutO at h
  obtain ⟨b, hb, rfl⟩ := Option.map_eq_some_iff.1 h
  unfold eL
  rw [List.length_map, hb]
  simp [List.map_drop, List.map_take]
theorem cutS {l : List UInt8} {lo hi : Option Nat} {x : List UInt8} (h : cutO l lo hi = some x) : (mach cfg).ans (.cutS l lo hi) = some (.s x) := by
  show (cutO l lo hi).map Ans.s = _; rw [h]; rfl
theorem bytes {s : List UInt8} : (mach cfg).ans (.bytes (eL e_u8 s)) = some (.s s) := by
  show (bytesOf (eL e_u8 s)).map Ans.s = _
  rw [bytes_eL]; rfl
theorem ofStr {s : List UInt8} : (mach cfg).ans (.ofStr s) = some (.l (eL e_u8 s)) := rfl
theorem conv8 {x : Int} : (mach cfg).ans (.conv .u8 x) = some (.i (((b8 x).toNat : Nat) : Int)) := by rw [b8_toNat]; rfl
theorem conv_u8 {x : UInt8} : (mach cfg).ans (.conv .i64 ((x.toNat : Nat) : Int)) = some (.i ((x.toNat : Nat) : Int)) := by
  show some (Ans.i (IntKind.i64.wrap _)) = _
  have hb := x.toNat_lt
  rw [show IntKind.i64.wrap ((x.toNat : Nat) : Int) = ((x.toNat : Nat) : Int) from w64_id (by omega) (by omega)]
theorem add8 {x y : Int} : (mach cfg).ans (.add .u8 x y) = some (.i (((b8 (x + y)).toNat : Nat) : Int)) := by rw [b8_toNat]; rfl
theorem sub8 {x y : Int} : (mach cfg).ans (.sub .u8 x y) = some (.i (((b8 (x - y)).toNat : Nat) : Int)) := by rw [b8_toNat]; rfl
theorem nz {x : Int} (h : x ≠ 0) : (mach cfg).ans (.nz x) = some (.b true) := by show some (Ans.b (!(x == 0))) = _; simp [h]
theorem sub_b {n i : Nat} {a : Nat → Bool} (h : ((i : Nat) : Int) < ((n : Nat) : Int)) : (mach cfg).ans (.subA (arB n a) i 1 0 1) = some (.e [.bool (a i)]) := by
  show (prims.subA (arB n a) i 1 0 1).map Ans.e = _
  have hl : (arB n a).length = n := by simp [arB]
  have hi : i < (arB n a).length := by omega
  simp only [prims, Nat.mul_one, Nat.add_zero]
  rw [if_pos (by omega), List.drop_eq_getElem_cons hi]
  simp [arB]
theorem put_b {n i : Nat} {a : Nat → Bool} {x : Bool} (h : ((i : Nat) : Int) < ((n : Nat) : Int)) : (mach cfg).ans (.putA (arB n a) i 1 0 [.bool x]) = some (.e (arB n (updA a i x))) := by
  show (prims.putA (arB n a) i 1 0 [.bool x]).map Ans.e = _
  have hl : (arB n a).length = n := by simp [arB]
  simp only [prims, Nat.mul_one, Nat.add_zero, List.length_cons, List.length_nil, Nat.zero_add]
  rw [if_pos (by omega)]
  simp only [Option.map_some]
  congr 2
  refine List.ext_getElem? fun j => ?_
  rw [List.append_assoc]
  rcases Nat.lt_trichotomy j i with hj | hj | hj
  · rw [List.getElem?_append_left (by simp; omega), List.getElem?_take_of_lt hj]
    unfold arB updA
    rw [List.getElem?_map, List.getElem?_map, List.getElem?_range (by omega)]
    simp; omega
  · subst hj
    rw [List.getElem?_append_right (by simp; omega)]
    have : j - (List.take j (arB n a)).length = 0 := by simp; omega
    rw [this]
    unfold arB updA
    rw [List.getElem?_map, List.getElem?_range (by omega)]
    simp
  · rw [List.getElem?_append_right (by simp; omega), List.getElem?_append_right (by simp; omega), List.getElem?_drop]
    have : i + 1 + (j - (List.take i (arB n a)).length - [C.bool x].length) = j := by simp; omega
    rw [this]
    unfold arB updA
    rw [List.getElem?_map, List.getElem?_map]
    by_cases hjn : j < n
    · rw [List.getElem?_range hjn]; simp; omega
    · rw [List.getElem?_eq_none (by simp; omega)]; rfl
theorem call {f : FuncId} {st st' : List Entry} {as : List V} {v : V} (h : (mach cfg).call f st as = some (v, st')) : (mach cfg).ans (.call f st as) = some (.r v st') := by
  show ((mach cfg).call f st as).map (fun r => Ans.r r.1 r.2) = _; rw [h]; rfl
theorem loop {f : FuncId} {b : Code} {s s' : S} {ex : Ex} (h : (mach cfg).loop f b s = some (ex, s')) : (mach cfg).ans (.loop f b s) = some (.x ex s') := by
  show ((mach cfg).loop f b s).map (fun r => Ans.x r.1 r.2) = _; rw [h]; rfl
end A

/-- A question, its answer, and that it is so. -/
structure Q (cfg : Cfg) where
  q : Ask
  a : Ans
  h : (mach cfg).ans q = some a
namespace Q
variable {cfg : Cfg} {a b : Int} {τ : Type}
def p (x : Q cfg) : Ask × Ans := (x.q, x.a)
theorem told (l : List (Q cfg)) : Told (mach cfg) (l.map p) := by
  induction l with
  | nil => trivial
  | cons x l ih => exact ⟨x.h, ih⟩
theorem snd (l : List (Q cfg)) : (l.map p).map Prod.snd = l.map Q.a := by
  induction l with
  | nil => rfl
  | cons x l ih => simp only [List.map_cons, ih]; rfl
def lT (h : a < b) : Q cfg := ⟨.ltI a b, .b true, A.ltI_t h⟩
def lF (h : ¬ a < b) : Q cfg := ⟨.ltI a b, .b false, A.ltI_f h⟩
def lD (a b : Int) : Q cfg := ⟨.ltI a b, .b (decide (a < b)), A.ltI_d⟩
def gT (h : a ≤ b) : Q cfg := ⟨.leI a b, .b true, A.leI_t h⟩
def gF (h : ¬ a ≤ b) : Q cfg := ⟨.leI a b, .b false, A.leI_f h⟩
def gD (a b : Int) : Q cfg := ⟨.leI a b, .b (decide (a ≤ b)), A.leI_d⟩
def eT (h : a = b) : Q cfg := ⟨.eqI a b, .b true, A.eqI_t h⟩
def eF (h : ¬ a = b) : Q cfg := ⟨.eqI a b, .b false, A.eqI_f h⟩
def eD (a b : Int) : Q cfg := ⟨.eqI a b, .b (decide (a = b)), A.eqI_d⟩
def lTo (a b : Int) (h : a < b) : Q cfg := lT h
def lFo (a b : Int) (h : ¬ a < b) : Q cfg := lF h
def gTo (a b : Int) (h : a ≤ b) : Q cfg := gT h
def gFo (a b : Int) (h : ¬ a ≤ b) : Q cfg := gF h
def eTo (a b : Int) (h : a = b) : Q cfg := eT h
def eFo (a b : Int) (h : ¬ a = b) : Q cfg := eF h
def sT {a b : List UInt8} (h : a = b) : Q cfg := ⟨.eqS a b, .b true, A.eqS_t h⟩
def sF {a b : List UInt8} (h : ¬ a = b) : Q cfg := ⟨.eqS a b, .b false, A.eqS_f h⟩
def nt (b : Bool) : Q cfg := ⟨.notB b, .b (!b), rfl⟩
def ad (a b : Int) : Q cfg := ⟨.add .i64 a b, .i (w64 (a + b)), rfl⟩
def su (a b : Int) : Q cfg := ⟨.sub .i64 a b, .i (w64 (a - b)), rfl⟩
def na {z : Int} {i : Nat} (h : natO z = some i) : Q cfg := ⟨.nat z, .n i, A.nat h⟩
def le (e : τ → List C) (x : List τ) : Q cfg := ⟨.len (eL e x), .i ((x.length : Nat) : Int), A.len⟩
def ix {e : τ → List C} {l : List τ} {i : Nat} {x : τ} {cs : List C} (h : l[i]? = some x) (he : e x = cs) : Q cfg := ⟨.idx (eL e l) i, .e cs, A.idx h he⟩
def ix0 (e : τ → List C) {l : List τ} {i : Nat} {x : τ} (h : l[i]? = some x) : Q cfg := ⟨.idx (eL e l) i, .e (e x), A.idx h rfl⟩
def cl {f : FuncId} {st : List Entry} {as : List V} {r : V × List Entry} (h : (mach cfg).call f st as = some r) : Q cfg := ⟨.call f st as, .r r.1 r.2, A.call h⟩
def lp {f : FuncId} {b : Code} {s : S} {r : Ex × S} (h : (mach cfg).loop f b s = some r) : Q cfg := ⟨.loop f b s, .x r.1 r.2, A.loop h⟩
end Q
section
variable {cfg : Cfg}
theorem call_wQ {f : FuncId} {st : List Entry} {as : List V} {code : Code} {nt : Nat} {rs : List ResultVar} {r : V × List Entry} (l : List (Q cfg)) (hX : cfg.X f st as = none) (hf : cfg.funcs f = some (code, nt, rs))
    (h : follow (l.map Q.a) (bodyF cfg f st as code nt rs) = some (r, l.map Q.p)) : (mach cfg).call f st as = some r :=
  call_way cfg (l.map Q.p) hX hf (by rw [Q.snd]; exact h) (Q.told l)
theorem loop_nQ {f : FuncId} {b : Code} {s s' : S} {r : Option (Ex × S)} (l : List (Q cfg)) (h : follow (l.map Q.a) (execF cfg f b s) = some ((.normal, s'), l.map Q.p)) (hr : (mach cfg).loop f b s' = r) : (mach cfg).loop f b s = r :=
  loop_on cfg (l.map Q.p) (by rw [Q.snd]; exact h) (Q.told l) hr
theorem loop_eQ {f : FuncId} {b : Code} {s s' : S} {ex : Ex} (l : List (Q cfg)) (h : follow (l.map Q.a) (execF cfg f b s) = some ((ex, s'), l.map Q.p)) (he : ex ≠ .normal) : (mach cfg).loop f b s = some (ex, s') :=
  loop_end cfg (l.map Q.p) (by rw [Q.snd]; exact h) (Q.told l) he
end
theorem bs {α β : Type} {x : Option α} {f : α → Option β} {r : β} (h : x.bind f = some r) : ∃ a, x = some a ∧ f a = some r := Option.bind_eq_some_iff.1 h
theorem ite_some {α : Type} {p : Prop} [Decidable p] {x y : Option α} {r : α} (h : (if p then x else y) = some r) : (p ∧ x = some r) ∨ (¬ p ∧ y = some r) := by
  by_cases c : p
  · exact .inl ⟨c, by rw [if_pos c] at h; exact h⟩
  · exact .inr ⟨c, by rw [if_neg c] at h; exact h⟩

def bodyOf (f : Func) : Code := match f.body with | some b => b | none => .skip
def loopB (f : Func) (n : Nat) : Code := ((loops (bodyOf f))[n]?).getD .skip
end Go.Am

/- Arguments of a type, read as plain data. -/
namespace Go.Am
/-- What bears a type's cells is the data e of some x that md holds of. -/
def Rd {τ : Type} (T : TypeId → Option TI) (t : TypeId) (e : τ → List C) (md : τ → Prop) : Prop := ∀ cs, WT T t cs → ∃ x, cs = e x ∧ md x
def In64 (n : Int) : Prop := -9223372036854775808 ≤ n ∧ n < 9223372036854775808
section
variable {T : TypeId → Option TI} {t u : TypeId} {τ : Type} {e : τ → List C} {md : τ → Prop}

theorem rd_int {i : TI} (h : T t = some i) (hd : i.d = .int .i64) : Rd T t e_int In64 := by
  intro cs hw
  obtain ⟨n, rfl, h1⟩ := hw.int_inv h hd
  refine ⟨n, rfl, ?_⟩
  simp [Lit.wf, IntKind.min, IntKind.max, IntKind.bits, IntKind.signed] at h1
  unfold In64
  omega
theorem rd_u8 {i : TI} (h : T t = some i) (hd : i.d = .int .u8) : Rd T t e_u8 fun _ => True := by
  intro cs hw
  obtain ⟨n, rfl, h1⟩ := hw.int_inv h hd
  simp [Lit.wf, IntKind.min, IntKind.max, IntKind.bits, IntKind.signed] at h1
  refine ⟨UInt8.ofNat n.toNat, ?_, trivial⟩
  unfold e_u8
  simp only [UInt8.toNat_ofNat']
  congr 2
  omega
theorem rd_bool {i : TI} (h : T t = some i) (hd : i.d = .bool) : Rd T t e_bool fun _ => True := by
  intro cs hw
  obtain ⟨b, rfl⟩ := hw.bool_inv h hd
  exact ⟨b, rfl, trivial⟩
theorem rd_list {l : List (List C)} (h : ∀ x ∈ l, ∃ y, x = e y ∧ md y) : ∃ l', l = eL e l' ∧ ∀ y ∈ l', md y := by
  induction l with
  | nil => exact ⟨[], rfl, fun y hy => by cases hy⟩
  | cons x l ih =>
    obtain ⟨l', rfl, hl⟩ := ih fun x hx => h x (by simp [hx])
    obtain ⟨y, rfl, hy⟩ := h x (by simp)
    refine ⟨y :: l', rfl, fun z hz => ?_⟩
    rcases List.mem_cons.1 hz with rfl | hz
    · exact hy
    · exact hl z hz
theorem eL_len (l : List τ) : (eL e l).length = l.length := by unfold eL; rw [List.length_map]
theorem rd_sl {i : TI} (h : T t = some i) (hd : i.d = .slice u) (hu : Rd T u e md) : Rd T t (e_sl e) fun l => l.length ≤ 2 ^ 63 - 1 ∧ ∀ y ∈ l, md y := by
  intro cs hw
  obtain ⟨l, rfl, hl, hs⟩ := hw.slice_inv h hd
  obtain ⟨l', rfl, hm⟩ := rd_list fun x hx => hu x (hs x hx)
  rw [eL_len] at hl
  exact ⟨l', rfl, hl, hm⟩
theorem rd_mono {md' : τ → Prop} (h : Rd T t e md) (hm : ∀ x, md x → md' x) : Rd T t e md' := fun cs hw => by
  obtain ⟨x, rfl, hx⟩ := h cs hw
  exact ⟨x, rfl, hm x hx⟩
theorem seq_lt {x : List C} {l : List (List C)} {cs : List C} (hx : x ∈ l) (hc : C.seq l ∈ cs) : SizeOf.sizeOf x < SizeOf.sizeOf cs := by
  have h1 := List.sizeOf_lt_of_mem hx
  have h2 := List.sizeOf_lt_of_mem hc
  have h3 : SizeOf.sizeOf (C.seq l) = 1 + SizeOf.sizeOf l := C.seq.sizeOf_spec l
  omega
theorem all2_nil {α β : Type} {R : α → β → Prop} {bs : List β} (h : All2 R [] bs) : bs = [] := by cases h; rfl
theorem all2_cons {α β : Type} {R : α → β → Prop} {a : α} {as : List α} {bs : List β} (h : All2 R (a :: as) bs) : ∃ b bs', bs = b :: bs' ∧ R a b ∧ All2 R as bs' := by
  cases h with
  | cons h1 h2 => exact ⟨_, _, rfl, h1, h2⟩
end
end Go.Am

/- A function of the library that has no body: two texts compared. -/
namespace Go.Am

def cmpX (st : List Entry) : List V → Option (V × List Entry)
  | [.val false [.seq a], .val false [.seq b]] => match st with
    | [] => (bytesOf a).bind fun x => (bytesOf b).map fun y => (.val false [.int .i64 (Lib.compareBytes x y)], [])
    | _ => none
  | _ => none

section
variable {P : Program} {w : World} {cls : Cls} {hdr : Hdr}

theorem run_loadBytes : ∀ (s : List UInt8) (q : Addr) (acc : ByteArray), (∀ i b, s[i]? = some b → w.cell? (q.add i) = some (.int .u8 ((b.toNat : Nat) : Int))) →
    ∃ r : ByteArray, (Extern.Bytes.loadBytes q s.length acc).run P w = .ok r w ∧ r.data.toList = acc.data.toList ++ s := by
  intro s
  induction s with
  | nil => intro q acc _; exact ⟨acc, rfl, by simp⟩
  | cons b s ih =>
    intro q acc h
    have h0 := h 0 b rfl
    rw [show q.add 0 = q by simp [Addr.add]] at h0
    obtain ⟨r, h1, h2⟩ := ih (q.add 1) (acc.push ((b.toNat : Nat) : Int).toNat.toUInt8) (fun i c hi => by rw [add_add', Nat.add_comm]; exact h (i + 1) c (by simpa using hi))
    refine ⟨r, ?_, ?_⟩
    · simp only [List.length_cons, Extern.Bytes.loadBytes, Sem.run_bind, run_load' h0, Result.andThen_ok]
      exact h1
    · rw [h2]
      simp [ByteArray.push]

theorem run_bytesOf {u : Value} {l : List (List C)} {s : List UInt8} (h : RepC w cls hdr none u (.seq l)) (hs : bytesOf l = some s) : ∃ r : ByteArray, (Extern.Bytes.bytesOf u).run P w = .ok r w ∧ r.data.toList = s := by
  have hm := bytesOf_get hs
  have h1 : l.length = s.length := by rw [hm]; simp
  have h2 : ∀ (i : Nat) b, s[i]? = some b → l[i]? = some [.int .u8 ((b.toNat : Nat) : Int)] := fun i b hi => by rw [hm, List.getElem?_map, hi]; rfl
  obtain ⟨A, cap, sz, rfl, hc, hu, hcells⟩ := seq_form (vb := fun _ => 0) (st := []) (show RepR w cls hdr (fun _ => 0) [] u (.seq l) from h)
  cases s with
  | nil =>
    have : l = [] := List.eq_nil_of_length_eq_zero (by simpa using h1)
    subst this
    cases A with
    | none => exact ⟨.empty, rfl, rfl⟩
    | some q => exact ⟨.empty, rfl, rfl⟩
  | cons b s =>
    have hl0 := h2 0 b rfl
    obtain ⟨q, rfl, _, _, _⟩ := hcells 0 0 _ _ hl0 rfl
    have hsz : sz = 1 := by rw [← hu _ (List.mem_of_getElem? hl0)]; rfl
    subst hsz
    obtain ⟨r, r1, r2⟩ := run_loadBytes (P := P) (w := w) (b :: s) q .empty (fun i c hi => by
      have hli := h2 i c hi
      obtain ⟨q', e, _, _, v, hv, hr⟩ := hcells i 0 _ _ hli rfl
      injection e with e
      subst e
      have := (show RepR w cls hdr (fun _ => 0) [] v (.int .u8 ((c.toNat : Nat) : Int)) from hr).int
      rw [this] at hv
      simpa using hv)
    refine ⟨r, ?_, by simpa using r2⟩
    rw [h1]
    exact r1

theorem cmp_ok {f : FuncId} {fn : Func} (hf : P.funcs[f]? = some fn) (hn : (fn.name == "runtime.NumGoroutine") = false) (hb : fn.body = none) (hnext : Extern.findNext fn = none) (hfind : Extern.find fn = some Extern.BytealgCompare.compare)
    {st : List Entry} {as : List V} {r : V × List Entry} (h : cmpX st as = some r) : CallOk P f st as r := by
  intro w cls hdr vb us hus hE hids hvars
  unfold cmpX at h
  split at h
  · rename_i a b
    split at h
    · obtain ⟨x, hx, h⟩ := Option.bind_eq_some_iff.1 h
      obtain ⟨y, hy, rfl⟩ := Option.map_eq_some_iff.1 h
      obtain ⟨l⟩ := us
      cases hus with
      | cons h1 hus => cases hus with
        | cons h2 hus => cases hus with
          | nil =>
            obtain ⟨r1, e1, d1⟩ := run_bytesOf (P := P) h1.one hx
            obtain ⟨r2, e2, d2⟩ := run_bytesOf (P := P) h2.one hy
            refine .inr ⟨.int .i64 (Lib.compareBytes x y), w, ?_, cls, hdr, vb, Keep.refl _ _ _ _ _ _, fun b _ hc => ⟨rfl, hc⟩, RepR.val (RepC.int _ _ _), hE⟩
            have hn' : ¬ fn.name = "runtime.NumGoroutine" := by simpa using hn
            have hc : ∀ u1 u2 : Value, Extern.BytealgCompare.compare #[u1, u2] = (do pure (goInt (Extern.BytealgCompare.cmp (← Extern.Bytes.bytesOf u1) (← Extern.Bytes.bytesOf u2)))) := fun _ _ => rfl
            simp [callFunc, hf, hn', hb, hnext, hfind, hc, e1, e2, goInt, Lib.cmp_eq, d1, d2]
    · cases h
  · cases h
end
end Go.Am

/- Small facts for loops over lists. -/
namespace Go.Am

theorem natO_nat (i : Nat) : natO (i : Int) = some i := by unfold natO; rw [if_pos (by omega)]; rfl
theorem w64_succ {i : Nat} (h : i < 2 ^ 62) : w64 ((i : Int) + 1) = ((i + 1 : Nat) : Int) := w64_id (by omega) (by omega)
theorem w64_pred {i : Nat} (h : i < 2 ^ 62) (h0 : 0 < i) : w64 ((i : Int) - 1) = ((i - 1 : Nat) : Int) := by rw [w64_id (by omega) (by omega)]; omega
theorem drop_cons {α : Type} {l : List α} {i : Nat} (h : i < l.length) : l.drop i = l[i] :: l.drop (i + 1) := List.drop_eq_getElem_cons h
theorem fuel {m d : Nat} (h : d < m) : ∃ k, m = k + 1 ∧ d ≤ k := ⟨m - 1, by omega, by omega⟩
theorem get_some {α : Type} {l : List α} {i : Nat} (h : i < l.length) : l[i]? = some l[i] := List.getElem?_eq_getElem h
theorem made_ok {b n : Nat} (h : n ≤ 2 ^ 20) (hb : b ≤ 2 ^ 20) : madeO b (n : Int) = some n := by
  unfold madeO
  have h1 : b * n ≤ 2 ^ 20 * 2 ^ 20 := Nat.mul_le_mul hb h
  have h2 : ((b * n : Nat) : Int) = (b : Int) * (n : Int) := by simp
  rw [if_pos ⟨by omega, by omega, by rw [← h2]; omega⟩]; simp
theorem need_c {α : Type} {p : Prop} {inst : Decidable p} {x : Option α} {r : α} (h : @ite _ p inst x none = some r) : p ∧ x = some r := by
  split at h
  · rename_i hp; exact ⟨hp, h⟩
  · cases h

/-- A list that is a copy of another one up to a place. -/
def Pre {α : Type} (a v : List α) (i : Nat) : Prop := v.length = a.length ∧ ∀ j, j < i → v[j]? = a[j]?
theorem Pre.start {α : Type} {a v : List α} (h : v.length = a.length) : Pre a v 0 := ⟨h, fun j hj => by omega⟩
theorem Pre.step {α : Type} {a v : List α} {i : Nat} (h : Pre a v i) (hi : i < a.length) : Pre a (v.set i a[i]) (i + 1) := by
  refine ⟨by simp [h.1], fun j hj => ?_⟩
  by_cases e : j = i
  · subst e; rw [List.getElem?_set_self (by rw [h.1]; exact hi)]; simp [hi]
  · rw [List.getElem?_set_ne (by omega)]; exact h.2 j (by omega)
theorem Pre.done {α : Type} {a v : List α} {i : Nat} (h : Pre a v i) (hi : a.length ≤ i) : v = a := by
  refine List.ext_getElem? fun j => ?_
  rcases Nat.lt_or_ge j a.length with hj | hj
  · exact h.2 j (by omega)
  · rw [List.getElem?_eq_none (by rw [h.1]; exact hj), List.getElem?_eq_none hj]
def inB (lo hi : Nat) (x : UInt8) : Bool := decide (lo ≤ x.toNat) && decide (x.toNat ≤ hi)
end Go.Am

