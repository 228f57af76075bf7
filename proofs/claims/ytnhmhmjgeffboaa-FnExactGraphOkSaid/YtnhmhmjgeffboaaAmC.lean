/- The machine, part 3: a small deterministic machine over plain data, and the proof that what it answers the program answers too. Conditions: none beyond those written at each theorem. -/
import Derived.Test.YtnhmhmjgeffboaaAmB
import Derived.ChangeOld
import Derived.DataReads
import Derived.ProofKit
/- An argument that reads as data: the machine's cells for it, and what its type says of them. -/
namespace Go.Am

/-- Cells as a type has them. -/
inductive WT (T : TypeId → Option TI) : TypeId → List C → Prop
  | bool {t i b} (h : T t = some i) (hd : i.d = .bool) : WT T t [.bool b]
  | int {t i k n} (h : T t = some i) (hd : i.d = .int k) (hw : (Lit.int k n).wf = true) : WT T t [.int k n]
  | str {t i s} (h : T t = some i) (hd : i.d = .string) (hl : s.length ≤ maxLen) : WT T t [.str s]
  | slice {t i e l} (h : T t = some i) (hd : i.d = .slice e) (hl : l.length ≤ maxLen) (hs : ∀ x ∈ l, WT T e x) : WT T t [.seq l]
  | struct {t i fs} (css : List (List C)) (h : T t = some i) (hd : i.d = .struct fs) (hl : css.length = fs.length) (hs : ∀ (j : Nat) f c, fs[j]? = some f → css[j]? = some c → WT T f.2 c) : WT T t css.flatten

def contig (T : TypeId → Option TI) : Nat → List (Nat × TypeId) → Nat → Bool
  | off, [], n => Nat.beq off n
  | off, (o, t) :: r, n => Nat.beq off o && match T t with
    | some i => contig T (off + i.size) r n
    | none => false

/-- Types whose values are plain data, all through. -/
def rdType (T : TypeId → Option TI) (S : List TypeId) (t : TypeId) : Bool := match T t with
  | some i => match i.d with
    | .bool | .int _ | .string => Nat.beq i.size 1
    | .slice e => S.contains e && Nat.beq i.size 1 && match T e with | some x => Nat.blt 0 x.size | none => false
    | .struct fs => fs.all (fun f => S.contains f.2) && contig T 0 fs i.size
    | _ => false
  | none => false

theorem All2.flatten {α β : Type} {R : α → β → Prop} {as : List (List α)} {bs : List (List β)} (h : All2 (All2 R) as bs) : All2 R as.flatten bs.flatten := by
  induction h with
  | nil => exact .nil
  | cons hh ht ih => exact hh.append ih

theorem choose_list {α : Type} {p : Nat → α → Prop} : ∀ n, (∀ i, i < n → ∃ x, p i x) → ∃ l : List α, l.length = n ∧ ∀ i x, l[i]? = some x → p i x := by
  intro n
  induction n with
  | zero => intro _; exact ⟨[], rfl, by simp⟩
  | succ n ih =>
    intro h
    obtain ⟨l, hl, hp⟩ := ih fun i hi => h i (by omega)
    obtain ⟨x, hx⟩ := h n (by omega)
    refine ⟨l ++ [x], by simp [hl], fun i y hy => ?_⟩
    rcases Nat.lt_or_ge i l.length with hi | hi
    · rw [List.getElem?_append_left hi] at hy; exact hp i y hy
    · rw [List.getElem?_append_right hi] at hy
      have : i - l.length = 0 := by
        have := (List.getElem?_eq_some_iff.1 hy).1
        simpa using this
      rw [this] at hy
      simp at hy
      subst hy
      rw [show i = n by omega]; exact hx

theorem add_add' (q : Addr) (i j : Nat) : (q.add i).add j = q.add (i + j) := by
  obtain ⟨b, o, s⟩ := q
  unfold Addr.add
  by_cases hi : i = 0 <;> by_cases hj : j = 0 <;> simp [hi, hj]
  omega

theorem pieces {T : TypeId → Option TI} {α : Type} : ∀ (fs : List (Nat × TypeId)) (off n : Nat) (cs : List α), contig T off fs n = true → cs.length = n → (fs.map fun f => (cs.drop f.1).take (((T f.2).map (·.size)).getD 0)).flatten = cs.drop off := by
  intro fs
  induction fs with
  | nil =>
    intro off n cs h hl
    have := Nat.eq_of_beq_eq_true h
    subst this hl
    simp
  | cons f fs ih =>
    intro off n cs h hl
    obtain ⟨o, t⟩ := f
    simp only [contig, Bool.and_eq_true] at h
    obtain ⟨h1, h2⟩ := h
    have := Nat.eq_of_beq_eq_true h1
    subst this
    cases ht : T t with
    | none => rw [ht] at h2; cases h2
    | some i =>
      rw [ht] at h2
      simp only [List.map_cons, List.flatten_cons, ht, Option.map_some, Option.getD_some]
      rw [ih _ n cs h2 hl]
      rw [← List.drop_drop]
      exact List.take_append_drop _ _

section
variable {H : Type} {enc : TypeId × Value → H} {P : Program} {w : World} {spare : Nat → Bool} {held : Bool} {cfg : Cfg} {hdr : Hdr}

theorem cellsOf_ok (T : TOk P cfg) {t : TypeId} {i : TI} (h : cfg.T t = some i) : P.cellsOf t = i.size := by
  obtain ⟨x, h1, h2, _⟩ := (T t i h).info
  simp [Program.cellsOf, h1, h2]

/-- What the table says of such a type is what the program says. -/
theorem rd_cases (T : TOk P cfg) {S : List TypeId} {t : TypeId} (h : rdType cfg.T S t = true) : ∃ i, cfg.T t = some i ∧ ((P.underlying t = some .bool ∧ i.d = .bool) ∨ (∃ k, P.underlying t = some (.int k) ∧ i.d = .int k) ∨ (P.underlying t = some .string ∧ i.d = .string) ∨
    (∃ e x, P.underlying t = some (.slice e) ∧ i.d = .slice e ∧ e ∈ S ∧ cfg.T e = some x ∧ 0 < x.size) ∨ ∃ fl, P.underlying t = some (.struct fl) ∧ i.d = .struct (fl.toList.map fun f => (f.offset, f.type)) ∧ (∀ f ∈ fl.toList, f.type ∈ S) ∧ contig cfg.T 0 (fl.toList.map fun f => (f.offset, f.type)) i.size = true) := by
  unfold rdType at h
  cases hi : cfg.T t with
  | none => rw [hi] at h; cases h
  | some i =>
    rw [hi] at h
    refine ⟨i, rfl, ?_⟩
    obtain ⟨d, hu, _, hd⟩ := (T t i hi).und
    simp only at h
    rw [hu]
    cases hid : i.d with
    | bool => rw [hid] at hd; simp only at hd; subst hd; exact .inl ⟨rfl, rfl⟩
    | int k => rw [hid] at hd; simp only at hd; subst hd; exact .inr (.inl ⟨k, rfl, rfl⟩)
    | string => rw [hid] at hd; simp only at hd; subst hd; exact .inr (.inr (.inl ⟨rfl, rfl⟩))
    | slice e =>
      rw [hid] at hd h; simp only at hd h; subst hd
      simp only [Bool.and_eq_true] at h
      obtain ⟨⟨h1, _⟩, h2⟩ := h
      cases hx : cfg.T e with
      | none => rw [hx] at h2; cases h2
      | some x => rw [hx] at h2; exact .inr (.inr (.inr (.inl ⟨e, x, rfl, rfl, by simpa using h1, hx, blt_lt h2⟩)))
    | struct fs =>
      rw [hid] at hd h; simp only at hd h
      obtain ⟨fl, rfl, rfl⟩ := hd
      simp only [Bool.and_eq_true, List.all_eq_true] at h
      exact .inr (.inr (.inr (.inr ⟨fl, rfl, rfl, fun f hf => by simpa using h.1 _ (List.mem_map.2 ⟨f, hf, rfl⟩), h.2⟩)))
    | _ => rw [hid] at h; cases h

theorem mapM_at {α β : Type} {f : α → Option β} : ∀ {l : List α} {r : List β}, l.mapM f = some r → r.length = l.length ∧ ∀ (j : Nat) x, l[j]? = some x → ∃ y, r[j]? = some y ∧ f x = some y := by
  intro l
  induction l with
  | nil => intro r h; simp at h; subst h; simp
  | cons a l ih =>
    intro r h
    rw [List.mapM_cons] at h
    obtain ⟨y, h1, h⟩ := Option.bind_eq_some_iff.1 h
    obtain ⟨ys, h2, h⟩ := Option.bind_eq_some_iff.1 h
    simp at h
    subst h
    obtain ⟨i1, i2⟩ := ih h2
    refine ⟨by simp [i1], fun j x hj => ?_⟩
    cases j with
    | zero => simp at hj; subst hj; exact ⟨y, rfl, h1⟩
    | succ j => exact i2 j x (by simpa using hj)

theorem read_ok (T : TOk P cfg) {S : List TypeId} (hS : ∀ t ∈ S, rdType cfg.T S t = true) : ∀ (fuel : Nat) (t : TypeId) (cs : List Value) (x : DataW H × List MemPlace), t ∈ S → DataW.trod enc P w 0 spare held fuel t cs = some x →
    ∃ cs' : List C, All2 (RepC w (fun _ => none) hdr none) cs cs' ∧ WT cfg.T t cs' := by
  intro fuel
  induction fuel with
  | zero => intro t cs x _ h; simp [DataW.trod] at h
  | succ fuel ih =>
    intro t cs x ht h
    obtain ⟨i, hi, hc⟩ := rd_cases T (hS t ht)
    have hsz := cellsOf_ok T hi
    rw [DataW.trod_step] at h
    rcases hc with ⟨hu, hd⟩ | ⟨k, hu, hd⟩ | ⟨hu, hd⟩ | ⟨e, te, hu, hd, heS, hte, hpos⟩ | ⟨fl, hu, hd, hflS, hcon⟩
    · rcases cs with _ | ⟨c, _ | ⟨c2, cs⟩⟩ <;> simp only [DataW.trodStep, hu] at h <;> try (cases h; done)
      cases c <;> simp only at h <;> try (cases h; done)
      exact ⟨[.bool _], .cons (.bool _ _) .nil, .bool hi hd⟩
    · rcases cs with _ | ⟨c, _ | ⟨c2, cs⟩⟩ <;> simp only [DataW.trodStep, hu] at h <;> try (cases h; done)
      cases c <;> simp only at h <;> try (cases h; done)
      split at h
      · rename_i hw
        obtain ⟨rfl, hw⟩ := hw
        exact ⟨[.int _ _], .cons (.int _ _ _) .nil, .int hi hd hw⟩
      · cases h
    · rcases cs with _ | ⟨c, _ | ⟨c2, cs⟩⟩ <;> simp only [DataW.trodStep, hu] at h <;> try (cases h; done)
      cases c <;> simp only at h <;> try (cases h; done)
      rename_i s
      split at h
      · rename_i hl
        exact ⟨[.str s.data.toList], .cons (.str _ _ _ (by cases s; rfl)) .nil, .str hi hd (by rw [show s.data.toList.length = s.size from rfl]; exact hl)⟩
      · cases h
    · have nilcase : ∃ cs' : List C, All2 (RepC w (fun _ => none) hdr none) [.slice none 0 0] cs' ∧ WT cfg.T t cs' :=
        ⟨[.seq []], .cons (.seq _ none 0 0 0 [] (fun _ _ => .bool true) rfl (Nat.le_refl _) (by simp) (by simp) (by simp)) .nil, .slice hi hd (Nat.zero_le _) (by simp)⟩
      rcases cs with _ | ⟨c, _ | ⟨c2, cs⟩⟩ <;> simp only [DataW.trodStep, hu] at h <;> try (cases h; done)
      cases c <;> try (simp only at h; done)
      all_goals try (cases h; done)
      rename_i A len cap
      cases A with
      | none =>
        have : len = 0 ∧ cap = 0 := by
          cases len <;> cases cap <;> first | exact ⟨rfl, rfl⟩ | (cases h; done)
        obtain ⟨rfl, rfl⟩ := this
        exact nilcase
      | some ad =>
        simp only at h
        split at h
        · rename_i hc
          obtain ⟨_, hle, hcap⟩ := hc
          obtain ⟨elems, he, h2⟩ := Option.bind_eq_some_iff.1 h
          obtain ⟨m1, m2⟩ := mapM_at he
          have hsz2 := cellsOf_ok T hte
          have each : ∀ i, i < len → ∃ q : List Value × List C, (∀ j, j < te.size → w.cell? (ad.add (i * te.size + j)) = q.1[j]?) ∧ q.1.length = te.size ∧ All2 (RepC w (fun _ => none) hdr none) q.1 q.2 ∧ WT cfg.T e q.2 := fun i hil => by
            obtain ⟨y, _, hy⟩ := m2 i i (by rw [List.getElem?_range hil])
            obtain ⟨es, h3, h4⟩ := Option.bind_eq_some_iff.1 hy
            obtain ⟨_, l1, l2⟩ := World.cells?_some h3
            obtain ⟨c', r1, r2⟩ := ih e es y heS h4
            rw [hsz2] at l1 l2
            refine ⟨(es, c'), fun j hj => ?_, l1, r1, r2⟩
            rw [← l2 j hj, add_add']
          obtain ⟨Q, q1, q2⟩ := choose_list len each
          refine ⟨[.seq (Q.map (·.2))], .cons (.seq _ (some ad) len cap te.size _ (fun i j => ((Q[i]?).bind fun q => q.1[j]?).getD undef) (by simp [q1]) hle (fun x hx => ?_) (fun i j x c h1 h2 => ?_) (fun i j x c h1 h2 => ?_)) .nil, .slice hi hd (by simp [q1]; omega) (fun x hx => ?_)⟩
          · obtain ⟨q, hq, rfl⟩ := List.mem_map.1 hx
            obtain ⟨i, hil, he⟩ := List.mem_iff_getElem.1 hq
            obtain ⟨_, b, c, _⟩ := q2 i q (by rw [List.getElem?_eq_getElem hil, he])
            rw [← c.length]; exact b
          · rw [List.getElem?_map] at h1
            obtain ⟨q, hq, rfl⟩ := Option.map_eq_some_iff.1 h1
            obtain ⟨a1, b1, c1, _⟩ := q2 i q hq
            obtain ⟨u, hu, _⟩ := c1.get h2
            have hj : j < te.size := by
              have := (List.getElem?_eq_some_iff.1 hu).1; omega
            exact ⟨ad, rfl, rfl, by rw [a1 j hj, hu]; simp [hq, hu]⟩
          · rw [List.getElem?_map] at h1
            obtain ⟨q, hq, rfl⟩ := Option.map_eq_some_iff.1 h1
            obtain ⟨a1, b1, c1, _⟩ := q2 i q hq
            obtain ⟨u, hu, hr⟩ := c1.get h2
            simp only [hq, Option.bind_some, hu, Option.getD_some]
            exact hr
          · obtain ⟨q, hq, rfl⟩ := List.mem_map.1 hx
            obtain ⟨i, hil, he⟩ := List.mem_iff_getElem.1 hq
            exact (q2 i q (by rw [List.getElem?_eq_getElem hil, he])).2.2.2
        · cases h
    · simp only [DataW.trodStep, hu] at h
      split at h
      · rename_i hlen
        obtain ⟨xs, hx, _⟩ := Option.map_eq_some_iff.1 h
        obtain ⟨m1, m2⟩ := mapM_at hx
        have each : ∀ j, j < fl.toList.length → ∃ c' : List C, ∀ f, fl.toList[j]? = some f → All2 (RepC w (fun _ => none) hdr none) ((cs.drop f.offset).take (P.cellsOf f.type)) c' ∧ WT cfg.T f.type c' := fun j hj => by
          have hf := List.getElem?_eq_getElem hj
          obtain ⟨y, _, hy⟩ := m2 j _ hf
          obtain ⟨c', r1, r2⟩ := ih _ _ _ (hflS _ (List.getElem_mem hj)) hy
          exact ⟨c', fun f hf' => by rw [hf] at hf'; injection hf' with hf'; subst hf'; exact ⟨r1, r2⟩⟩
        obtain ⟨Q, q1, q2⟩ := choose_list _ each
        refine ⟨Q.flatten, ?_, .struct Q hi hd (by simp [q1]) (fun j f c hj hc => ?_)⟩
        · have hp := pieces (fl.toList.map fun f => (f.offset, f.type)) 0 i.size cs hcon (by rw [hlen, hsz])
          rw [List.drop_zero, List.map_map] at hp
          rw [← hp]
          refine All2.flatten (All2.of_get (by simp [q1]) fun j a b ha hb => ?_)
          rw [List.getElem?_map] at ha
          obtain ⟨f, hf, rfl⟩ := Option.map_eq_some_iff.1 ha
          have := (q2 j b hb f hf).1
          simp only [Function.comp]
          have hcell : ((cfg.T f.type).map (·.size)).getD 0 = P.cellsOf f.type := by
            obtain ⟨z, hz, _⟩ := rd_cases T (hS _ (hflS f (List.mem_of_getElem? hf)))
            rw [hz, cellsOf_ok T hz]; rfl
          rw [hcell]; exact this
        · rw [List.getElem?_map] at hj
          obtain ⟨g, hg, rfl⟩ := Option.map_eq_some_iff.1 hj
          exact (q2 j c hc g hg).2
      · cases h
end
end Go.Am

/- A law of plain data that answers true: the row's part from the machine's answer. -/
namespace Go.Am
open Go.ChangeShapes Go.WideShapes Go.ChangeAt Go.RowKit

/-- An argument of a type, as the machine has it. -/
def ArgOf (T : TypeId → Option TI) (t : TypeId) (a : V) : Prop := ∃ i cs, T t = some i ∧ a = .val i.agg cs ∧ WT T t cs

section
variable {H : Type} {enc : TypeId × Value → H} {P : Program} {W : World} {cfg : Cfg}

theorem plain_of {w : World} {cls : Cls} {hdr : Hdr} {u : Value} {c : C} (h : RepC w cls hdr none u c) : plain c = true := by cases h <;> rfl

theorem arg_ok (T : TOk P cfg) {S : List TypeId} (hS : ∀ t ∈ S, rdType cfg.T S t = true) {t : TypeId} (ht : t ∈ S) {base : Nat} {v : Value} {d : DataW H} {ps : List MemPlace} (hv : Value.okWide P W .any base t v)
    (h : DataW.Trod enc P W 0 (fun _ => true) true t v d ps) : ∃ a, ArgOf cfg.T t a ∧ RepV W (fun _ => none) (fun _ => .nilIface) (fun _ => 0) [] v a := by
  obtain ⟨fuel, hf⟩ := h
  obtain ⟨cs, r1, r2⟩ := read_ok (hdr := fun _ => .nilIface) T hS fuel t _ _ ht hf
  obtain ⟨i, hi, hc⟩ := rd_cases T (hS t ht)
  obtain ⟨d', hu, hagg, _⟩ := (T t i hi).und
  have hr : All2 (RepR W (fun _ => none) (fun _ => .nilIface) (fun _ => 0) []) v.cells.toList cs := r1.mono fun u c _ h => RepR.of h (plain_of h)
  refine ⟨.val i.agg cs, ⟨i, cs, hi, rfl, r2⟩, v.cells.toList, hr, ?_⟩
  have one : (∀ a, v ≠ .agg a) → i.agg = false → (if i.agg then v = .agg v.cells.toList.toArray else v.cells.toList = [v]) := fun hne hfalse => by
    rw [hfalse]
    simp only [Bool.false_eq_true, if_false]
    cases v <;> first | rfl | exact (hne _ rfl).elim
  rcases hc with ⟨hu', _⟩ | ⟨k, hu', _⟩ | ⟨hu', _⟩ | ⟨e, te, hu', _⟩ | ⟨fl, hu', _⟩ <;> rw [hu'] at hu <;> injection hu with hu <;> subst hu
  · obtain ⟨b, rfl⟩ := okWide_bool hu' hv; exact one (by simp) hagg
  · obtain ⟨n, rfl⟩ := okWide_int hu' hv; exact one (by simp) hagg
  · obtain ⟨s, rfl⟩ := okWide_string hu' hv; exact one (by simp) hagg
  · obtain ⟨A, l, c, rfl⟩ := okWide_slice hu' hv; exact one (by simp) hagg
  · obtain ⟨a, rfl, _⟩ := okWide_struct hu' hv
    rw [hagg]
    simp [Value.cells]

theorem args_read (T : TOk P cfg) {S : List TypeId} (hS : ∀ t ∈ S, rdType cfg.T S t = true) : ∀ {ts : List TypeId} {vs : List Value} {ds : List (DataW H)} {ps : List MemPlace} {base : Nat}, (∀ t ∈ ts, t ∈ S) → (∀ (j : Nat) t v, ts[j]? = some t → vs[j]? = some v → Value.okWide P W .any base t v) →
    DataW.TrodAll enc P W 0 (fun _ => true) true ts vs ds ps → ∃ as : List V, All2 (ArgOf cfg.T) ts as ∧ All2 (RepV W (fun _ => none) (fun _ => .nilIface) (fun _ => 0) []) vs as := by
  intro ts
  induction ts with
  | nil =>
    intro vs ds ps base _ _ h
    obtain ⟨rfl, _, _⟩ := trodAll_nil h
    exact ⟨[], .nil, .nil⟩
  | cons t ts ih =>
    intro vs ds ps base ht hv h
    obtain ⟨v, vs, d, ds, p, q, rfl, rfl, rfl, h1, h2⟩ := trodAll_cons h
    obtain ⟨a, a1, a2⟩ := arg_ok T hS (ht t (by simp)) (hv 0 t v rfl rfl) h1
    obtain ⟨as, b1, b2⟩ := ih (fun t h => ht t (by simp [h])) (fun j t v h1 h2 => hv (j + 1) t v (by simpa using h1) (by simpa using h2)) h2
    exact ⟨a :: as, .cons a1 b1, .cons a2 b2⟩

theorem WT.noIds {T : TypeId → Option TI} {t : TypeId} {cs : List C} (h : WT T t cs) : idsE cs = [] := by
  induction h with
  | bool => rfl
  | int => rfl
  | str => rfl
  | slice => rfl
  | struct css h hd hl hs ih =>
    have : ∀ (fs : List (Nat × TypeId)) (css : List (List C)), css.length = fs.length → (∀ (j : Nat) f c, fs[j]? = some f → css[j]? = some c → idsE c = []) → idsE css.flatten = [] := by
      intro fs
      induction fs with
      | nil => intro css hl _; cases css <;> simp at hl ⊢; rfl
      | cons f fs ih =>
        intro css hl hc
        cases css with
        | nil => simp at hl
        | cons c css =>
          have h1 := hc 0 f c rfl rfl
          have h2 := ih css (by simpa using hl) fun j f c hf hc' => hc (j + 1) f c (by simpa using hf) (by simpa using hc')
          have key : ∀ (a b : List C), idsE a = [] → idsE b = [] → idsE (a ++ b) = [] := by
            intro a
            induction a with
            | nil => intro b _ hb; exact hb
            | cons x a ih =>
              intro b ha hb
              rw [idsE_cons, List.append_eq_nil_iff] at ha
              rw [List.cons_append, idsE_cons, ha.1, ih b ha.2 hb]; rfl
          exact key _ _ h1 h2
    exact this _ css hl ih

/-- The call itself. -/
theorem law_calls (T : TOk P cfg) (F : FnsOk P cfg) (X : ∀ f st as r, cfg.X f st as = some r → CallOk P f st as r) (hmix : P.follows .mixedOrders = true) {S : List TypeId} (hS : ∀ t ∈ S, rdType cfg.T S t = true) {f : FuncId} {fn : Func} (hfn : P.funcs[f]? = some fn) (hbody : fn.body.isSome = true) (hname : (fn.name == "runtime.NumGoroutine") = false)
    (hts : ∀ t ∈ fn.params.toList, t ∈ S) {args : Array Value} {ds : List (DataW H)} {ps : List MemPlace} {base : Nat} (hv : ∀ (j : Nat) t v, fn.params[j]? = some t → args[j]? = some v → Value.okWide P W .any base t v)
    (hA : DataW.TrodAll enc P W 0 (fun _ => true) true fn.params.toList args.toList ds ps) (heq : ∀ as, All2 (ArgOf cfg.T) fn.params.toList as → (mach cfg).call f [] as = some (.val false [.bool true], [])) :
    Calls P f args W fun e W' => e = .returned (.bool true) ∧ Below W.heap.size W W' := by
  obtain ⟨as, a1, a2⟩ := args_read T hS hts (fun j t v h1 h2 => hv j t v (by simpa using h1) (by simpa using h2)) hA
  have hids : idsArgs as = [] := by
    have : ∀ (ts : List TypeId) (as : List V), All2 (ArgOf cfg.T) ts as → idsArgs as = [] := by
      intro ts as h
      induction h with
      | nil => rfl
      | cons hh ht ih =>
        obtain ⟨i, cs, _, rfl, hw⟩ := hh
        simp only [idsArgs, idsV, hw.noIds, ih, List.append_nil]
    exact this _ _ a1
  have hd := mach_ok T F X hmix (heq as a1) W (fun _ => none) (fun _ => .nilIface) (fun _ => 0) args a2 (fun id => by rw [show get [] id = .dead by cases id <;> rfl]; trivial) (by rw [hids]; simp) (fun j cs h => by rw [show get [] j = .dead by cases j <;> rfl] at h; cases h)
  have hent : (callFunc f args).run P W = .ok (.enter f args) W := by
    have : ¬ fn.name = "runtime.NumGoroutine" := by simpa using hname
    cases hb : fn.body with
    | none => rw [hb] at hbody; cases hbody
    | some c => simp [callFunc, hfn, this, hb]
  rcases hd with ⟨_, hc⟩ | ⟨u, w', hr, _⟩
  · refine hc.mono fun e W' he => ?_
    cases e with
    | returned u =>
      obtain ⟨cls', hdr', vb', kp, _, hu, _⟩ := he
      have hu : RepV W' cls' hdr' vb' [] u (.val false [.bool true]) := hu
      have := hu.one.bool
      subst this
      exact ⟨rfl, kp.io.1, kp.io.2.2, kp.io.2.1, kp.size, fun k hk => (kp.ro k hk rfl).1⟩
    | _ => exact he.elim
  · rw [hent] at hr; cases hr

theorem trodAll_below (hl : laidOutB P = true) {W' : World} (hb : Below W.heap.size W W') : ∀ {ts : List TypeId} {vs : List Value} {ds : List (DataW H)} {ps : List MemPlace}, (∀ t ∈ ts, P.readableRec t = true ∧ t < P.types.size) → (∀ x ∈ ps, x.block < W.heap.size) →
    DataW.TrodAll enc P W 0 (fun _ => true) true ts vs ds ps → DataW.TrodAll enc P W' 0 (fun b => decide (b < W.heap.size)) true ts vs ds ps := by
  intro ts
  induction ts with
  | nil =>
    intro vs ds ps _ _ h
    obtain ⟨rfl, rfl, rfl⟩ := trodAll_nil h
    rfl
  | cons t ts ih =>
    intro vs ds ps ht hp h
    obtain ⟨v, vs, d, ds, p, q, rfl, rfl, rfl, h1, h2⟩ := trodAll_cons h
    exact ⟨p, q, Below.trod hl (ht t (by simp)).1 (ht t (by simp)).2 h1 hb fun x hx => hp x (by simp [hx]), ih (fun t h => ht t (by simp [h])) (fun x hx => hp x (by simp [hx])) h2, rfl⟩

/-- What the row asks behind the call. -/
theorem law_post {fn : Func} {s : ChangeSpec} {apart fresh handsOn : Bool} {W' : World} {args : Array Value} {ds gs : List (DataW H)} {before : List MemPlace} {tb : TypeId} (hl : laidOutB P = true) (hvars : s.vars = []) (hres : fn.resultTypes = #[tb]) (htb : P.underlying tb = some .bool)
    (hts : ∀ t ∈ fn.params.toList, P.readableRec t = true ∧ t < P.types.size) (hW : DataW.Whole enc P fn.params.toList s.vars apart W args.toList ds gs before) (hspec : s.fn H (ds ++ gs) = { results := [.lit (.bool true)], args := ds }) (hb : Below W.heap.size W W') :
    s.post enc P fn apart fresh handsOn false W args (.bool true) W' := by
  have hW' := hW
  obtain ⟨p, q, hA, hV, rfl, _, _⟩ := hW
  rw [hvars] at hV
  obtain ⟨rfl, rfl⟩ := trodVars_none hV
  refine ⟨ds, [], p ++ [], [], p, [], hW', ?_, ?_, ?_, hb.frame _, fun h => by cases h⟩
  · rw [hspec, hres]
    exact trodAll_mk1 (d := .lit (.bool true)) ⟨1, by simp [DataW.trod, htb, Value.cells]⟩
  · rw [hspec]
    exact trodAll_below hl hb hts (fun x hx => hW'.lt x (by simp [hx])) hA
  · rw [hspec, hvars]
    rfl
end
end Go.Am

/- The tables that a claim writes out, checked against the program. -/
namespace Go.Am

def Tr.all (p : Nat → TI → Bool) : Tr → Bool
  | .nil => true
  | .node l k v r => l.all p && p k v && r.all p

theorem Tr.find_all {p : Nat → TI → Bool} {tr : Tr} (h : tr.all p = true) {t : Nat} {i : TI} (hf : tr.find t = some i) : p t i = true := by
  induction tr with
  | nil => cases hf
  | node l k v r ihl ihr =>
    simp only [Tr.all, Bool.and_eq_true] at h
    simp only [Tr.find] at hf
    cases hb : Nat.beq t k with
    | true =>
      rw [hb] at hf
      simp only [cond_true, Option.some.injEq] at hf
      subst hf
      have := Nat.eq_of_beq_eq_true hb
      subst this
      exact h.1.2
    | false =>
      rw [hb] at hf
      simp only [cond_false] at hf
      cases hc : Nat.blt t k with
      | true => rw [hc] at hf; exact ihl h.1.1 hf
      | false => rw [hc] at hf; exact ihr h.2 hf

def zeroC : Value → C → Bool
  | .int k n, .int k' n' => decide (k = k') && decide (n = n')
  | .bool b, .bool b' => b == b'
  | .string s, .str [] => s.data.toList.isEmpty
  | .slice none 0 0, .nils => true
  | .nilFunc, .raw .nilFunc => true
  | .nilIface, .raw .nilIface => true
  | .pointer none, .raw (.pointer none) => true
  | .map none, .raw (.map none) => true
  | _, _ => false

theorem zeroC_ok {u : Value} {c : C} (h : zeroC u c = true) : RepC default (fun _ => none) (fun _ => .nilIface) none u c := by
  unfold zeroC at h
  split at h
  · simp only [Bool.and_eq_true, decide_eq_true_eq] at h
    obtain ⟨rfl, rfl⟩ := h
    exact .int _ _ _
  · simp only [beq_iff_eq] at h
    subst h
    exact .bool _ _
  · rename_i s
    refine .str _ _ _ ?_
    obtain ⟨d⟩ := s
    have h := List.isEmpty_iff.1 h
    rw [← h]
  · exact .nils _
  · exact .raw _ _ rfl
  · exact .raw _ _ rfl
  · exact .raw _ _ rfl
  · exact .raw _ _ rfl
  · cases h

def zeroB : List Value → List C → Bool
  | [], [] => true
  | u :: us, c :: cs => zeroC u c && zeroB us cs
  | _, _ => false

theorem zeroB_ok : ∀ {us : List Value} {cs : List C}, zeroB us cs = true → All2 (RepC default (fun _ => none) (fun _ => .nilIface) none) us cs := by
  intro us
  induction us with
  | nil => intro cs h; cases cs with
    | nil => exact .nil
    | cons c cs => simp [zeroB] at h
  | cons u us ih =>
    intro cs h
    cases cs with
    | nil => simp [zeroB] at h
    | cons c cs =>
      simp only [zeroB, Bool.and_eq_true] at h
      exact .cons (zeroC_ok h.1) (ih h.2)

def typeOkB (P : Program) (t : TypeId) (i : TI) : Bool :=
  (match P.info? t with
  | some x => Nat.beq x.size i.size && Nat.beq x.bytes i.bytes && match x.zero with
    | some z => Nat.beq z.cells.size i.size && zeroB z.cells.toList i.zero && match z with
      | .agg _ => i.agg
      | .tuple _ => false
      | _ => !i.agg
    | none => false
  | none => false) &&
  match P.underlying t with
  | some d => (i.agg == match d with | .struct _ | .array _ _ => true | _ => false) && match i.d, d with
    | .slice e, .slice e' => Nat.beq e e'
    | .struct fs, .struct fl => decide (fl.toList.map (fun f => (f.offset, f.type)) = fs)
    | .array n e, .array n' e' => Nat.beq n n' && Nat.beq e e'
    | .int k, .int k' => decide (k = k')
    | .bool, .bool => true
    | .string, .string => true
    | .ptr, .pointer _ => true
    | .other, _ => true
    | _, _ => false
  | none => false

theorem typeOkB_ok {P : Program} {t : TypeId} {i : TI} (h : typeOkB P t i = true) : TypeOk P t i := by
  unfold typeOkB at h
  rw [Bool.and_eq_true] at h
  obtain ⟨h1, h2⟩ := h
  refine ⟨?_, ?_⟩
  · split at h1
    · rename_i x hx
      simp only [Bool.and_eq_true] at h1
      obtain ⟨⟨a1, a2⟩, a3⟩ := h1
      split at a3
      · rename_i z hz
        simp only [Bool.and_eq_true] at a3
        obtain ⟨⟨b1, b2⟩, b3⟩ := a3
        refine ⟨x, hx, Nat.eq_of_beq_eq_true a1, Nat.eq_of_beq_eq_true a2, z, hz, Nat.eq_of_beq_eq_true b1, zeroB_ok b2, ?_⟩
        split at b3
        · rw [b3]; rfl
        · cases b3
        · rename_i n1 n2
          have b3 : i.agg = false := by simpa using b3
          rw [b3]
          simp only [Bool.false_eq_true, if_false]
          cases z <;> first | rfl | exact (n1 _ rfl).elim | exact (n2 _ rfl).elim
      · cases a3
    · cases h1
  · split at h2
    · rename_i d hd
      rw [Bool.and_eq_true] at h2
      obtain ⟨c1, c2⟩ := h2
      refine ⟨d, hd, by cases d <;> simpa using c1, ?_⟩
      split at c2 <;> rename_i e1
      · rw [e1]; have := Nat.eq_of_beq_eq_true c2; subst this; rfl
      · rw [e1]; exact ⟨_, rfl, of_decide_eq_true c2⟩
      · rw [e1]
        simp only [Bool.and_eq_true] at c2
        have := Nat.eq_of_beq_eq_true c2.1; subst this
        have := Nat.eq_of_beq_eq_true c2.2; subst this
        rfl
      · rw [e1]; have := of_decide_eq_true c2; subst this; rfl
      · rw [e1]
      · rw [e1]
      · rw [e1]; exact ⟨_, rfl⟩
      · rw [e1]; trivial
      · cases c2
    · cases h2

theorem tok_of {P : Program} {cfg : Cfg} {tr : Tr} (hT : cfg.T = tr.find) (h : tr.all (typeOkB P) = true) : TOk P cfg := fun t i hi => typeOkB_ok (Tr.find_all h (by rw [← hT]; exact hi))

/-- The program's functions as the machine takes them. -/
def fnsOf (P : Program) (f : FuncId) : Option (Code × Nat × List ResultVar) := (P.funcs[f]?).bind fun fn => fn.body.map fun b => (b, fn.ntmps, fn.results.toList)

theorem fns_of {P : Program} {cfg : Cfg} (hf : cfg.funcs = fnsOf P) (hd : (List.range P.funcs.size).all (fun f => match (P.funcs[f]?).bind (·.body) with | some b => drawsOk (cfg.free f) b | none => true) = true) (h : P.funcs.toList.all (fun fn => !(fn.name == "runtime.NumGoroutine")) = true) : FnsOk P cfg := by
  intro f code nt rs hc
  rw [hf] at hc
  unfold fnsOf at hc
  obtain ⟨fn, h1, h2⟩ := Option.bind_eq_some_iff.1 hc
  obtain ⟨b, h3, h4⟩ := Option.map_eq_some_iff.1 h2
  simp only [Prod.mk.injEq] at h4
  obtain ⟨rfl, rfl, rfl⟩ := h4
  have hm : fn ∈ P.funcs.toList := by
    rw [← Array.getElem?_toList] at h1
    exact List.mem_of_getElem? h1
  have := List.all_eq_true.1 h fn hm
  have hlt : f < P.funcs.size := (Array.getElem?_eq_some_iff.1 h1).1
  have hx := List.all_eq_true.1 hd f (by simpa using hlt)
  simp only [h1, Option.bind_some, h3] at hx
  exact ⟨fn, h1, h3, rfl, rfl, by simpa using this, hx⟩

theorem fns_used {P : Program} {cfg : Cfg} {used : List Nat} (hf : ∀ f, cfg.funcs f = bif used.contains f then fnsOf P f else none)
    (h : used.all (fun f => match P.funcs[f]? with | some fn => !(fn.name == "runtime.NumGoroutine") && (match fn.body with | some b => drawsOk (cfg.free f) b | none => true) | none => true) = true) : FnsOk P cfg := by
  intro f code nt rs hc
  rw [hf] at hc
  cases hu : used.contains f with
  | false => rw [hu] at hc; cases hc
  | true =>
    rw [hu] at hc
    simp only [cond_true] at hc
    unfold fnsOf at hc
    obtain ⟨fn, h1, h2⟩ := Option.bind_eq_some_iff.1 hc
    obtain ⟨b, h3, h4⟩ := Option.map_eq_some_iff.1 h2
    simp only [Prod.mk.injEq] at h4
    obtain ⟨rfl, rfl, rfl⟩ := h4
    have hx := List.all_eq_true.1 h f (by simpa using hu)
    simp only [h1, h3, Bool.and_eq_true] at hx
    exact ⟨fn, h1, h3, rfl, rfl, by simpa using hx.1, hx.2⟩
end Go.Am

/- What an argument of a type is, taken apart. -/
namespace Go.Am
section
variable {T : TypeId → Option TI} {t : TypeId} {i : TI} {cs : List C}

theorem WT.int_inv {k : IntKind} (h : WT T t cs) (hT : T t = some i) (hd : i.d = .int k) : ∃ n, cs = [.int k n] ∧ (Lit.int k n).wf = true := by
  cases h with
  | int h1 h2 hw => rw [hT] at h1; injection h1 with h1; subst h1; rw [hd] at h2; injection h2 with h2; subst h2; exact ⟨_, rfl, hw⟩
  | bool h1 h2 => rw [hT] at h1; injection h1 with h1; subst h1; rw [hd] at h2; cases h2
  | str h1 h2 _ => rw [hT] at h1; injection h1 with h1; subst h1; rw [hd] at h2; cases h2
  | slice h1 h2 _ _ => rw [hT] at h1; injection h1 with h1; subst h1; rw [hd] at h2; cases h2
  | struct _ h1 h2 _ _ => rw [hT] at h1; injection h1 with h1; subst h1; rw [hd] at h2; cases h2

theorem WT.bool_inv (h : WT T t cs) (hT : T t = some i) (hd : i.d = .bool) : ∃ b, cs = [.bool b] := by
  cases h with
  | bool h1 h2 => exact ⟨_, rfl⟩
  | int h1 h2 _ => rw [hT] at h1; injection h1 with h1; subst h1; rw [hd] at h2; cases h2
  | str h1 h2 _ => rw [hT] at h1; injection h1 with h1; subst h1; rw [hd] at h2; cases h2
  | slice h1 h2 _ _ => rw [hT] at h1; injection h1 with h1; subst h1; rw [hd] at h2; cases h2
  | struct _ h1 h2 _ _ => rw [hT] at h1; injection h1 with h1; subst h1; rw [hd] at h2; cases h2

theorem WT.slice_inv {e : TypeId} (h : WT T t cs) (hT : T t = some i) (hd : i.d = .slice e) : ∃ l, cs = [.seq l] ∧ l.length ≤ maxLen ∧ ∀ x ∈ l, WT T e x := by
  cases h with
  | slice h1 h2 h3 h4 => rw [hT] at h1; injection h1 with h1; subst h1; rw [hd] at h2; injection h2 with h2; subst h2; exact ⟨_, rfl, h3, h4⟩
  | bool h1 h2 => rw [hT] at h1; injection h1 with h1; subst h1; rw [hd] at h2; cases h2
  | int h1 h2 _ => rw [hT] at h1; injection h1 with h1; subst h1; rw [hd] at h2; cases h2
  | str h1 h2 _ => rw [hT] at h1; injection h1 with h1; subst h1; rw [hd] at h2; cases h2
  | struct _ h1 h2 _ _ => rw [hT] at h1; injection h1 with h1; subst h1; rw [hd] at h2; cases h2

theorem WT.struct_inv {fs : List (Nat × TypeId)} (h : WT T t cs) (hT : T t = some i) (hd : i.d = .struct fs) : ∃ css, cs = css.flatten ∧ All2 (fun (f : Nat × TypeId) c => WT T f.2 c) fs css := by
  cases h with
  | struct css h1 h2 h3 h4 =>
    rw [hT] at h1; injection h1 with h1; subst h1; rw [hd] at h2; injection h2 with h2; subst h2
    refine ⟨css, rfl, ?_⟩
    clear hT hd
    revert h4
    generalize fs = fs at h3
    induction fs generalizing css with
    | nil => intro _; cases css with
      | nil => exact .nil
      | cons _ _ => simp at h3
    | cons f fs ih =>
      intro h4
      cases css with
      | nil => simp at h3
      | cons c css => exact .cons (h4 0 f c rfl rfl) (ih css (by simpa using h3) fun j f c h1 h2 => h4 (j + 1) f c (by simpa using h1) (by simpa using h2))
  | bool h1 h2 => rw [hT] at h1; injection h1 with h1; subst h1; rw [hd] at h2; cases h2
  | int h1 h2 _ => rw [hT] at h1; injection h1 with h1; subst h1; rw [hd] at h2; cases h2
  | str h1 h2 _ => rw [hT] at h1; injection h1 with h1; subst h1; rw [hd] at h2; cases h2
  | slice h1 h2 _ _ => rw [hT] at h1; injection h1 with h1; subst h1; rw [hd] at h2; cases h2
end
end Go.Am

