/- The machine, part 2: a small deterministic machine over plain data, and the proof that what it answers the program answers too. Conditions: none beyond those written at each theorem. -/
import Derived.Test.YtklelfbkffbceaaGreatMAmA
import Derived.Lib.ConvBytes
import Derived.Deep.AppendSrc
set_option linter.unusedVariables false
set_option linter.unusedSimpArgs false
/- What is owned goes over to another owner: labels turned, memory as it was. -/
namespace Go.Am
def Inj (r : List Nat → Option (List Nat)) : Prop := ∀ x y z, r x = some z → r y = some z → x = y
def mvC (cls : Cls) (r : List Nat → Option (List Nat)) : Cls := fun b => (cls b).map fun x => (r x).getD x
open Classical in
noncomputable def mvH (hdr : Hdr) (r : List Nat → Option (List Nat)) : Hdr := fun z => if h : ∃ x, r x = some z then hdr h.choose else hdr z
theorem J8 {hdr : Hdr} {r : List Nat → Option (List Nat)} (hi : Inj r) {x z : List Nat} (h : r x = some z) : mvH hdr r z = hdr x := by
 unfold mvH
 have hx : ∃ x, r x = some z := ⟨x, h⟩
 rw [dif_pos hx, hi _ _ _ hx.choose_spec h]
theorem Wr {hdr : Hdr} {r : List Nat → Option (List Nat)} {z : List Nat} (h : ∀ x, r x ≠ some z) : mvH hdr r z = hdr z := by
 unfold mvH
 rw [dif_neg (fun ⟨x, hx⟩ => h x hx)]
section
variable {w w' : World} {cls cls' : Cls} {hdr hdr' : Hdr} {r : List Nat → Option (List Nat)}
theorem RepC.mv {t t' : List Nat} {u : Value} {c : C} (h : RepC w cls hdr (some t) u c) (hr : ∀ s, r (t ++ s) = some (t' ++ s))
  (hh : ∀ b, b < w.heap.size → (cls b = none ∨ ∃ s, cls b = some (t ++ s)) → w'.heap[b]? = w.heap[b]?) (hc : ∀ b, b < w.heap.size → cls' b = mvC cls r b) (hd : ∀ s, hdr' (t' ++ s) = hdr (t ++ s)) :
  RepC w' cls' hdr' (some t') u c := by
 refine h.move (fun b hb hn => ⟨hh b hb (.inl hn), by rw [hc b hb]; simp [mvC, hn]⟩) fun s hs => ?_
 injection hs with hs
 subst hs
 exact ⟨t', rfl, hd, fun b s hb hcb => ⟨hh b hb (.inr ⟨s, hcb⟩), by rw [hc b hb]; simp [mvC, hcb, hr s]⟩⟩
theorem RepC.stay {t : List Nat} {u : Value} {c : C} (h : RepC w cls hdr (some t) u c) (hr : ∀ s, r (t ++ s) = none)
  (hh : ∀ b, b < w.heap.size → (cls b = none ∨ ∃ s, cls b = some (t ++ s)) → w'.heap[b]? = w.heap[b]?) (hc : ∀ b, b < w.heap.size → cls' b = mvC cls r b) (hd : ∀ s, hdr' (t ++ s) = hdr (t ++ s)) :
  RepC w' cls' hdr' (some t) u c := by
 refine h.move (fun b hb hn => ⟨hh b hb (.inl hn), by rw [hc b hb]; simp [mvC, hn]⟩) fun s hs => ?_
 injection hs with hs
 subst hs
 exact ⟨t, rfl, hd, fun b s hb hcb => ⟨hh b hb (.inr ⟨s, hcb⟩), by rw [hc b hb]; simp [mvC, hcb, hr s]⟩⟩
theorem RepC.free {t : Option (List Nat)} {u : Value} {c : C} (h : RepC w cls hdr none u c) (hh : ∀ b, b < w.heap.size → cls b = none → w'.heap[b]? = w.heap[b]?) (hc : ∀ b, b < w.heap.size → cls' b = mvC cls r b) :
  RepC w' cls' hdr' t u c := by
 refine h.move (fun b hb hn => ⟨hh b hb hn, by rw [hc b hb]; simp [mvC, hn]⟩) fun s hs => by cases hs
end
structure Mvs (ps : List (Nat × List Nat)) (n : Nat) : Prop where
 ids : (ps.map (·.1)).Nodup
 tgt : (ps.map (·.2)).Nodup
 len : ∀ p ∈ ps, p.2.length = n
def QV (ps : List (Nat × List Nat)) (id : Nat) : Option (List Nat) := (ps.find? fun p => p.1 == id).map (·.2)
def mvR (ps : List (Nat × List Nat)) : List Nat → Option (List Nat)
 | [] => none
 | id :: s => (QV ps id).map (· ++ s)
theorem Lq {ps : List (Nat × List Nat)} {n : Nat} (h : Mvs ps n) {id : Nat} {t : List Nat} (hm : (id, t) ∈ ps) : QV ps id = some t := by
 have hids := h.ids
 clear h
 induction ps with
 | nil => cases hm
 | cons p ps ih =>
  simp only [List.map_cons, List.nodup_cons] at hids
  rcases List.mem_cons.1 hm with rfl | hm
  ·simp [QV]
  ·have hne : p.1 ≠ id := fun e => hids.1 (List.mem_map.2 ⟨_, hm, e.symm⟩)
   have := ih hm hids.2
   simp only [QV, List.find?_cons] at this ⊢
   rw [show (p.1 == id) = false by simpa using hne]
   exact this
theorem Xs {ps : List (Nat × List Nat)} {id : Nat} {t : List Nat} (h : QV ps id = some t) : (id, t) ∈ ps := by
 unfold QV at h
 obtain ⟨p, hp, rfl⟩ := Option.map_eq_some_iff.1 h
 have h1 := List.mem_of_find?_eq_some hp
 have h2 := List.find?_some hp
 simp only [beq_iff_eq] at h2
 rw [<- h2]
 exact h1
theorem UG {ps : List (Nat × List Nat)} {id : Nat} (h : id ∉ ps.map (·.1)) : QV ps id = none := by
 cases ht : QV ps id with
 | none => rfl
 | some t => exact (h (List.mem_map.2 ⟨_, Xs ht, rfl⟩)).elim
theorem Mvs.inj {ps : List (Nat × List Nat)} {n : Nat} (h : Mvs ps n) : Inj (mvR ps) := by
 intro x y z hx hy
 cases x with
 | nil => simp [mvR] at hx
 | cons i s => cases y with
  | nil => simp [mvR] at hy
  | cons j s' =>
   simp only [mvR] at hx hy
   obtain ⟨t, ht, rfl⟩ := Option.map_eq_some_iff.1 hx
   obtain ⟨t', ht', he⟩ := Option.map_eq_some_iff.1 hy
   have m1 := Xs ht
   have m2 := Xs ht'
   have l1 := h.len _ m1
   have l2 := h.len _ m2
   simp only at l1 l2
   obtain ⟨e1, e2⟩ := List.append_inj he (by rw [l1, l2])
   subst e1 e2
   have : i = j := by
    have hn := h.tgt
    obtain ⟨p, hp, hpe⟩ := List.mem_iff_getElem.1 m1
    obtain ⟨q, hq, hqe⟩ := List.mem_iff_getElem.1 m2
    have hpq : ∀ p q (hp : p < ps.length) (hq : q < ps.length), p < q → ps[p].2 ≠ ps[q].2 := fun p q hp hq hlt => by
     have := (List.pairwise_iff_getElem.1 hn) p q (by simpa using hp) (by simpa using hq) hlt
     simpa using this
    have : p = q := by
     rcases Nat.lt_trichotomy p q with h | h | h
     ·exact (hpq p q hp hq h (by rw [hpe, hqe])).elim
     ·exact h
     ·exact (hpq q p hq hp h (by rw [hpe, hqe])).elim
    subst this
    rw [hpe] at hqe
    injection hqe
   rw [this]
def j8 (t : List Nat) : Nat → List C → List (Nat × List Nat)
 | _, [] => []
 | j, .ref id :: cs => (id, t ++ [j]) :: j8 t (j + 1) cs
 | j, _ :: cs => j8 t (j + 1) cs
theorem T5 {t : List Nat} {cs : List C} : ∀ {j : Nat} {p}, p ∈ j8 t j cs → ∃ m, j <= m ∧ p.2 = t ++ [m] := by
 induction cs with
 | nil => intro j p h; simp [j8] at h
 | cons c cs ih =>
  intro j p h
  have : p ∈ j8 t (j + 1) cs ∨ ∃ id, p = (id, t ++ [j]) := by
   cases c <;> simp only [j8, List.mem_cons] at h <;> first | exact .inl h | exact h.elim (fun e => .inr ⟨_, e⟩) .inl
  rcases this with h | ⟨id, rfl⟩
  ·obtain ⟨m, hm, he⟩ := ih h
   exact ⟨m, by omega, he⟩
  ·exact ⟨j, Nat.le_refl _, rfl⟩
theorem UH {t : List Nat} {cs : List C} : ∀ j, ((j8 t j cs).map (·.2)).Nodup := by
 induction cs with
 | nil => intro j; simp [j8]
 | cons c cs ih =>
  intro j
  have key : ∀ id, (((id, t ++ [j]) :: j8 t (j + 1) cs).map (·.2)).Nodup := fun id => by
   simp only [List.map_cons, List.nodup_cons]
   refine ⟨fun h => ?_, ih _⟩
   obtain ⟨p, hp, he⟩ := List.mem_map.1 h
   obtain ⟨m, hm, he'⟩ := T5 hp
   rw [he'] at he
   have := List.append_cancel_left he
   injection this with this
   omega
  cases c <;> first | exact ih _ | exact key _
theorem MP {cs cs' : List C} {st st' : List Entry} {ks : List Nat} (t : List Nat) : ∀ (j : Nat), QI st cs = some (cs', st', ks) → ks = (j8 t j cs).map (·.1) ∧ ks.Nodup ∧ (∀ id ∈ ks, ∃ sz l, get st id = .obj sz l) ∧
  (∀ id, get st' id = if id ∈ ks then .dead else get st id) ∧ cs'.length = cs.length ∧
  ∀ (m : Nat) c, cs[m]? = some c → (∃ id sz l, c = .ref id ∧ get st id = .obj sz l ∧ cs'[m]? = some (.own sz l) ∧ (id, t ++ [j + m]) ∈ j8 t j cs) ∨ (plain c = true ∧ cs'[m]? = some c) := by
 induction cs generalizing st cs' ks with
 | nil =>
  intro j h
  simp [QI] at h
  obtain ⟨rfl, rfl, rfl⟩ := h
  exact ⟨rfl, .nil, by simp, by simp, rfl, by simp⟩
 | cons c cs ih =>
  intro j h
  simp only [QI] at h
  obtain ⟨⟨c', st1, k1⟩, h1, h2⟩ := Option.bind_eq_some_iff.1 h
  obtain ⟨⟨cs1, st2, k2⟩, h3, h4⟩ := Option.map_eq_some_iff.1 h2
  simp only [Prod.mk.injEq] at h4
  obtain ⟨rfl, rfl, rfl⟩ := h4
  obtain ⟨e1, e2, e3, e4, e5, e6⟩ := ih (j + 1) h3
  have hcase : (∃ id sz l, c = .ref id ∧ get st id = .obj sz l ∧ c' = .own sz l ∧ st1 = put st id .dead ∧ k1 = [id]) ∨ (plain c = true ∧ c' = c ∧ st1 = st ∧ k1 = []) := by
   cases c with
   | ref id =>
    simp only [Hr] at h1
    split at h1
    ·rename_i sz l hg
     simp only [Option.some.injEq, Prod.mk.injEq] at h1
     obtain ⟨rfl, rfl, rfl⟩ := h1
     exact .inl ⟨id, sz, l, rfl, hg, rfl, rfl, rfl⟩
    ·cases h1
   | _ =>
    simp only [Hr, Option.some.injEq, Prod.mk.injEq] at h1 <;> first
     | (obtain ⟨rfl, rfl, rfl⟩ := h1; exact .inr ⟨rfl, rfl, rfl, rfl⟩)
     | cases h1
  rcases hcase with ⟨id, sz, l, rfl, hg, rfl, rfl, rfl⟩ | ⟨hp, rfl, rfl, rfl⟩
  ·have hnot : id ∉ k2 := fun hm => by
    obtain ⟨sz', l', hx⟩ := e3 id hm
    rw [zw, if_pos rfl] at hx
    cases hx
   refine ⟨by simp [j8, e1], by simp [e2, hnot], fun i hi => ?_, fun i => ?_, by simp [e5], fun m c hm => ?_⟩
   ·simp only [List.cons_append, List.nil_append, List.mem_cons] at hi
    rcases hi with rfl | hi
    ·exact ⟨sz, l, hg⟩
    ·obtain ⟨sz', l', hx⟩ := e3 i hi
     rw [zw] at hx
     split at hx
     ·cases hx
     ·exact ⟨sz', l', hx⟩
   ·rw [e4 i]
    simp only [List.cons_append, List.nil_append, List.mem_cons]
    by_cases h1 : i ∈ k2
    ·simp [h1]
    ·rw [if_neg h1, zw]
     by_cases h2 : i = id
     ·simp [h2]
     ·simp [h2, h1]
   ·cases m with
    | zero =>
     simp at hm
     subst hm
     exact .inl ⟨id, sz, l, rfl, hg, rfl, by simp [j8]⟩
    | succ m =>
     rcases e6 m c (by simpa using hm) with ⟨id', sz', l', rfl, hx, hy, hz⟩ | ⟨hp, hy⟩
     ·left
      have hne : id' ≠ id := fun e => by
       subst e; rw [zw, if_pos rfl] at hx; cases hx
      rw [zw, if_neg hne] at hx
      refine ⟨id', sz', l', rfl, hx, by simpa using hy, ?_⟩
      simp only [j8, List.mem_cons]
      right
      rw [show j + (m + 1) = j + 1 + m by omega]
      exact hz
     ·exact .inr ⟨hp, by simpa using hy⟩
  ·have hpos : j8 t j (c' :: cs) = j8 t (j + 1) cs := by cases c' <;> first | rfl | (simp [plain] at hp)
   refine ⟨by simp [hpos, e1], by simpa using e2, by simpa using e3, by simpa using e4, by simp [e5], fun m c hm => ?_⟩
   cases m with
   | zero =>
    simp at hm
    subst hm
    exact .inr ⟨hp, rfl⟩
   | succ m =>
    rcases e6 m c (by simpa using hm) with ⟨id', sz', l', rfl, hx, hy, hz⟩ | ⟨hp, hy⟩
    ·left
     refine ⟨id', sz', l', rfl, hx, by simpa using hy, ?_⟩
     rw [hpos, show j + (m + 1) = j + 1 + m by omega]
     exact hz
    ·exact .inr ⟨hp, by simpa using hy⟩
def Bf (w : World) (cls : Cls) (hdr : Hdr) (r : List Nat → Option (List Nat)) (tl t' : List Nat) (u : Value) (c : C) : Prop :=
 (plain c = true ∧ RepC w cls hdr none u c) ∨ (∃ t, RepC w cls hdr (some t) u c ∧ (∀ s, t ++ s ≠ tl) ∧ ∀ s, r (t ++ s) = some (t' ++ s)) ∨ ∃ sz, c = .own sz [] ∧ u = .slice none 0 0
section
variable {P : Program} {cfg : Cfg} {a : Act} {o : Oper} {w : World} {cls : Cls} {hdr : Hdr} {vb : Nat → Nat} {st : List Entry} {sl : List (Nat × V)} {k nid : Nat} {v : V}
theorem Qi (sim : Sim w cls hdr vb st sl a.tmps) (fr : Fresh sl st nid) {st' : List Entry} {K ws : List Nat} {w' : World} {l : List (List C)} {sz n cap : Nat} {A : Option Addr} {r : List Nat → Option (List Nat)} {tl : List Nat}
  (hinj : Inj r) (himg : ∀ x z, r x = some z → ∃ s, z = nid :: s) (hK : ∀ id s, id ∉ K → r (id :: s) = none) (htl : ∀ id s, id ∉ K → id :: s ≠ tl)
  (hst : ∀ id, get st' id = if id = nid then .obj sz l else if id ∈ K then .dead else get st id)
  (hrun : (execOp a.eval o).run P w = .ok (.value (.slice A n cap)) w') (hsize : w.heap.size <= w'.heap.size) (hio : Wq w w')
  (hheap : ∀ b, b < w.heap.size → (∀ x, cls b = some x → x ≠ tl) → w'.heap[b]? = w.heap[b]?)
  (hl : l.length = n) (hc : n <= cap) (hs : ∀ e ∈ l, e.length = sz) (hws : nid ∈ ws) (hws2 : ∀ id ∈ ws, nid <= id → id = nid) (hKw : ∀ id ∈ K, id ∈ ws) (hr0 : r [] = none) (hhid : ∀ b, b < w.heap.size → cls b = some [] → w'.heap[b]? = w.heap[b]?)
  (hA : (A = none ∧ n = 0 ∧ cap = 0) ∨ ∃ q arr, A = some q ∧ q.spot = none ∧ (q.block = w.heap.size ∨ (q.block < w.heap.size ∧ ∃ x, cls q.block = some x ∧ r x = some [nid])) ∧ Blk sz w' q.block arr ∧ q.off + cap * sz <= arr.size ∧
   ∀ i j e c, l[i]? = some e → e[j]? = some c → ∃ u, arr[q.off + (i * sz + j)]? = some u ∧ Bf w cls hdr r tl [nid, i, j] u c) :
  yr P a o w cls hdr vb st nid (.val false [.ref nid]) st' ws := by
 have hcl : ∀ b, b < w.heap.size → (fun b => if b = w.heap.size then some [nid] else mvC cls r b) b = mvC cls r b := fun b hb => by simp only; rw [if_neg (by omega)]
 have hhd : ∀ x, x ≠ [nid] → (fun x => if x = [nid] then Value.slice A n cap else mvH hdr r x) x = mvH hdr r x := fun x hx => by simp only; rw [if_neg hx]
 generalize hcls' : (fun b => if b = w.heap.size then some [nid] else mvC cls r b) = cls' at hcl
 generalize hhdr' : (fun x => if x = [nid] then Value.slice A n cap else mvH hdr r x) = hdr' at hhd
 have hh0 : hdr' [nid] = .slice A n cap := by rw [<- hhdr']; simp
 have hold : ∀ id s, id ≠ nid → hdr' (id :: s) = hdr (id :: s) := fun id s hne => by
  rw [hhd _ (fun e => by injection e with e _; exact hne e), Wr fun x hx => by
   obtain ⟨s', e⟩ := himg _ _ hx
   injection e with e _
   exact hne e]
 have hro : ∀ b, b < w.heap.size → cls b = none → w'.heap[b]? = w.heap[b]? ∧ cls' b = none := fun b hb hn =>
  ⟨hheap b hb (fun x hx => by rw [hn] at hx; cases hx), by rw [hcl b hb]; simp [mvC, hn]⟩
 have kp : Keep w cls hdr vb st w' cls' hdr' vb st' (fun id => ¬ (id ∈ ws ∧ nid <= id)) := by
  refine ⟨hro, fun id hid c hg => ?_, fun id hid z x hg => ?_, hsize, hio⟩
  ·have hne : id ≠ nid := fun e => hid ⟨e ▸ hws, by omega⟩
   rw [hst, if_neg hne] at hg
   split at hg
   ·cases hg
   ·exact ⟨⟨c, hg⟩, rfl⟩
  ·have hne : id ≠ nid := fun e => hid ⟨e ▸ hws, by omega⟩
   rw [hst, if_neg hne] at hg
   split at hg
   ·cases hg
   ·exact ⟨⟨x, hg, Nat.le_refl _⟩, hold id [] hne⟩
 refine ⟨_, w', cls', hdr', vb, .inl hrun, kp, zo.val ⟨rfl, fun _ _ => hh0.symm⟩, fun id => ?_, ?_⟩
 case refine_2 =>
  refine ⟨fun b hb hx => ⟨hhid b hb hx, by rw [hcl b hb]; simp [mvC, hx, hr0]⟩, fun id hid => ?_, fun _ _ => rfl, fun id hid s => hold id s fun (e : id = nid) => hid (by rw [e]; exact hws), fun id hid b s hb hx => ?_⟩
  ·have hne : id ≠ nid := fun e => hid (by rw [e]; exact hws)
   have hk : id ∉ K := fun e => hid (hKw _ e)
   rw [hst, if_neg hne, if_neg hk]
  ·have hk : id ∉ K := fun e => hid (hKw _ e)
   exact ⟨hheap b hb fun x hx' => by rw [hx] at hx'; injection hx' with hx'; rw [<- hx']; exact htl id s hk, by rw [hcl b hb]; simp [mvC, hx, hK id s hk]⟩
 rw [hst]
 split
 ·rename_i e
  subst e
  show RepC w' cls' hdr' (some [id]) (hdr' [id]) (.own sz l)
  rw [hh0]
  refine RepC.own [id] A n cap sz l (fun i j => match A with | some q => (match w'.heap[q.block]? with | some (.cells arr _ _) => (arr[q.off + (i * sz + j)]?).getD undef | _ => undef) | none => undef) hh0 hl hc hs ?_ (fun i j e c hi hj => ?_)
  ·rcases hA with h | ⟨q, arr, rfl, hsp, hq, hB, hle, hcells⟩
   ·exact .inl h
   ·refine .inr ⟨q, arr, rfl, hsp, ?_, hB, hle, fun i j e c hi hj => ?_⟩
    ·rcases hq with hq | ⟨hq, x, hx, hr⟩
     ·rw [<- hcls', hq]; simp
     ·rw [hcl _ hq]; simp [mvC, hx, hr]
    ·obtain ⟨u, hu, _⟩ := hcells i j e c hi hj
     obtain ⟨E, fz, hE, _⟩ := hB
     simp only [hE, hu, Option.getD_some]
  ·rcases hA with ⟨_, h0, _⟩ | ⟨q, arr, rfl, hsp, hq, hB, hle, hcells⟩
   ·have : l = [] := List.eq_nil_of_length_eq_zero (hl.trans h0)
    subst this; simp at hi
   ·obtain ⟨u, hu, hg⟩ := hcells i j e c hi hj
    obtain ⟨E, fz, hE, _⟩ := hB
    simp only [hE, hu, Option.getD_some]
    rcases hg with ⟨_, hr⟩ | ⟨t, hr, ht, hm⟩ | ⟨z, rfl, rfl⟩
    ·exact hr.free (fun b hb hn => (hro b hb hn).1) hcl
    ·refine hr.mv hm (fun b hb hx => ?_) hcl (fun s => ?_)
     ·rcases hx with hn | ⟨s, hx⟩
      ·exact (hro b hb hn).1
      ·exact hheap b hb fun x hx' => by rw [hx] at hx'; injection hx' with hx'; rw [<- hx']; exact ht s
     ·rw [hhd _ (by simp)]; exact J8 hinj (hm s)
    ·exact .nown _ _
 ·rename_i hne
  split
  ·trivial
  ·rename_i hk
   refine yd.keep kp (fun i hi h => ?_) (fun b s hb hx => ⟨hheap b hb fun x hx' => by rw [hx] at hx'; injection hx' with hx'; rw [<- hx']; exact htl id s hk, by rw [hcl b hb]; simp [mvC, hx, hK id s hk]⟩) (fun s => hold id s hne) rfl (sim.ent id)
   have := hws2 i h.1 h.2
   subst this
   exact fr.var id hi
end
end Go.Am
/- Slices that are made: written out, by make, out of a string. -/
namespace Go.Am
def qV (nid : Nat) : List (Nat × List C) → List (Nat × List Nat)
 | [] => []
 | (i, cs) :: r => j8 [nid, i] 0 cs ++ qV nid r
section
variable {P : Program} {cfg : Cfg} {a : Act} {o : Oper} {w : World} {cls : Cls} {hdr : Hdr} {vb : Nat → Nat} {st : List Entry} {sl : List (Nat × V)} {k nid : Nat} {v : V}
structure Under (w : World) (cls : Cls) (hdr : Hdr) (st : List Entry) (ps : List (Nat × List Nat)) (nid n sz : Nat) (arr : List Value) (l : List (List C)) : Prop where
 size : arr.length = n * sz
 len : l.length = n
 uni : ∀ e ∈ l, e.length = sz
 cell : ∀ (i j : Nat) e c, l[i]? = some e → e[j]? = some c → ∃ u, arr[i * sz + j]? = some u ∧ ((plain c = true ∧ RepC w cls hdr none u c) ∨ (∃ id z x, c = .own z x ∧ u = hdr [id] ∧ get st id = .obj z x ∧ (id, [nid, i, j]) ∈ ps) ∨ ∃ z, c = .own z [] ∧ u = .slice none 0 0)
theorem PY {ps : List (Nat × List C)} {n sz lo : Nat} : ∀ {st : List Entry} {ws : List Nat} {l : List (List C)} {x}, YA n sz lo st ws l ps = some x → ∀ p ∈ qV nid ps, ∃ i j, lo <= i ∧ p.2 = [nid, i, j] := by
 induction ps generalizing lo with
 | nil => intro st ws l x _ p hp; simp [qV] at hp
 | cons y ps ih =>
  intro st ws l x h p hp
  obtain ⟨i, cs⟩ := y
  simp only [YA] at h
  split at h
  ·rename_i hc
   obtain ⟨z, _, h2⟩ := Option.bind_eq_some_iff.1 h
   simp only [qV, List.mem_append] at hp
   rcases hp with hp | hp
   ·obtain ⟨m, _, he⟩ := T5 hp
    exact ⟨i, m, hc.2.2, by rw [he]; rfl⟩
   ·obtain ⟨i', j', h3, h4⟩ := ih h2 p hp
    exact ⟨i', j', by omega, h4⟩
  ·cases h
theorem Bg {ps : List (Nat × List C)} {n sz lo : Nat} : ∀ {st : List Entry} {ws : List Nat} {l : List (List C)} {x}, YA n sz lo st ws l ps = some x → ((qV nid ps).map (·.2)).Nodup := by
 induction ps generalizing lo with
 | nil => intro st ws l x _; simp [qV]
 | cons y ps ih =>
  intro st ws l x h
  obtain ⟨i, cs⟩ := y
  simp only [YA] at h
  split at h
  ·obtain ⟨z, _, h2⟩ := Option.bind_eq_some_iff.1 h
   simp only [qV, List.map_append]
   rw [List.nodup_append]
   refine ⟨UH _, ih h2, fun p hp q hq e => ?_⟩
   subst e
   obtain ⟨y1, hy1, e1⟩ := List.mem_map.1 hp
   obtain ⟨y2, hy2, e2⟩ := List.mem_map.1 hq
   obtain ⟨m, _, he⟩ := T5 hy1
   obtain ⟨i', j', h3, h4⟩ := PY h2 y2 hy2
   rw [e1] at he
   rw [e2] at h4
   rw [he] at h4
   simp at h4
   omega
  ·cases h
theorem Bh {R0 : List (Nat × List Nat)} {n sz : Nat} : ∀ {ps : List (Nat × List C)} {xs : List (Nat × Value)} {lo : Nat} {st1 st' : List Entry} {ws ws' : List Nat} {arr : List Value} {l l' : List (List C)},
  All2 (fun (x : Nat × Value) (y : Nat × List C) => x.1 = y.1 ∧ ∃ arr : List Value, x.2.cells = arr.toArray ∧ All2 (zo w cls hdr vb st) arr y.2) xs ps →
  YA n sz lo st1 ws l ps = some (l', st', ws') → (∀ p ∈ qV nid ps, p ∈ R0) → (∀ id z x, get st1 id = .obj z x → get st id = .obj z x) → Under w cls hdr st R0 nid n sz arr l →
  ∃ arr' : List Value, Instr.fill (fun i => some (i * sz, sz)) arr.toArray xs = some arr'.toArray ∧ Under w cls hdr st R0 nid n sz arr' l' ∧ ws' = ws ++ (qV nid ps).map (·.1) ∧ ((qV nid ps).map (·.1)).Nodup ∧
   (∀ id ∈ (qV nid ps).map (·.1), ∃ z x, get st1 id = .obj z x) ∧ ∀ id, get st' id = if id ∈ (qV nid ps).map (·.1) then .dead else get st1 id := by
 intro ps
 induction ps with
 | nil =>
  intro xs lo st1 st' ws ws' arr l l' hx h _ _ hU
  cases hx
  simp only [YA, Option.some.injEq, Prod.mk.injEq] at h
  obtain ⟨rfl, rfl, rfl⟩ := h
  exact ⟨arr, rfl, hU, by simp [qV], by simp [qV], by simp [qV], by simp [qV]⟩
 | cons y ps ih =>
  intro xs lo st1 st' ws ws' arr l l' hx h hR hold hU
  cases hx with
  | cons hx ht =>
   rename_i x xs
   obtain ⟨i, v⟩ := x
   obtain ⟨i', cs⟩ := y
   obtain ⟨rfl, arr1, hv, hr⟩ := hx
   simp only at hv hr h
   simp only [YA] at h
   split at h
   ·rename_i hc
    obtain ⟨hc1, hc2, hc3⟩ := hc
    obtain ⟨⟨cs', st2, k2⟩, h1, h2⟩ := Option.bind_eq_some_iff.1 h
    obtain ⟨e1, e2, e3, e4, e5, e6⟩ := MP [nid, i] 0 h1
    have hl1 := hr.length
    have hlt : i * sz + sz <= n * sz := by
     have : (i + 1) * sz <= n * sz := Nat.mul_le_mul_right _ hc2
     rw [Nat.add_mul] at this; omega
    have hU' : Under w cls hdr st R0 nid n sz (arr.take (i * sz) ++ arr1 ++ arr.drop (i * sz + sz)) (l.set i cs') := by
     refine ⟨by have := hU.size; simp; omega, by simp [hU.len], fun e he => ?_, fun p q e c hp hq => ?_⟩
     ·rcases List.mem_or_eq_of_mem_set he with he | rfl
      ·exact hU.uni e he
      ·omega
     ·have hpn : p < n := by
       have := (List.getElem?_eq_some_iff.1 hp).1
       simpa [hU.len] using this
      by_cases hpi : p = i
      ·subst hpi
       rw [List.getElem?_set_self (by rw [hU.len]; exact hpn)] at hp
       injection hp with hp
       subst hp
       have hq1 : q < cs'.length := (List.getElem?_eq_some_iff.1 hq).1
       obtain ⟨c0, hc0⟩ : ∃ c0, cs[q]? = some c0 := ⟨cs[q]'(by omega), by simp⟩
       obtain ⟨u, hu, hur⟩ := hr.get hc0
       have hq2 : q < arr1.length := (List.getElem?_eq_some_iff.1 hu).1
       refine ⟨u, ?_, ?_⟩
       ·have hsz := hU.size
        rw [List.append_assoc, List.getElem?_append_right (by simp; omega), List.getElem?_append_left (by simp; omega)]
        rw [<- hu]; congr 1; simp; omega
       ·rcases e6 q c0 hc0 with ⟨id, z, x, rfl, hg, hy, hz⟩ | ⟨hp, hy⟩
        ·rw [hq] at hy
         injection hy with hy
         subst hy
         refine .inr (.inl ⟨id, z, x, rfl, hur.2 (z, x.length) (by rw [hold _ _ _ hg]; rfl), hold _ _ _ hg, hR _ ?_⟩)
         simp only [qV, List.mem_append]
         left
         simpa using hz
        ·rw [hq] at hy
         injection hy with hy
         subst hy
         exact .inl ⟨hp, hur.to hp⟩
      ·rw [List.getElem?_set_ne (by omega)] at hp
       obtain ⟨u, hu, hg⟩ := hU.cell p q e c hp hq
       have hqs : q < sz := by
        have h1 := (List.getElem?_eq_some_iff.1 hq).1
        have h2 := hU.uni e (List.mem_of_getElem? hp)
        omega
       refine ⟨u, ?_, hg⟩
       have hsz := hU.size
       rcases Nat.lt_or_gt_of_ne hpi with hlt' | hgt
       ·have : (p + 1) * sz <= i * sz := Nat.mul_le_mul_right _ hlt'
        rw [Nat.add_mul] at this
        rw [List.append_assoc, List.getElem?_append_left (by simp; omega), List.getElem?_take_of_lt (by omega)]
        exact hu
       ·have : (i + 1) * sz <= p * sz := Nat.mul_le_mul_right _ hgt
        rw [Nat.add_mul] at this
        rw [List.getElem?_append_right (by simp; omega), List.getElem?_drop, <- hu]
        congr 1
        simp; omega
    obtain ⟨arr', g1, g2, g3, g4, g5, g6⟩ := ih ht h2 (fun p hp => hR p (by simp only [qV, List.mem_append]; exact .inr hp)) (fun id z x hg => hold id z x (by
      rw [e4] at hg; split at hg
      ·cases hg
      ·exact hg)) hU'
    refine ⟨arr', ?_, g2, ?_, ?_, fun id hid => ?_, fun id => ?_⟩
    ·simp only [Instr.fill, hv]
     have hsz := hU.size
     rw [if_neg (by simp; omega), <- g1]
     congr 1
     have := Lm (i * sz) arr1 0 arr.toArray (by simp; omega)
     simp only [Nat.add_zero] at this
     simp only [<- Array.foldl_toList, Array.toList_zipIdx]
     rw [this, show arr1.length = sz by omega]
    ·rw [g3, e1]; simp [qV]
    ·simp only [qV, List.map_append]
     rw [List.nodup_append]
     refine ⟨by rw [<- e1]; exact e2, g4, fun p hp q hq e => ?_⟩
     subst e
     obtain ⟨z, x, hx⟩ := g5 p hq
     rw [e4, if_pos (by rw [e1]; exact hp)] at hx
     cases hx
    ·simp only [qV, List.map_append, List.mem_append] at hid
     rcases hid with hid | hid
     ·exact e3 id (by rw [e1]; exact hid)
     ·obtain ⟨z, x, hx⟩ := g5 id hid
      rw [e4] at hx
      split at hx
      ·cases hx
      ·exact ⟨z, x, hx⟩
    ·rw [g6, e4, e1]
     simp only [qV, List.map_append, List.mem_append]
     by_cases hA : id ∈ (j8 [nid, i] 0 cs).map (·.1) <;> by_cases hB : id ∈ (qV nid ps).map (·.1) <;> simp [hA, hB]
   ·cases h
theorem zbv {ps : List (Nat × List Nat)} (h : ∀ p ∈ ps, ∃ i j, p.2 = [nid, i, j]) : ∀ x z, mvR ps x = some z → ∃ s, z = nid :: s := by
 intro x z hx
 cases x with
 | nil => simp [mvR] at hx
 | cons id s =>
  simp only [mvR] at hx
  obtain ⟨t, ht, rfl⟩ := Option.map_eq_some_iff.1 hx
  obtain ⟨i, j, e⟩ := h _ (Xs ht)
  simp only at e
  exact ⟨[i, j] ++ s, by rw [e]; rfl⟩
theorem MQ {e : TypeId} {te : TI} (he : TypeOk P e te) (n : Nat) (zero : Array Value) (hz : n * te.size = 0 ∨ (zero.size = te.size ∧ All2 (RepC default (fun _ => none) (fun _ => .nilIface) none) zero.toList te.zero)) (ps : List (Nat × List Nat)) :
  Under w cls hdr st ps nid n te.size ((Array.range (n * te.size)).map (zero[· % zero.size]!)).toList (List.replicate n (y6 te.zero)) := by
 have hlen : (y6 te.zero).length = te.size := by
  obtain ⟨z, _, h2, h3, _⟩ := he.zero
  rw [V3, <- h3.length]; simpa using h2
 refine ⟨by simp, by simp, fun e h => by rw [List.eq_of_mem_replicate h]; exact hlen, fun i j e c hi hj => ?_⟩
 have hin : i < n := by
  have := (List.getElem?_eq_some_iff.1 hi).1
  simpa using this
 have he' : e = y6 te.zero := List.eq_of_mem_replicate (List.mem_of_getElem? hi)
 subst he'
 have hjs : j < te.size := by
  have := (List.getElem?_eq_some_iff.1 hj).1
  omega
 have hpos : i * te.size + j < n * te.size := by
  have : (i + 1) * te.size <= n * te.size := Nat.mul_le_mul_right _ hin
  rw [Nat.add_mul] at this; omega
 rcases hz with hz | ⟨hz1, hz2⟩
 ·omega
 ·rw [Wp] at hj
  obtain ⟨c0, hj0, rfl⟩ := Option.map_eq_some_iff.1 hj
  obtain ⟨u, hu, hr⟩ := hz2.get hj0
  refine ⟨u, ?_, .inl ⟨by cases hr <;> rfl, (hr.anywhere (w := w) (cls := cls) (hdr := hdr) (q' := none) rfl).view (fun b hb hn => ⟨rfl, hn⟩) fun t ht => by cases ht⟩⟩
  have hmod : (i * te.size + j) % te.size = j := by rw [Nat.add_comm, Nat.add_mul_mod_self_right, Nat.mod_eq_of_lt hjs]
  rw [Array.getElem?_toList, Array.getElem?_map]
  simp only [Array.getElem?_range, hpos, if_true, Option.map_some, hz1, hmod]
  rw [Array.getElem?_toList] at hu
  obtain ⟨hlt, hu⟩ := Array.getElem?_eq_some_iff.1 hu
  rw [getElem!_pos zero j hlt, hu]
theorem Bi : ∀ (cs : List C) (szs : List Nat) (j : Nat) (c : C), (YP cs szs)[j]? = some c → ∃ c0, cs[j]? = some c0 ∧ (c = ZL c0 ∨ ∃ z, c0 = .nils ∧ c = .own z []) := by
 intro cs
 induction cs with
 | nil => intro szs j c h; simp [YP] at h
 | cons x cs ih =>
  intro szs j c h
  have step : ∀ y r, (y = ZL x ∨ ∃ z, x = .nils ∧ y = .own z []) → (y :: YP cs r)[j]? = some c → ∃ c0, (x :: cs)[j]? = some c0 ∧ (c = ZL c0 ∨ ∃ z, c0 = .nils ∧ c = .own z []) := fun y r hy h => by
   cases j with
   | zero => simp at h; subst h; exact ⟨x, rfl, hy⟩
   | succ j => exact ih r j c (by simpa using h)
  unfold YP at h
  split at h
  ·exact step _ _ (.inr ⟨_, rfl, rfl⟩) h
  ·exact step _ _ (.inl rfl) h
theorem Bj : ∀ (cs : List C) (szs : List Nat), (YP cs szs).length = cs.length := by
 intro cs
 induction cs with
 | nil => intro szs; rfl
 | cons x cs ih =>
  intro szs
  unfold YP
  split <;> simp [ih]
theorem Bk {e : TypeId} {te : TI} (he : TypeOk P e te) (n : Nat) (zero : Array Value) (szs : List Nat) (hz : n * te.size = 0 ∨ (zero.size = te.size ∧ All2 (RepC default (fun _ => none) (fun _ => .nilIface) none) zero.toList te.zero)) (ps : List (Nat × List Nat)) :
  Under w cls hdr st ps nid n te.size ((Array.range (n * te.size)).map (zero[· % zero.size]!)).toList (List.replicate n (YP te.zero szs)) := by
 have hlen : (YP te.zero szs).length = te.size := by
  obtain ⟨z, _, h2, h3, _⟩ := he.zero
  rw [Bj, <- h3.length]; simpa using h2
 refine ⟨by simp, by simp, fun e h => by rw [List.eq_of_mem_replicate h]; exact hlen, fun i j e c hi hj => ?_⟩
 have hin : i < n := by
  have := (List.getElem?_eq_some_iff.1 hi).1
  simpa using this
 have he' : e = YP te.zero szs := List.eq_of_mem_replicate (List.mem_of_getElem? hi)
 subst he'
 have hjs : j < te.size := by
  have := (List.getElem?_eq_some_iff.1 hj).1
  omega
 have hpos : i * te.size + j < n * te.size := by
  have : (i + 1) * te.size <= n * te.size := Nat.mul_le_mul_right _ hin
  rw [Nat.add_mul] at this; omega
 rcases hz with hz | ⟨hz1, hz2⟩
 ·omega
 ·obtain ⟨c0, hj0, hc⟩ := Bi _ _ _ _ hj
  obtain ⟨u, hu, hr⟩ := hz2.get hj0
  refine ⟨u, ?_, ?_⟩
  ·have hmod : (i * te.size + j) % te.size = j := by rw [Nat.add_comm, Nat.add_mul_mod_self_right, Nat.mod_eq_of_lt hjs]
   rw [Array.getElem?_toList, Array.getElem?_map]
   simp only [Array.getElem?_range, hpos, if_true, Option.map_some, hz1, hmod]
   rw [Array.getElem?_toList] at hu
   obtain ⟨hlt, hu⟩ := Array.getElem?_eq_some_iff.1 hu
   rw [getElem!_pos zero j hlt, hu]
  ·rcases hc with rfl | ⟨z, rfl, rfl⟩
   ·exact .inl ⟨by cases hr <;> rfl, (hr.anywhere (w := w) (cls := cls) (hdr := hdr) (q' := none) rfl).view (fun b hb hn => ⟨rfl, hn⟩) fun t ht => by cases ht⟩
   ·refine .inr (.inr ⟨z, rfl, ?_⟩)
    cases hr
    rfl
theorem Lr (sim : Sim w cls hdr vb st sl a.tmps) (fr : Fresh sl st nid) {st' : List Entry} {K ws : List Nat} {w' : World} {l : List (List C)} {sz n cap : Nat} {ps : List (Nat × List Nat)} {arr tail : List Value}
  (hU : Under w cls hdr st ps nid n sz arr l) (hm : Mvs ps 3) (hp : ∀ p ∈ ps, ∃ i j, p.2 = [nid, i, j]) (hK : ∀ id, id ∈ ps.map (·.1) ↔ id ∈ K)
  (hst : ∀ id, get st' id = if id = nid then .obj sz l else if id ∈ K then .dead else get st id)
  (hrun : (execOp a.eval o).run P w = .ok (.value (.slice (some ⟨w.heap.size, 0, none⟩) n cap)) w') (hsize : w.heap.size <= w'.heap.size) (hio : Wq w w') (hheap : ∀ b, b < w.heap.size → w'.heap[b]? = w.heap[b]?)
  (hB : Blk sz w' w.heap.size (arr ++ tail).toArray) (hc : n <= cap) (hcap : cap * sz <= (arr ++ tail).length) (hws : nid ∈ ws) (hws2 : ∀ id ∈ ws, nid <= id → id = nid) (hKw : ∀ id ∈ K, id ∈ ws) :
  yr P a o w cls hdr vb st nid (.val false [.ref nid]) st' ws := by
 refine Qi (K := K) (tl := []) sim fr hm.inj (zbv hp) (fun id s hid => ?_) (fun _ _ _ => by simp) hst hrun hsize hio (fun b hb _ => hheap b hb) hU.len hc hU.uni hws hws2 hKw rfl (fun b hb _ => hheap b hb)
  (.inr ⟨⟨w.heap.size, 0, none⟩, (arr ++ tail).toArray, rfl, rfl, .inl rfl, hB, by simpa using hcap, fun i j e c hi hj => ?_⟩)
 ·simp only [mvR, UG (fun h => hid ((hK id).1 h)), Option.map_none]
 ·obtain ⟨u, hu, hg⟩ := hU.cell i j e c hi hj
  refine ⟨u, ?_, ?_⟩
  ·have := (List.getElem?_eq_some_iff.1 hu).1
   simp only [Nat.zero_add]
   rw [List.getElem?_toArray, List.getElem?_append_left this]
   exact hu
  ·rcases hg with ⟨hp', hr⟩ | ⟨id, z, x, rfl, rfl, hg, hmem⟩ | ⟨z, hz⟩
   ·exact .inl ⟨hp', hr⟩
   ·have hE := sim.ent id
    rw [hg] at hE
    refine .inr (.inl ⟨[id], hE, by simp, fun s => ?_⟩)
    simp only [List.cons_append, List.nil_append, mvR, Lq hm hmem, Option.map_some]
   ·exact .inr (.inr ⟨z, hz⟩)
theorem LO (T : TOk P cfg) (sim : Sim w cls hdr vb st sl a.tmps) {t e : TypeId} {n : Nat} {ps : Array (Nat × Operand)} {te : TI} {q : List (Nat × List C)} {l' : List (List C)} {st' : List Entry} {ws' : List Nat}
  (ho : o.op = .buildSlice t n ps) (ht : zy cfg t = .slice e) (he : cfg.T e = some te) (hq : jP ⟨sl, st, k⟩ ps.toList = some q) (hn : n * te.size <= 2 ^ 24)
  (h : YA n te.size 0 st [] (List.replicate n (y6 te.zero)) q = some (l', st', ws')) (hfr : ∀ id ∈ ws' ++ [nid], nid <= id → Fresh sl st id) :
  yr P a o w cls hdr vb st nid (.val false [.ref nid]) (put st' nid (.obj te.size l')) (ws' ++ [nid]) := by
 have hT := T e te he
 obtain ⟨d, hd, rfl⟩ := yy T ht (by simp)
 obtain ⟨z, hz1, hz2, hz3, _⟩ := hT.zero
 generalize hzero : (if n * te.size = 0 then #[] else z.cells) = zero
 have hU0 := MQ (w := w) (cls := cls) (hdr := hdr) (st := st) (nid := nid) hT n zero (by
  by_cases h0 : n * te.size = 0
  ·exact .inl h0
  ·rw [if_neg h0] at hzero; subst hzero; exact .inr ⟨hz2, hz3⟩) (qV nid q)
 obtain ⟨arr', h1, h2, h3, h4, h5, h6⟩ := Bh (UF sim hq) h (fun p hp => hp) (fun _ _ _ hg => hg) hU0
 simp only [List.nil_append] at h3
 subst h3
 have hfill : (execOp a.eval o).run P w = .ok (.value (.slice (some ⟨w.heap.size, 0, none⟩) n n)) { w with heap := w.heap.push (.cells arr'.toArray e) } := by
  have e1 : (ps.map fun x => (x.1, a.eval x.2)).toList = ps.toList.map fun x => (x.1, a.eval x.2) := by simp
  have h1' : Instr.fill (fun i => some (i * te.size, te.size)) ((Array.range (n * te.size)).map (zero[· % zero.size]!)) (ps.map fun x => (x.1, a.eval x.2)).toList = some arr'.toArray := by
   rw [Array.toArray_toList] at h1
   rw [e1]; exact h1
  simp only [execOp, ho, Instr.buildSlice, Sem.run_bind, zP hd, Result.andThen_ok, hT.size]
  rw [if_neg (by omega)]
  rw [show (Array.map (fun x => match x with | (i, x) => (i, a.eval x)) ps) = ps.map fun x => (x.1, a.eval x.2) from rfl]
  by_cases h0 : n * te.size = 0
  ·rw [if_pos h0] at hzero ⊢
   subst hzero
   simp only [Sem.run_bind, Sem.run_pure, Result.andThen_ok]
   rw [h1']
   simp only [newRow, Sem.run_bind, run_newObj, Result.andThen_ok, Sem.run_pure]
  ·rw [if_neg h0] at hzero ⊢
   subst hzero
   simp only [Sem.run_bind, Sem.run_pure, Result.andThen_ok, hz1]
   rw [h1']
   simp only [newRow, Sem.run_bind, run_newObj, Result.andThen_ok, Sem.run_pure]
 obtain ⟨n1, n2, n3⟩ := Qs w (.cells arr'.toArray e)
 have hws : ∀ id ∈ (qV nid q).map (·.1), id < nid := fun id hid => by
  rcases Nat.lt_or_ge id nid with hlt | hge
  ·exact hlt
  ·obtain ⟨z, x, hx⟩ := h5 id hid
   have := (hfr id (by simp only [List.mem_append]; exact .inl hid) hge).dead
   rw [this] at hx; cases hx
 refine Lr (K := (qV nid q).map (·.1)) (tail := []) sim (hfr nid (by simp) (Nat.le_refl _)) h2 ⟨h4, Bg h, fun p hp => ?_⟩ (fun p hp => ?_) (fun _ => Iff.rfl) (fun id => ?_) hfill (by omega) ⟨rfl, rfl, rfl⟩ n1 ?_ (Nat.le_refl _) (by have := h2.size; simp; omega) (by simp) (fun id hid hge => ?_) (fun id hid => by simp only [List.mem_append]; exact .inl hid)
 ·obtain ⟨i, j, _, e⟩ := PY h p hp; rw [e]; rfl
 ·obtain ⟨i, j, _, e⟩ := PY h p hp; exact ⟨i, j, e⟩
 ·rw [zw, h6]
 ·rw [List.append_nil]; exact Blk.new w _ _
 ·simp only [List.mem_append, List.mem_singleton] at hid
  rcases hid with hid | hid
  ·have := hws id hid; omega
  ·exact hid
theorem MR (T : TOk P cfg) (sim : Sim w cls hdr vb st sl a.tmps) {t e : TypeId} {x y : Operand} {te : TI} {m m2 : Int} {q : Nat} (ho : o.op = .makeSlice t x y) (ht : zy cfg t = .slice e) (he : cfg.T e = some te)
  (hx : zq ⟨sl, st, k⟩ x = some (.int .i64 m)) (hy : zq ⟨sl, st, k⟩ y = some (.int .i64 m2)) (heq : m = m2) (hm : prims.made te.bytes m = some q) (fr : Fresh sl st nid) (nl : Bool) (szs : List Nat) :
  yr P a o w cls hdr vb st nid (.val false [.ref nid]) (put st nid (.obj te.size (List.replicate q (bif nl then YP te.zero szs else y6 te.zero)))) [nid] := by
 subst heq
 have hT := T e te he
 obtain ⟨d, hd, rfl⟩ := yy T ht (by simp)
 obtain ⟨z, hz1, hz2, hz3, _⟩ := hT.zero
 obtain ⟨info, hi1, hi2, hi3, _⟩ := hT.info
 have gx := (z5 sim hx).int
 have gy := (z5 sim hy).int
 simp only [prims] at hm
 split at hm
 ·rename_i hc
  obtain ⟨c1, c2, c3⟩ := hc
  injection hm with hm
  obtain rfl : m = (q : Int) := by omega
  have hwrap : IntKind.i64.wrap (q : Int) = (q : Int) := by unfold IntKind.wrap; simp [IntKind.bits, IntKind.signed]; omega
  generalize hzero : (if q * te.size = 0 then #[] else z.cells) = zero
  have hz : q * te.size = 0 ∨ (zero.size = te.size ∧ All2 (RepC default (fun _ => none) (fun _ => .nilIface) none) zero.toList te.zero) := by
   by_cases h0 : q * te.size = 0
   ·exact .inl h0
   ·rw [if_neg h0] at hzero; subst hzero; exact .inr ⟨hz2, hz3⟩
  have hU0 : Under w cls hdr st [] nid q te.size ((Array.range (q * te.size)).map (zero[· % zero.size]!)).toList (List.replicate q (bif nl then YP te.zero szs else y6 te.zero)) := by
   cases nl with
   | true => exact Bk hT q zero szs hz []
   | false => exact MQ hT q zero hz []
  have hrun : (execOp a.eval o).run P w = .ok (.value (.slice (some ⟨w.heap.size, 0, none⟩) q q)) { w with heap := w.heap.push (.cells ((Array.range (q * te.size)).map (zero[· % zero.size]!)) e) } := by
   simp only [execOp, ho, Instr.makeSlice, Sem.run_bind, zP hd, Result.andThen_ok, gx, gy, asInt, asIntOf, Sem.run_pure, W7 hi1, hi3, hwrap]
   have h1 : ¬ ((q : Int) < 0) := by omega
   have h2 : ¬ ((te.bytes : Int) * (q : Int) > 281474976710656) := by omega
   have h3 : ((decide ((q : Int) < 0) || decide ((te.bytes : Int) * (q : Int) > 2 ^ 48)) || decide ((q : Int) < 0) || decide ((q : Int) > (q : Int))) = false := by simp; omega
   rw [if_neg (by rw [h3]; simp)]
   simp only [Sem.run_bind, run_askRoom, Result.andThen_ok, hT.size, Int.toNat_natCast]
   by_cases h0 : q * te.size = 0
   ·rw [if_pos h0] at hzero ⊢
    subst hzero
    simp only [Sem.run_bind, Sem.run_pure, Result.andThen_ok, newRow, run_newObj]
   ·rw [if_neg h0] at hzero ⊢
    subst hzero
    simp only [Sem.run_bind, Sem.run_pure, Result.andThen_ok, hz1, newRow, run_newObj]
  obtain ⟨n1, n2, n3⟩ := Qs w (.cells ((Array.range (q * te.size)).map (zero[· % zero.size]!)) e)
  refine Lr (K := []) (ps := []) (tail := []) sim fr hU0 ⟨by simp, by simp, by simp⟩ (by simp) (by simp) (fun id => by rw [zw]; simp) hrun (by omega) ⟨rfl, rfl, rfl⟩ n1 ?_ (Nat.le_refl _) (by have := hU0.size; simp) (by simp) (by simp) (by simp)
  ·rw [List.append_nil]; exact Blk.new w _ _
 ·cases hm
end
end Go.Am
/- The same memory under other numbers: what a call's entries are called in the caller and in the callee. -/
namespace Go.Am
section
variable {w w1 w2 : World} {cls cls1 cls2 : Cls} {hdr hdr1 hdr2 : Hdr} {vb vb1 vb2 : Nat → Nat} {st st1 st2 : List Entry} {ok ok1 ok2 : Nat → Prop}
theorem Keep.trans (h : Keep w cls hdr vb st w1 cls1 hdr1 vb1 st1 ok1) (g : Keep w1 cls1 hdr1 vb1 st1 w2 cls2 hdr2 vb2 st2 ok2) (h1 : ∀ i, ok i → ok1 i) (h2 : ∀ i, ok i → ok2 i) :
  Keep w cls hdr vb st w2 cls2 hdr2 vb2 st2 ok := by
 refine ⟨fun b hb hc => ?_, fun id hid cs hg => ?_, fun id hid sz l hg => ?_, Nat.le_trans h.size g.size, g.io.1.trans h.io.1, g.io.2.1.trans h.io.2.1, g.io.2.2.trans h.io.2.2⟩
 ·obtain ⟨e1, c1⟩ := h.ro b hb hc
  obtain ⟨e2, c2⟩ := g.ro b (Nat.lt_of_lt_of_le hb h.size) c1
  exact ⟨e2.trans e1, c2⟩
 ·obtain ⟨⟨c1, g1⟩, v1⟩ := g.var id (h2 _ hid) cs hg
  obtain ⟨g0, v0⟩ := h.var id (h1 _ hid) c1 g1
  exact ⟨g0, v1.trans v0⟩
 ·obtain ⟨⟨l1, g1, e1⟩, v1⟩ := g.obj id (h2 _ hid) sz l hg
  obtain ⟨⟨l0, g0, e0⟩, v0⟩ := h.obj id (h1 _ hid) sz l1 g1
  exact ⟨⟨l0, g0, Nat.le_trans e1 e0⟩, v1.trans v0⟩
end
inductive RenS (ρ : Nat → Option Nat) : C → C → Prop
 | ref {id id'} (h : ρ id = some id') : RenS ρ (.ref id) (.ref id')
 | ptr {id id' off} (h : ρ id = some id') : RenS ρ (.ptr id off) (.ptr id' off)
 | eptr {id id' i sz off} (h : ρ id = some id') : RenS ρ (.eptr id i sz off) (.eptr id' i sz off)
 | rptr (cs) : RenS ρ (.rptr cs) (.rptr cs)
 | plain {c} (h : plain c = true) : RenS ρ c c
inductive RenR (ρ : Nat → Option Nat) : C → C → Prop
 | s {c c'} (h : RenS ρ c c') : RenR ρ c c'
 | fn {f caps caps'} (h : All2 (RenS ρ) caps caps') : RenR ρ (.fn f caps) (.fn f caps')
def kA (ρ : Nat → Option Nat) (cl : Prop) : Entry → Entry → Prop
 | .var cs, .var cs' => All2 (RenR ρ) cs cs' ∧ (cl → ∀ c ∈ cs, clC prims c = true)
 | .obj sz l, .obj sz' l' => sz = sz' ∧ l = l' ∧ (cl → jT l = true)
 | .mp es, .mp es' => es = es' ∧ (cl → False)
 | .hole sz l i hs, .hole sz' l' i' hs' => sz = sz' ∧ l = l' ∧ i = i' ∧ All2 (fun x y : Nat × Nat => x.1 = y.1 ∧ ρ x.2 = some y.2) hs hs' ∧ (cl → False)
 | _, .dead => True
 | _, _ => False
theorem kA.shape {ρ : Nat → Option Nat} {cl : Prop} {e e' : Entry} (h : kA ρ cl e e') {p : Nat × Nat} (hs : Am.shape e' = some p) : Am.shape e = some p := by
 cases e <;> cases e' <;> simp only [kA] at h <;> first | exact h.elim | (simp [Am.shape] at hs; done) | skip
 ·obtain ⟨rfl, rfl, _⟩ := h; exact hs
 ·obtain ⟨rfl, rfl, _⟩ := h; exact hs
 ·obtain ⟨rfl, _⟩ := h; exact hs
theorem kA.isVar {ρ : Nat → Option Nat} {cl : Prop} {e : Entry} {cs : List C} (h : kA ρ cl e (.var cs)) : ∃ cs0, e = .var cs0 := by
 cases e <;> simp only [kA] at h
 exact ⟨_, rfl⟩
theorem H3 {e : List C} : vJ e = true ↔ ∀ c ∈ e, kL c = true := by
 induction e with
 | nil => simp [vJ]
 | cons c e ih => simp [vJ, ih]
theorem H4 {l : List (List C)} : jT l = true ↔ ∀ e ∈ l, ∀ c ∈ e, kL c = true := by
 induction l with
 | nil => simp [jT]
 | cons e l ih => simp [jT, ih, H3]
section
variable {w w' : World} {cls cls' : Cls} {hdr hdr' : Hdr}
theorem RepC.move2 {q : Option (List Nat)} {u : Value} {c : C} (h : RepC w cls hdr q u c) : ∀ {q' : Option (List Nat)}, (kL c = true ∨ ∀ b, b < w.heap.size → cls b = none → w'.heap[b]? = w.heap[b]? ∧ cls' b = none) →
  (∀ t, q = some t → ∃ t', q' = some t' ∧ (∀ s, hdr' (t' ++ s) = hdr (t ++ s)) ∧ ∀ b s, b < w.heap.size → cls b = some (t ++ s) → w'.heap[b]? = w.heap[b]? ∧ cls' b = some (t' ++ s)) →
  RepC w' cls' hdr' q' u c := by
 induction h with
 | int q k n => exact fun _ _ => .int _ _ _
 | bool q b => exact fun _ _ => .bool _ _
 | str q s b h => exact fun _ _ => .str _ _ _ h
 | nils q => exact fun _ _ => .nils _
 | raw q v h => exact fun _ _ => .raw _ _ h
 | opq q t u => exact fun _ _ => .opq _ _ _
 | seq q A n cap sz l us hn hc hs hcell hrep ih =>
  intro q' hro hown
  exact RepC.move (.seq none A n cap sz l us hn hc hs hcell hrep) (hro.resolve_left (by simp [kL])) (fun t ht => by cases ht)
 | nown t sz => exact fun _ hown => by obtain ⟨t', rfl, _⟩ := hown t rfl; exact .nown _ _
 | own t A n cap sz l us hh hn hc hs hblk hrep ih =>
  intro q' hro hown
  obtain ⟨t', rfl, hhd, hbl⟩ := hown t rfl
  refine .own t' A n cap sz l us ?_ hn hc hs ?_ (fun i j e c h1 h2 => ih i j e c h1 h2 (hro.imp (fun h => ?_) id) fun s hs => ?_)
  ·have := hhd []; rw [List.append_nil, List.append_nil] at this; rw [this]; exact hh
  ·rcases hblk with h | ⟨a, arr, rfl, hsp, hcl, hB, hle, hcells⟩
   ·exact .inl h
   ·obtain ⟨g1, g2⟩ := hbl a.block [] hB.lt (by rw [List.append_nil]; exact hcl)
    exact .inr ⟨a, arr, rfl, hsp, by rw [g2, List.append_nil], hB.same g1, hle, hcells⟩
  ·exact H4.1 (by simpa [kL] using h) e (List.mem_of_getElem? h1) c (List.mem_of_getElem? h2)
  ·injection hs with hs
   subst hs
   exact ⟨t' ++ [i, j], rfl, fun s => by rw [List.append_assoc, List.append_assoc]; exact hhd _, fun b s hb hcb => by
    rw [List.append_assoc] at hcb ⊢; exact hbl b _ hb hcb⟩
end
structure Relab (w : World) (cls : Cls) (hdr : Hdr) (vb : Nat → Nat) (st : List Entry) (cls' : Cls) (hdr' : Hdr) (vb' : Nat → Nat) (st' : List Entry) (ρ : Nat → Option Nat) (cl : Prop) : Prop where
 ro : cl ∨ ∀ b, b < w.heap.size → cls b = none → cls' b = none
 hdr : ∀ id id', ρ id = some id' → ∀ s, hdr' (id' :: s) = hdr (id :: s)
 vb : ∀ id id', ρ id = some id' → vb' id' = vb id
 blk : ∀ id id', ρ id = some id' → ∀ b s, b < w.heap.size → cls b = some (id :: s) → cls' b = some (id' :: s)
 ent : ∀ id id', ρ id = some id' → kA ρ cl (get st id) (get st' id')
section
variable {w : World} {cls cls' : Cls} {hdr hdr' : Hdr} {vb vb' : Nat → Nat} {st st' : List Entry} {ρ : Nat → Option Nat} {cl : Prop}
theorem RepC.relab (R : Relab w cls hdr vb st cls' hdr' vb' st' ρ cl) {u : Value} {c : C} (hc : cl → kL c = true) (h : RepC w cls hdr none u c) : RepC w cls' hdr' none u c :=
 h.move2 (R.ro.imp hc fun h b hb hn => ⟨rfl, h b hb hn⟩) fun t ht => by cases ht
theorem RenS.noFn {c c' : C} (h : RenS ρ c c') : ∀ f caps, c' ≠ .fn f caps := by
 intro f caps e
 cases h with
 | plain h => subst e; simp [Am.plain] at h
 | _ => cases e
theorem Bl {c : C} (hc : clC prims c = true) : kL c = true := by
 cases c <;> simp [clC, kL] at hc ⊢
 exact hc
theorem YQ.relab (R : Relab w cls hdr vb st cls' hdr' vb' st' ρ cl) {u : Value} {c c' : C} (hc : cl → clC prims c = true) (hr : RenS ρ c c') (h : YQ w cls hdr vb st u c) : YQ w cls' hdr' vb' st' u c' := by
 cases hr with
 | ref hid =>
  obtain ⟨h1, h2⟩ := h
  refine ⟨h1, fun p hg => ?_⟩
  rw [R.hdr _ _ hid]
  exact h2 p ((R.ent _ _ hid).shape hg)
 | ptr hid =>
  obtain ⟨h1, h2⟩ := h
  refine ⟨h1, fun cs hg => ?_⟩
  have he := R.ent _ _ hid
  rw [hg] at he
  rw [R.vb _ _ hid]
  revert he
  cases hs : get st _ with
  | var cs0 => intro _; exact h2 _ hs
  | _ => intro he; exact he.elim
 | eptr hid =>
  obtain ⟨h1, h2, h3⟩ := h
  refine ⟨h1, fun n hg hi => ?_, fun cs hg => ?_⟩
  ·rw [R.hdr _ _ hid]
   exact h2 n ((R.ent _ _ hid).shape hg) hi
  ·have he := R.ent _ _ hid
   rw [hg] at he
   obtain ⟨c0, hc0⟩ := he.isVar
   rw [R.vb _ _ hid]
   exact h3 c0 hc0
 | rptr cs =>
  obtain ⟨a, rfl, h2⟩ := h
  rcases R.ro with hcl | hro
  ·have := hc hcl; simp [clC] at this
  ·refine ⟨a, rfl, fun j c hj => ?_⟩
   obtain ⟨v, hb, hcell, hr⟩ := h2 j c hj
   have hlt := PU hcell
   rw [qT] at hlt
   exact ⟨v, hro _ hlt hb, hcell, hr.move (fun b hb hn => ⟨rfl, hro b hb hn⟩) fun t ht => by cases ht⟩
 | plain hp =>
  have h : RepC w cls hdr none u c := by cases c <;> first | exact h | (simp [Am.plain] at hp)
  have h' := h.relab R fun hcl => Bl (hc hcl)
  cases c <;> first | exact h' | (simp [Am.plain] at hp)
theorem zo.relab (R : Relab w cls hdr vb st cls' hdr' vb' st' ρ cl) {u : Value} {c c' : C} (hc : cl → clC prims c = true) (hr : RenR ρ c c') (h : zo w cls hdr vb st u c) : zo w cls' hdr' vb' st' u c' := by
 cases hr with
 | s hs =>
  rw [V4 hs.noFn]
  refine YQ.relab R hc hs ?_
  cases hs <;> first | exact h | skip
  rename_i hp
  cases c <;> first | exact h | (simp [Am.plain] at hp)
 | fn hcaps =>
  obtain ⟨vs, rfl, h2⟩ := h
  refine ⟨vs, rfl, ?_⟩
  have hro : cl → False := fun hcl => by have := hc hcl; simp [clC] at this
  clear hc
  induction hcaps generalizing vs with
  | nil => cases h2; exact .nil
  | cons hh ht ih =>
   cases h2 with
   | cons g1 g2 => exact .cons (YQ.relab R (fun hcl => (hro hcl).elim) hh g1) (ih _ g2)
theorem zo.relabs (R : Relab w cls hdr vb st cls' hdr' vb' st' ρ cl) {us : List Value} {cs cs' : List C} (hc : cl → ∀ c ∈ cs, clC prims c = true) (hr : All2 (RenR ρ) cs cs') (h : All2 (zo w cls hdr vb st) us cs) : All2 (zo w cls' hdr' vb' st') us cs' := by
 induction hr generalizing us with
 | nil => cases h; exact .nil
 | cons hh ht ih =>
  cases h with
  | cons g1 g2 => exact .cons (zo.relab R (fun hcl => hc hcl _ (by simp)) hh g1) (ih (fun hcl c hc' => hc hcl c (by simp [hc'])) g2)
theorem wV.relab (R : Relab w cls hdr vb st cls' hdr' vb' st' ρ cl) {u : Value} {g : Bool} {cs cs' : List C} (hc : cl → ∀ c ∈ cs, clC prims c = true) (hr : All2 (RenR ρ) cs cs') (h : wV w cls hdr vb st u g cs) : wV w cls' hdr' vb' st' u g cs' :=
 let ⟨arr, h1, h2⟩ := h
 ⟨arr, zo.relabs R hc hr h1, h2⟩
theorem yd.relab (R : Relab w cls hdr vb st cls' hdr' vb' st' ρ cl) {id id' : Nat} (hid : ρ id = some id') (h : yd w cls hdr vb st id (get st id)) : yd w cls' hdr' vb' st' id' (get st' id') := by
 have he := R.ent id id' hid
 revert he h
 cases hs : get st id <;> cases hs' : get st' id' <;> intro h he <;> first | trivial | exact he.elim | skip
 ·obtain ⟨h1, arr, h2, h3⟩ := h
  refine ⟨?_, arr, ?_, zo.relabs R he.2 he.1 h3⟩
  ·rw [R.vb id id' hid]; exact R.blk id id' hid _ _ h2.lt h1
  ·rw [R.vb id id' hid]; exact h2
 ·obtain ⟨rfl, rfl, hcl⟩ := he
  have h : RepC w cls hdr (some [id]) (hdr [id]) (.own _ _) := h
  show RepC w cls' hdr' (some [id']) (hdr' [id']) (.own _ _)
  rw [R.hdr id id' hid []]
  exact h.move2 (R.ro.imp hcl fun h b hb hn => ⟨rfl, h b hb hn⟩) fun t ht => by
   injection ht with ht
   subst ht
   exact ⟨[id'], rfl, fun s => R.hdr id id' hid s, fun b s hb hc => ⟨rfl, R.blk id id' hid b s hb hc⟩⟩
 ·obtain ⟨rfl, rfl, rfl, hh, hcl⟩ := he
  obtain ⟨e, vs, h1, h4, h5⟩ := h
  have raws : ∀ {hs hs' : List (Nat × Nat)} (vs : List Value) (e : List C), All2 (fun x y : Nat × Nat => x.1 = y.1 ∧ ρ x.2 = some y.2) hs hs' → w4 e hs' vs = w4 e hs vs := by
   intro hs hs' vs e hh
   induction hh generalizing vs with
   | nil => rfl
   | cons h t ih =>
    cases vs with
    | nil => simp [w4]
    | cons v vs => simp only [w4]; rw [ih vs, h.1]
  refine ⟨e, vs, h1, ?_, ?_⟩
  ·rw [R.hdr id id' hid [], raws vs e hh]
   exact h4.move2 (R.ro.imp (fun h => (hcl h).elim) fun h b hb hn => ⟨rfl, h b hb hn⟩) fun t ht => by
    injection ht with ht
    subst ht
    exact ⟨[id'], rfl, fun s => R.hdr id id' hid s, fun b s hb hc => ⟨rfl, R.blk id id' hid b s hb hc⟩⟩
  ·have go : ∀ {hs hs' : List (Nat × Nat)} (vs : List Value), All2 (fun x y : Nat × Nat => x.1 = y.1 ∧ ρ x.2 = some y.2) hs hs' → All2 (fun (v : Value) (x : Nat × Nat) => x.1 < e.length ∧ Am.simple v = true ∧ ∀ p, shape (get st x.2) = some p → v = hdr [x.2]) vs hs →
     All2 (fun (v : Value) (x : Nat × Nat) => x.1 < e.length ∧ Am.simple v = true ∧ ∀ p, shape (get st' x.2) = some p → v = hdr' [x.2]) vs hs' := by
    intro hs hs' vs hh
    induction hh generalizing vs with
    | nil => intro h5; cases h5; exact .nil
    | cons h t ih =>
     intro h5
     cases h5 with
     | cons g1 g2 =>
      refine .cons ⟨by rw [<- h.1]; exact g1.1, g1.2.1, fun p hp => ?_⟩ (ih _ g2)
      rw [R.hdr _ _ h.2 []]
      exact g1.2.2 p ((R.ent _ _ h.2).shape hp)
   exact go vs hh h5
 ·obtain ⟨rfl, hcl⟩ := he
  obtain ⟨b, clock, ms, h1, h2, h3, h4⟩ := h
  have hlt : b < w.heap.size := by
   rcases Nat.lt_or_ge b w.heap.size with hl | hl
   ·exact hl
   ·rw [Array.getElem?_eq_none hl] at h3; cases h3
  refine ⟨b, clock, ms, by rw [R.hdr id id' hid []]; exact h1, R.blk id id' hid b [] hlt h2, h3, h4.mono fun _ _ _ hm => ?_⟩
  obtain ⟨g1, arr, g2, g3⟩ := hm
  exact ⟨g1, arr, g2.mono fun _ _ _ hr => hr.relab R (fun h => (hcl h).elim), g3⟩
end
inductive VwR (ρ : Nat → Option Nat) (st : List Entry) (gone : Nat → Prop) : C → C → Prop
 | ren {c c'} (h : RenR ρ c c') : VwR ρ st gone c c'
 | nils : VwR ρ st gone .nils (.seq [])
 | view {id sz l} (hg : get st id = .obj sz l) (hv : gone id) : VwR ρ st gone (.ref id) (.seq (xX l))
section
variable {w : World} {cls cls' : Cls} {hdr hdr' : Hdr} {vb vb' : Nat → Nat} {st st' : List Entry} {ρ : Nat → Option Nat} {gone : Nat → Prop}
theorem zo.vw (R : Relab w cls hdr vb st cls' hdr' vb' st' ρ False) (hE : ∀ id, yd w cls hdr vb st id (get st id)) (hgone : ∀ id, gone id → ∀ b s, b < w.heap.size → cls b = some (id :: s) → cls' b = none)
  {u : Value} {c c' : C} (hr : VwR ρ st gone c c') (h : zo w cls hdr vb st u c) : zo w cls' hdr' vb' st' u c' := by
 have hro := R.ro.resolve_left id
 cases hr with
 | ren hr => exact zo.relab R (fun h => h.elim) hr h
 | nils =>
  rw [h.nils]
  exact RepC.seq none none 0 0 0 [] (fun _ _ => .bool true) rfl (Nat.le_refl _) (by simp) (by simp) (by simp)
 | view hg hv =>
  rename_i id sz l
  have hu := h.2 _ (show Am.shape (get st id) = some (sz, l.length) by rw [hg]; rfl)
  have he := hE id
  rw [hg] at he
  have he : RepC w cls hdr (some [id]) (hdr [id]) (.own sz l) := he
  rw [hu]
  exact he.view (fun b hb hn => ⟨rfl, hro b hb hn⟩) fun t ht b s hb hc => by
   injection ht with ht
   subst ht
   exact ⟨rfl, hgone id hv b s hb hc⟩
theorem zo.vws (R : Relab w cls hdr vb st cls' hdr' vb' st' ρ False) (hE : ∀ id, yd w cls hdr vb st id (get st id)) (hgone : ∀ id, gone id → ∀ b s, b < w.heap.size → cls b = some (id :: s) → cls' b = none)
  {us : List Value} {cs cs' : List C} (hr : All2 (VwR ρ st gone) cs cs') (h : All2 (zo w cls hdr vb st) us cs) : All2 (zo w cls' hdr' vb' st') us cs' := by
 induction hr generalizing us with
 | nil => cases h; exact .nil
 | cons hh ht ih =>
  cases h with
  | cons g1 g2 => exact .cons (zo.vw R hE hgone hh g1) (ih g2)
end
def WZ : List Nat → Nat → Option Nat
 | [], _ => none
 | x :: r, id => if x = id then some 0 else (WZ r id).map (· + 1)
theorem Kh {xs : List Nat} {id p : Nat} (h : WZ xs id = some p) : xs[p]? = some id := by
 induction xs generalizing p with
 | nil => cases h
 | cons x r ih =>
  simp only [WZ] at h
  split at h
  ·rename_i e; injection h with h; subst h; simp [e]
  ·obtain ⟨q, hq, rfl⟩ := Option.map_eq_some_iff.1 h
   simpa using ih hq
theorem Gy {xs : List Nat} (hn : xs.Nodup) {p x : Nat} (h : xs[p]? = some x) : WZ xs x = some p := by
 induction xs generalizing p with
 | nil => simp at h
 | cons y r ih =>
  simp only [List.nodup_cons] at hn
  simp only [WZ]
  cases p with
  | zero => simp at h; simp [h]
  | succ p =>
   have h : r[p]? = some x := by simpa using h
   rw [if_neg (fun e => hn.1 (by rw [e]; exact List.mem_of_getElem? h)), ih hn.2 h]
   rfl
theorem H5 {xs : List Nat} {x : Nat} (h : x ∉ xs) : WZ xs x = none := by
 cases hp : WZ xs x with
 | none => rfl
 | some p => exact (h (List.mem_of_getElem? (Kh hp))).elim
def rlC (cls : Cls) (ρ : Nat → Option Nat) : Cls := fun b => match cls b with
 | none => none
 | some [] => some []
 | some (id :: t) => (ρ id).map (· :: t)
def rlH (hdr : Hdr) (inv : Nat → Option Nat) : Hdr := fun
 | [] => hdr []
 | id :: t => match inv id with
  | some x => hdr (x :: t)
  | none => .nilIface
def rlV (vb : Nat → Nat) (inv : Nat → Option Nat) : Nat → Nat := fun id => match inv id with
 | some x => vb x
 | none => 0
section
variable {w : World} {cls : Cls} {hdr : Hdr} {vb : Nat → Nat} {st st' : List Entry} {ρ inv : Nat → Option Nat}
theorem Relab.of (hinv : ∀ id id', ρ id = some id' → inv id' = some id) (hent : ∀ id id', ρ id = some id' → kA ρ False (get st id) (get st' id')) : Relab w cls hdr vb st (rlC cls ρ) (rlH hdr inv) (rlV vb inv) st' ρ False := by
 refine ⟨.inr fun b _ h => by simp [rlC, h], fun id id' h s => ?_, fun id id' h => ?_, fun id id' h b s _ hc => by simp [rlC, hc, h], hent⟩
 ·simp only [rlH, hinv _ _ h]
 ·simp only [rlV, hinv _ _ h]
end
theorem Ki {st : List Entry} {id : Nat} (h : st.length <= id) : get st id = .dead := by
 induction st generalizing id with
 | nil => rfl
 | cons e r ih => cases id with
  | zero => simp at h
  | succ n => exact ih (by simpa using h)
theorem kB (st : List Entry) (i : Nat) : get st i = (st[i]?).getD .dead := by
 induction st generalizing i with
 | nil => simp [get]
 | cons e r ih => cases i <;> simp [get, ih]
theorem Qa (a b : List Entry) (i : Nat) : get (a ++ b) i = if i < a.length then get a i else get b (i - a.length) := by
 simp only [kB]
 split
 ·rename_i h; rw [List.getElem?_append_left h]
 ·rename_i h; rw [List.getElem?_append_right (by omega)]
def vv (P : Program) (a : Act) (o : Oper) (w : World) (cls : Cls) (hdr : Hdr) (vb : Nat → Nat) (st : List Entry) (nid : Nat) (v : V) (st' : List Entry) (ws : List Nat) : Prop :=
 ∀ (next : Act → World → Prop) (Q : Exit → Act → World → Prop), (∀ u w' cls' hdr' vb', Keep w cls hdr vb st w' cls' hdr' vb' st' (fun id => ¬ (id ∈ ws ∧ nid <= id)) → yp w' cls' hdr' vb' st' u v →
  (∀ id, yd w' cls' hdr' vb' st' id (get st' id)) → Frm w cls hdr vb st w' cls' hdr' vb' st' ws → next (a.put o.dst u) w') → o.wp P a w next Q
def ze9 (P : Program) (f : FuncId) (us : Array Value) (w : World) (R : Value → World → Prop) : Prop :=
 ((callFunc f us).run P w = .ok (.enter f us) w ∧ Calls P f us w fun | .returned u, w' => R u w' | _, _ => False) ∨ ∃ u w', (callFunc f us).run P w = .ok (.value u) w' ∧ R u w'
def wW (P : Program) (f : FuncId) (st : List Entry) (as : List V) (r : V × List Entry) : Prop :=
 ∀ (w : World) (cls : Cls) (hdr : Hdr) (vb : Nat → Nat) (us : Array Value), vu P w cls hdr → All2 (yp w cls hdr vb st) us.toList as → (∀ id, yd w cls hdr vb st id (get st id)) →
  (∀ id ∈ yX as, id < st.length) → (∀ j, ∀ id ∈ zv (get st j), id < st.length) →
  ze9 P f us w fun u w' => ∃ cls' hdr' vb', Keep w cls hdr vb st w' cls' hdr' vb' (yx r).2 (fun id => id < st.length) ∧ (∀ b, b < w.heap.size → cls b = some [] → w'.heap[b]? = w.heap[b]? ∧ cls' b = some []) ∧
     yp w' cls' hdr' vb' (yx r).2 u (yx r).1 ∧ ∀ id, yd w' cls' hdr' vb' (yx r).2 id (get (yx r).2 id)
section
variable {P : Program} {cfg : Cfg} {a : Act} {o : Oper} {w : World} {cls : Cls} {hdr : Hdr} {vb : Nat → Nat} {st : List Entry} {sl : List (Nat × V)} {k nid : Nat} {v : V} {st' : List Entry} {ws : List Nat}
theorem yr.wp (h : yr P a o w cls hdr vb st nid v st' ws) : vv P a o w cls hdr vb st nid v st' ws := by
 intro next Q hn
 obtain ⟨u, w', cls', hdr', vb', hrun, h1, h2, h3, h4⟩ := h
 have := hn u w' cls' hdr' vb' h1 h2 h3 h4
 unfold Oper.wp
 rcases hrun with hr | ⟨hr, rfl⟩
 ·rw [hr, Oper.upon_value]; exact this
 ·rw [hr, Oper.upon_skip]; exact this
theorem Mz (hwf : ∀ i, ∀ id ∈ zZ (zB sl i), id < nid) (x : Operand) : ∀ id ∈ zZ (S.ev ⟨sl, st, k⟩ x), id < nid := by
 cases x with
 | tmp t => exact hwf t
 | const v => intro id h; rw [show S.ev ⟨sl, st, k⟩ (.const v) = cV v from rfl, E7] at h; cases h
 | global g => intro id h; cases h
 | func f => intro id h; cases h
theorem Xt (hwf : ∀ i, ∀ id ∈ zZ (zB sl i), id < nid) {x : Operand} {c : C} (h : zq ⟨sl, st, k⟩ x = some c) : ∀ id ∈ zu [c], id < nid := by
 have := Mz (st := st) (k := k) hwf x
 rw [R2 h] at this
 exact this
end
end Go.Am
/- A call: the caller's entries under the callee's numbers, and back. -/
namespace Go.Am
/-! #### lists of numbers -/
theorem UI : ∀ (l acc : List Nat), acc.Nodup → (Zn acc l).Nodup ∧ ∀ x, x ∈ Zn acc l ↔ x ∈ acc ∨ x ∈ l := by
 intro l
 induction l with
 | nil => intro acc h; exact ⟨h, by simp [Zn]⟩
 | cons k r ih =>
  intro acc h
  simp only [Zn]
  split
  ·rename_i hc
   have hc : k ∈ acc := by simpa using hc
   obtain ⟨h1, h2⟩ := ih acc h
   refine ⟨h1, fun x => ?_⟩
   rw [h2]
   simp only [List.mem_cons]
   constructor
   ·rintro (h | h) <;> simp [h]
   ·rintro (h | rfl | h) <;> simp [*]
  ·rename_i hc
   have hc : k ∉ acc := by simpa using hc
   obtain ⟨h1, h2⟩ := ih (acc ++ [k]) (List.nodup_append.2 ⟨h, by simp, fun a ha b hb e => hc (by simp at hb; rw [<- hb, <- e]; exact ha)⟩)
   refine ⟨h1, fun x => ?_⟩
   rw [h2]
   simp only [List.mem_append, List.mem_cons, List.not_mem_nil, or_false, or_assoc]
theorem Ls {ks : List Nat} {n id m : Nat} (h : xC ks n id = some m) : n <= m ∧ ks[m - n]? = some id := by
 induction ks generalizing n with
 | nil => cases h
 | cons i r ih =>
  simp only [xC] at h
  cases hb : Nat.beq i id with
  | true =>
   rw [hb] at h
   simp only [cond_true, Option.some.injEq] at h
   subst h
   exact ⟨Nat.le_refl _, by simp [Nat.eq_of_beq_eq_true hb]⟩
  | false =>
   rw [hb] at h
   obtain ⟨h1, h2⟩ := ih h
   refine ⟨by omega, ?_⟩
   rw [show m - n = (m - (n + 1)) + 1 by omega]
   simpa using h2
theorem Xu {ks : List Nat} (hn : ks.Nodup) {n p id : Nat} (h : ks[p]? = some id) : xC ks n id = some (n + p) := by
 induction ks generalizing n p with
 | nil => simp at h
 | cons i r ih =>
  simp only [List.nodup_cons] at hn
  simp only [xC]
  cases p with
  | zero => simp at h; subst h; simp
  | succ p =>
   have h : r[p]? = some id := by simpa using h
   have hne : Nat.beq i id = false := by
    cases hb : Nat.beq i id with
    | false => rfl
    | true => have := Nat.eq_of_beq_eq_true hb; subst this; exact (hn.1 (List.mem_of_getElem? h)).elim
   rw [hne]
   simp only [cond_false]
   rw [ih hn.2 h]
   congr 1; omega
theorem Xd {ks : List Nat} {n id : Nat} (h : id ∉ ks) : xC ks n id = none := by
 cases hr : xC ks n id with
 | none => rfl
 | some m => exact (h (List.mem_of_getElem? (Ls hr).2)).elim
/-! #### cells -/
section
variable {ks : List Nat} {st : List Entry} {gone : Nat → Prop}
theorem EA {c c' : C} (h : trC ks c = some c') : RenS (xC ks 0) c c' := by
 cases c <;> simp only [trC] at h <;> first
  | (simp only [Option.some.injEq] at h; subst h; first | exact .plain rfl | exact .rptr _)
  | (obtain ⟨m, hm, rfl⟩ := Option.map_eq_some_iff.1 h; first | exact .ref hm | exact .ptr hm | exact .eptr hm)
  | cases h
theorem zfa {cs cs' : List C} (h : trS ks cs = some cs') : All2 (RenS (xC ks 0)) cs cs' := by
 induction cs generalizing cs' with
 | nil => simp only [trS, Option.some.injEq] at h; subst h; exact .nil
 | cons c cs ih =>
  simp only [trS] at h
  obtain ⟨x, h1, h⟩ := Option.bind_eq_some_iff.1 h
  obtain ⟨y, h2, rfl⟩ := Option.map_eq_some_iff.1 h
  exact .cons (EA h1) (ih h2)
theorem MS {c : C} {cs cs' : List C} (h : trE ks (c :: cs) = some cs') : ∃ x y, cs' = x :: y ∧ RenR (xC ks 0) c x ∧ trE ks cs = some y ∧ ((∀ f caps, c ≠ .fn f caps) → trC ks c = some x) := by
 cases c with
 | fn f caps =>
  simp only [trE] at h
  obtain ⟨x, h1, h⟩ := Option.bind_eq_some_iff.1 h
  obtain ⟨y, h2, rfl⟩ := Option.map_eq_some_iff.1 h
  exact ⟨_, _, rfl, .fn (zfa h1), h2, fun h => (h _ _ rfl).elim⟩
 | _ =>
  simp only [trE] at h
  obtain ⟨x, h1, h⟩ := Option.bind_eq_some_iff.1 h
  obtain ⟨y, h2, rfl⟩ := Option.map_eq_some_iff.1 h
  exact ⟨_, _, rfl, .s (EA h1), h2, fun _ => h1⟩
theorem UJ {cs cs' : List C} (h : trE ks cs = some cs') : All2 (RenR (xC ks 0)) cs cs' := by
 induction cs generalizing cs' with
 | nil => simp only [trE, Option.some.injEq] at h; subst h; exact .nil
 | cons c cs ih =>
  obtain ⟨x, y, rfl, h1, h2, _⟩ := MS h
  exact .cons h1 (ih h2)
theorem RenS.ids {ρ : Nat → Option Nat} {c c' : C} (h : RenS ρ c c') : (∀ id' ∈ y5 [c'], ∃ id ∈ y5 [c], ρ id = some id') ∧ ∀ id ∈ y5 [c], ∃ id', ρ id = some id' := by
 cases h with
 | ref h => simp [y5, h]
 | ptr h => simp [y5, h]
 | eptr h => simp [y5, h]
 | rptr => simp [y5]
 | plain h => cases c <;> simp [y5] <;> simp [Am.plain] at h
theorem QW (c : C) (cs : List C) : y5 (c :: cs) = y5 [c] ++ y5 cs := by cases c <;> simp [y5]
theorem wn (c : C) (cs : List C) : zu (c :: cs) = zu [c] ++ zu cs := by cases c <;> simp [zu]
theorem RenS.idss {ρ : Nat → Option Nat} {cs cs' : List C} (h : All2 (RenS ρ) cs cs') : ∀ id' ∈ y5 cs', ∃ id ∈ y5 cs, ρ id = some id' := by
 induction h with
 | nil => simp [y5]
 | cons hh ht ih =>
  intro id' hid
  rw [QW, List.mem_append] at hid
  rcases hid with hid | hid
  ·obtain ⟨id, h1, h2⟩ := hh.ids.1 id' hid
   exact ⟨id, by rw [QW]; exact List.mem_append.2 (.inl h1), h2⟩
  ·obtain ⟨id, h1, h2⟩ := ih id' hid
   exact ⟨id, by rw [QW]; exact List.mem_append.2 (.inr h1), h2⟩
theorem RenR.ids {ρ : Nat → Option Nat} {c c' : C} (h : RenR ρ c c') : ∀ id' ∈ zu [c'], ∃ id ∈ zu [c], ρ id = some id' := by
 cases h with
 | s h =>
  intro id' hid
  have : zu [c'] = y5 [c'] := by
   have hf := h.noFn
   cases c' <;> simp [zu, y5]
   exact (hf _ _ rfl).elim
  rw [this] at hid
  obtain ⟨id, h1, h2⟩ := h.ids.1 id' hid
  exact ⟨id, Lj id h1, h2⟩
 | fn h =>
  simp only [zu, List.append_nil]
  exact RenS.idss h
theorem RenR.idss {ρ : Nat → Option Nat} {cs cs' : List C} (h : All2 (RenR ρ) cs cs') : ∀ id' ∈ zu cs', ∃ id ∈ zu cs, ρ id = some id' := by
 induction h with
 | nil => simp [zu]
 | cons hh ht ih =>
  intro id' hid
  rw [wn, List.mem_append] at hid
  rcases hid with hid | hid
  ·obtain ⟨id, h1, h2⟩ := hh.ids id' hid
   exact ⟨id, by rw [wn]; exact List.mem_append.2 (.inl h1), h2⟩
  ·obtain ⟨id, h1, h2⟩ := ih id' hid
   exact ⟨id, by rw [wn]; exact List.mem_append.2 (.inr h1), h2⟩
theorem zfb {cs xs ys : List C} (h : vws prims st cs = some xs) (ht : trE ks xs = some ys) (hg : ∀ id ∈ Kc cs, gone id) : All2 (VwR (xC ks 0) st gone) cs ys ∧ ∀ id ∈ zu xs, id ∈ zu cs := by
 induction cs generalizing xs ys with
 | nil =>
  simp only [vws, Option.some.injEq] at h
  subst h
  simp only [trE, Option.some.injEq] at ht
  subst ht
  exact ⟨.nil, by simp⟩
 | cons c cs ih =>
  simp only [vws] at h
  obtain ⟨x, h1, h⟩ := Option.bind_eq_some_iff.1 h
  obtain ⟨xs', h2, rfl⟩ := Option.map_eq_some_iff.1 h
  obtain ⟨y, ys', rfl, r1, r2, r3⟩ := MS ht
  obtain ⟨i1, i2⟩ := ih h2 r2 (fun id hid => hg id (by cases c <;> simp [Kc, hid]))
  have idc : (∀ id ∈ zu [x], id ∈ zu [c]) → ∀ id ∈ zu (x :: xs'), id ∈ zu (c :: cs) := fun hx id hid => by
   rw [wn, List.mem_append] at hid ⊢
   exact hid.imp (hx id) (i2 id)
  cases c with
  | ref id =>
   simp only [vw] at h1
   obtain ⟨q, hq, rfl⟩ := Option.map_eq_some_iff.1 h1
   have hget : get st id = .obj q.1 q.2 := by
    unfold jc at hq
    split at hq
    ·rename_i hg; injection hq with hq; rw [hg, <- hq]
    ·cases hq
   have hy := r3 (fun _ _ e => by cases e)
   simp only [trC, Option.some.injEq] at hy
   subst hy
   exact ⟨.cons (.view hget (hg id (by simp [Kc]))) i1, idc (by simp [zu])⟩
  | own sz l => cases h1
  | nils =>
   simp only [vw, Option.some.injEq] at h1
   subst h1
   have hy := r3 (fun _ _ e => by cases e)
   simp only [trC, Option.some.injEq] at hy
   subst hy
   exact ⟨.cons .nils i1, idc (by simp [zu])⟩
  | _ =>
   simp only [vw, Option.some.injEq] at h1
   subst h1
   exact ⟨.cons (.ren r1) i1, idc (fun _ h => h)⟩
theorem zbw {lend : List Nat} : ∀ {args as as' : List V} {k : Nat}, vn prims st lend k args = some as → Qn ks as = some as' → (∀ id ∈ ZN lend k args, gone id) →
  All2 (fun v v' => ∃ g cs ys, v = .val g cs ∧ v' = .val g ys ∧ All2 (VwR (xC ks 0) st gone) cs ys) args as' ∧ (∀ id ∈ yX as, id ∈ yX args) ∧ ∀ id' ∈ yX as', ∃ id, xC ks 0 id = some id' := by
 intro args
 induction args with
 | nil =>
  intro as as' k h ht _
  simp only [vn, Option.some.injEq] at h
  subst h
  simp only [Qn, Option.some.injEq] at ht
  subst ht
  exact ⟨.nil, by simp [yX], by simp [yX]⟩
 | cons v args ih =>
  intro as as' k h ht hg
  simp only [vn] at h
  cases v with
  | val g cs =>
   obtain ⟨x, h1, h⟩ := Option.bind_eq_some_iff.1 h
   obtain ⟨y, h2, rfl⟩ := Option.map_eq_some_iff.1 h
   simp only [Qn] at ht
   obtain ⟨ys, t1, ht⟩ := Option.bind_eq_some_iff.1 ht
   obtain ⟨as2, t2, rfl⟩ := Option.map_eq_some_iff.1 ht
   obtain ⟨i1, i2, i3⟩ := ih h2 t2 fun id hid => hg id (by simp only [ZN, List.mem_append]; exact .inr hid)
   have hids : ∀ id' ∈ zu ys, ∃ id, xC ks 0 id = some id' := fun id' hid => by
    obtain ⟨id, _, h⟩ := RenR.idss (UJ t1) id' hid
    exact ⟨id, h⟩
   have hcell : All2 (VwR (xC ks 0) st gone) cs ys ∧ ∀ id ∈ zu x, id ∈ zu cs := by
    split at h1
    ·simp only [Option.some.injEq] at h1
     subst h1
     exact ⟨(UJ t1).mono fun _ _ _ h => .ren h, fun _ h => h⟩
    ·rename_i hl
     refine zfb h1 t1 fun id hid => hg id ?_
     simp only [ZN, List.mem_append]
     left
     have : lend.contains k = false := by simpa using hl
     rw [this]; exact hid
   refine ⟨.cons ⟨g, cs, ys, rfl, rfl, hcell.1⟩ i1, fun id hid => ?_, fun id hid => ?_⟩
   ·simp only [yX, zZ, List.mem_append] at hid ⊢
    exact hid.imp (hcell.2 id) (i2 id)
   ·simp only [yX, zZ, List.mem_append] at hid
    exact hid.elim (hids id) (i3 id)
  | _ => cases h
theorem Bm : ∀ {r : List Nat} {es : List Entry}, QK st ks r = some es → All2 (fun id e => kA (xC ks 0) False (get st id) e ∧ ∀ id' ∈ zv e, ∃ id, xC ks 0 id = some id') r es := by
 intro r
 induction r with
 | nil =>
  intro es h
  simp only [QK, Option.some.injEq] at h
  subst h
  exact .nil
 | cons i r ih =>
  intro es h
  simp only [QK] at h
  split at h
  ·rename_i cs hg
   obtain ⟨x, h1, h⟩ := Option.bind_eq_some_iff.1 h
   obtain ⟨y, h2, rfl⟩ := Option.map_eq_some_iff.1 h
   refine .cons ⟨by rw [hg]; exact ⟨UJ h1, fun h => h.elim⟩, fun id' hid => ?_⟩ (ih h2)
   obtain ⟨id, _, h⟩ := RenR.idss (UJ h1) id' hid
   exact ⟨id, h⟩
  ·rename_i sz l hg
   obtain ⟨y, h2, rfl⟩ := Option.map_eq_some_iff.1 h
   exact .cons ⟨by rw [hg]; exact ⟨rfl, rfl, fun h => h.elim⟩, fun id' hid => by simp [zv] at hid⟩ (ih h2)
  ·cases h
/-! #### and back -/
theorem Bn {c c' : C} (h : Hs ks c = some c') : RenR (fun i => ks[i]?) c c' := by
 cases c <;> simp only [Hs] at h <;> first
  | (simp only [Option.some.injEq] at h; subst h; first | exact .s (.plain rfl) | exact .s (.rptr _))
  | (obtain ⟨m, hm, rfl⟩ := Option.map_eq_some_iff.1 h; first | exact .s (.ref hm) | exact .s (.ptr hm) | exact .s (.eptr hm))
  | cases h
theorem T6 {cs cs' : List C} (h : Kb ks cs = some cs') : All2 (RenR fun i => ks[i]?) cs cs' := by
 induction cs generalizing cs' with
 | nil => simp only [Kb, Option.some.injEq] at h; subst h; exact .nil
 | cons c cs ih =>
  simp only [Kb] at h
  obtain ⟨x, h1, h⟩ := Option.bind_eq_some_iff.1 h
  obtain ⟨y, h2, rfl⟩ := Option.map_eq_some_iff.1 h
  exact .cons (Bn h1) (ih h2)
theorem Bo {vs vs' : List (Bool × List C)} (h : U9 ks vs = some vs') : All2 (fun x y => x.1 = y.1 ∧ All2 (RenR fun i => ks[i]?) x.2 y.2) vs vs' := by
 induction vs generalizing vs' with
 | nil => simp only [U9, Option.some.injEq] at h; subst h; exact .nil
 | cons v vs ih =>
  obtain ⟨g, cs⟩ := v
  simp only [U9] at h
  obtain ⟨x, h1, h⟩ := Option.bind_eq_some_iff.1 h
  obtain ⟨y, h2, rfl⟩ := Option.map_eq_some_iff.1 h
  exact .cons ⟨rfl, T6 h1⟩ (ih h2)
theorem EB : ∀ {r : List Nat} {es st st' : List Entry}, r.Nodup → r.length = es.length → (∀ e ∈ es, kI prims e = true ∨ ¬ gone 0) → Z8 ks r es st = some st' →
  (∀ id, id ∉ r → get st' id = get st id) ∧ ∀ (p : Nat) id, r[p]? = some id → kA (fun i => ks[i]?) (gone 0) (get es p) (get st' id) := by
 intro r
 induction r with
 | nil =>
  intro es st st' _ _ _ h
  cases es <;> simp only [Z8, Option.some.injEq] at h <;> subst h <;> exact ⟨fun _ _ => rfl, by simp⟩
 | cons i r ih =>
  intro es st st' hn hl hc h
  cases es with
  | nil => simp at hl
  | cons e es =>
   simp only [List.nodup_cons] at hn
   have step : ∀ e', Z8 ks r es (put st i e') = some st' → kA (fun i => ks[i]?) (gone 0) e e' → (∀ id, id ∉ i :: r → get st' id = get st id) ∧ ∀ (p : Nat) id, (i :: r)[p]? = some id → kA (fun i => ks[i]?) (gone 0) (get (e :: es) p) (get st' id) := by
    intro e' h' hr
    obtain ⟨h1, h2⟩ := ih hn.2 (by simpa using hl) (fun e he => hc e (by simp [he])) h'
    refine ⟨fun id hid => ?_, fun p id hp => ?_⟩
    ·simp only [List.mem_cons, not_or] at hid
     rw [h1 id hid.2, zw, if_neg hid.1]
    ·cases p with
     | zero =>
      simp at hp
      subst hp
      rw [h1 i hn.1, zw, if_pos rfl]
      exact hr
     | succ p => exact h2 p id (by simpa using hp)
   have hce := hc e (by simp)
   cases e with
   | var cs =>
    simp only [Z8] at h
    obtain ⟨x, h1, h⟩ := Option.bind_eq_some_iff.1 h
    refine step _ h ⟨T6 h1, fun hg => ?_⟩
    exact List.all_eq_true.1 (hce.resolve_right (fun h => h hg))
   | obj sz l => exact step _ h ⟨rfl, rfl, fun hg => hce.resolve_right (fun h => h hg)⟩
   | hole sz l i hs => cases h
   | mp es => exact step _ h ⟨rfl, fun hg => by have := hce.resolve_right (fun h => h hg); simp [kI] at this⟩
   | dead => exact step _ h trivial
end
/-! #### nothing that is read alone comes back -/
theorem Kj {cs : List C} (h : ∀ c ∈ cs, clC prims c = true) (nid : Nat) : (∀ c ∈ (qw nid cs).1, clC prims c = true) ∧ ∀ e ∈ (qw nid cs).2, kI prims e = true := by
 induction cs generalizing nid with
 | nil => simp [qw]
 | cons c cs ih =>
  have hc := h c (by simp)
  have ih := fun nid => ih (fun c hc => h c (by simp [hc])) nid
  cases c with
  | own sz l =>
   simp only [qw, List.mem_cons]
   obtain ⟨i1, i2⟩ := ih (nid + 1)
   exact ⟨fun c hc' => hc'.elim (fun e => by subst e; rfl) (i1 c), fun e he => he.elim (fun e' => by subst e'; exact hc) (i2 e)⟩
  | box l => simp [clC] at hc
  | _ =>
   simp only [qw, List.mem_cons]
   obtain ⟨i1, i2⟩ := ih nid
   exact ⟨fun c hc' => hc'.elim (fun e => by subst e; exact hc) (i1 c), i2⟩
theorem H6 {vs : List (Bool × List C)} (h : ∀ x ∈ vs, ∀ c ∈ x.2, clC prims c = true) (nid : Nat) : (∀ x ∈ (Z5 nid vs).1, ∀ c ∈ x.2, clC prims c = true) ∧ ∀ e ∈ (Z5 nid vs).2, kI prims e = true := by
 induction vs generalizing nid with
 | nil => simp [Z5]
 | cons v vs ih =>
  obtain ⟨g, cs⟩ := v
  obtain ⟨a1, a2⟩ := Kj (h (g, cs) (by simp)) nid
  obtain ⟨b1, b2⟩ := ih (fun x hx => h x (by simp [hx])) (nid + (qw nid cs).2.length)
  simp only [Z5, List.mem_cons, List.mem_append]
  exact ⟨fun x hx => hx.elim (fun e => by subst e; exact a1) (b1 x), fun e he => he.elim (a2 e) (b2 e)⟩
theorem Gz {es : List Entry} (h : ∀ e ∈ es, kI prims e = true) (nid : Nat) : (∀ e ∈ (jK nid es).1, kI prims e = true) ∧ ∀ e ∈ (jK nid es).2, kI prims e = true := by
 induction es generalizing nid with
 | nil => simp [jK]
 | cons e es ih =>
  have he := h e (by simp)
  have ih := fun nid => ih (fun e hc => h e (by simp [hc])) nid
  cases e with
  | var cs =>
   obtain ⟨a1, a2⟩ := Kj (List.all_eq_true.1 he) nid
   obtain ⟨b1, b2⟩ := ih (nid + (qw nid cs).2.length)
   simp only [jK, List.mem_cons, List.mem_append]
   exact ⟨fun x hx => hx.elim (fun e => by subst e; exact List.all_eq_true.2 a1) (b1 x), fun e he => he.elim (a2 e) (b2 e)⟩
  | _ =>
   obtain ⟨b1, b2⟩ := ih nid
   simp only [jK, List.mem_cons]
   exact ⟨fun x hx => hx.elim (fun e => by subst e; exact he) (b1 x), b2⟩
theorem H7 {r : V × List Entry} (h1 : clV prims r.1 = true) (h2 : ∀ e ∈ r.2, kI prims e = true) : clV prims (yx r).1 = true ∧ ∀ e ∈ (yx r).2, kI prims e = true := by
 obtain ⟨v, es⟩ := r
 simp only at h1 h2
 have hv : clV prims (Ka es.length v).1 = true ∧ ∀ e ∈ (Ka es.length v).2, kI prims e = true := by
  cases v with
  | val g cs =>
   obtain ⟨a1, a2⟩ := Kj (List.all_eq_true.1 h1) es.length
   exact ⟨List.all_eq_true.2 a1, a2⟩
  | tup vs =>
   have h1 : ∀ x ∈ vs, ∀ c ∈ x.2, clC prims c = true := fun x hx => List.all_eq_true.1 (List.all_eq_true.1 h1 x hx)
   obtain ⟨a1, a2⟩ := H6 h1 es.length
   exact ⟨List.all_eq_true.2 fun x hx => List.all_eq_true.2 (a1 x hx), a2⟩
  | dead => exact ⟨rfl, by simp [Ka]⟩
 obtain ⟨b1, b2⟩ := Gz h2 (es.length + (Ka es.length v).2.length)
 simp only [yx, List.mem_append]
 exact ⟨hv.1, fun e he => he.elim (b1 e) fun he => he.elim (hv.2 e) (b2 e)⟩
end Go.Am
/- A call, whole: from the caller's state to the caller's state. -/
namespace Go.Am
theorem All2.map_left {α β γ : Type} {R : α → β → Prop} (f : γ → α) {as : List γ} {bs : List β} (h : All2 (fun a b => R (f a) b) as bs) : All2 R (as.map f) bs := by
 induction h with
 | nil => exact .nil
 | cons hh ht ih => exact .cons hh ih
theorem All2.comp {α β γ : Type} {R : α → β → Prop} {S : β → γ → Prop} {T : α → γ → Prop} (h : ∀ a b c, R a b → S b c → T a c) {as : List α} {bs : List β} {cs : List γ} (h1 : All2 R as bs) (h2 : All2 S bs cs) : All2 T as cs := by
 induction h1 generalizing cs with
 | nil => cases h2; exact .nil
 | cons hh ht ih => cases h2 with
  | cons g1 g2 => exact .cons (h _ _ _ hh g1) (ih g2)
def inC (cls : Cls) (ks vs : List Nat) : Cls := fun b => match cls b with
 | none => none
 | some [] => some []
 | some (id :: t) => match xC ks 0 id with
  | some i => some (i :: t)
  | none => if id ∈ vs then none else some []
def WA (w : World) (cls clsL : Cls) (ks ks' : List Nat) : Cls := fun b =>
 match (if b < w.heap.size then cls b else some [0]) with
 | none => none
 | some [] => some []
 | some (id :: t) => if b < w.heap.size ∧ id ∉ ks then some (id :: t) else match clsL b with
  | some (i :: s) => (ks'[i]?).map (· :: s)
  | _ => none
def PZ (hdr hdrL : Hdr) (ks' : List Nat) : Hdr := fun
 | [] => hdr []
 | id :: t => match xC ks' 0 id with
  | some i => hdrL (i :: t)
  | none => hdr (id :: t)
def Oa (vb vbL : Nat → Nat) (ks' : List Nat) : Nat → Nat := fun id => match xC ks' 0 id with
 | some i => vbL i
 | none => vb id
section
variable {P : Program} {cfg : Cfg} {μ : M} {a : Act} {o : Oper} {w : World} {cls : Cls} {hdr : Hdr} {vb : Nat → Nat} {st : List Entry} {sl : List (Nat × V)} {k nid : Nat} {v : V} {st' : List Entry} {ws : List Nat}
theorem EC {ks ks' vs : List Nat} {st0 : List Entry} {q : V × List Entry} {w' : World} {clsL : Cls} {hdrL : Hdr} {vbL : Nat → Nat} {u : Value} {nw : List Nat} (hk' : ks' = ks ++ nw) (hn' : ks'.Nodup) (_hlt : ∀ id ∈ ks, id < nid) (hge : ∀ id ∈ nw, nid <= id)
  (_hvs : ∀ id ∈ vs, id ∉ ks) (hlen0 : st0.length = ks.length) (hlen : q.2.length = ks'.length) (hst0 : ∀ i id, ks[i]? = some id → kA (xC ks 0) False (get st id) (get st0 i)) (hcl : vs ≠ [] → clV prims q.1 = true ∧ ∀ e ∈ q.2, kI prims e = true)
  (hE : ∀ id, yd w cls hdr vb st id (get st id)) (hwe : ∀ j, ∀ id ∈ zv (get st j), id < nid)
  (K : Keep w (inC cls ks vs) (rlH hdr fun i => ks[i]?) (rlV vb fun i => ks[i]?) st0 w' clsL hdrL vbL q.2 (fun id => id < st0.length)) (hid : ∀ b, b < w.heap.size → inC cls ks vs b = some [] → w'.heap[b]? = w.heap[b]? ∧ clsL b = some [])
  (hu : yp w' clsL hdrL vbL q.2 u q.1) (hq : ∀ id, yd w' clsL hdrL vbL q.2 id (get q.2 id)) (hv : QL ks' q.1 = some v) (hs : Z8 ks' ks' q.2 st = some st') :
  ∃ cls' hdr' vb', Keep w cls hdr vb st w' cls' hdr' vb' st' (fun id => ¬ (id ∈ ks' ∧ nid <= id)) ∧ yp w' cls' hdr' vb' st' u v ∧ (∀ id, yd w' cls' hdr' vb' st' id (get st' id)) ∧ Frm w cls hdr vb st w' cls' hdr' vb' st' ks' := by
 obtain ⟨s1, s2⟩ := EB (gone := fun _ => vs ≠ []) hn' hlen.symm (fun e he => by
  by_cases h : vs = []
  ·exact .inr (fun h' => h' h)
  ·exact .inl ((hcl h).2 e he)) hs
 have hnk : ks.Nodup := by rw [hk'] at hn'; exact (List.nodup_append.1 hn').1
 have kin : ∀ i id, ks[i]? = some id → ks'[i]? = some id := fun i id h => by
  rw [hk', List.getElem?_append_left (List.getElem?_eq_some_iff.1 h).1]; exact h
 have kold : ∀ id, id ∈ ks' → id < nid → ∃ i, ks[i]? = some id ∧ i < st0.length := fun id h1 h2 => by
  rw [hk', List.mem_append] at h1
  rcases h1 with h1 | h1
  ·obtain ⟨i, hi, he⟩ := List.mem_iff_getElem.1 h1
   exact ⟨i, by rw [List.getElem?_eq_getElem hi, he], by omega⟩
  ·have := hge id h1; omega
 have hsub : ∀ id, id ∉ ks' → id ∉ ks := fun id h h' => h (by rw [hk']; exact List.mem_append.2 (.inl h'))
 -- blocks that are not lent
 have other : ∀ b id t, b < w.heap.size → cls b = some (id :: t) → id ∉ ks → w'.heap[b]? = w.heap[b]? ∧ WA w cls clsL ks ks' b = some (id :: t) := fun b id t hb hc h => by
  refine ⟨?_, by simp [WA, hb, hc, h]⟩
  have hin : inC cls ks vs b = if id ∈ vs then none else some [] := by simp [inC, hc, Xd h]
  split at hin
  ·exact (K.ro b hb hin).1
  ·exact (hid b hb hin).1
 have hroC : ∀ b, b < w.heap.size → cls b = none → w'.heap[b]? = w.heap[b]? ∧ WA w cls clsL ks ks' b = none := fun b hb hc =>
  ⟨(K.ro b hb (by simp [inC, hc])).1, by simp [WA, hb, hc]⟩
 have hhid : ∀ b, b < w.heap.size → cls b = some [] → w'.heap[b]? = w.heap[b]? ∧ WA w cls clsL ks ks' b = some [] := fun b hb hc =>
  ⟨(hid b hb (by simp [inC, hc])).1, by simp [WA, hb, hc]⟩
 have R : Relab w' clsL hdrL vbL q.2 (WA w cls clsL ks ks') (PZ hdr hdrL ks') (Oa vb vbL ks') st' (fun i => ks'[i]?) (vs ≠ []) := by
  refine ⟨?_, fun i id h s => ?_, fun i id h => ?_, fun i id h b t hb hc => ?_, fun i id h => s2 i id h⟩
  ·by_cases h : vs = []
   ·right
    intro b hb hc
    by_cases hlt : b < w.heap.size
    ·cases hcl : cls b with
     | none => exact (hroC b hlt hcl).2
     | some x =>
      cases x with
      | nil =>
       have := (hid b hlt (by simp [inC, hcl])).2
       rw [hc] at this; cases this
      | cons id t =>
       by_cases hin : id ∈ ks
       ·simp [WA, hlt, hcl, hin, hc]
       ·have := (hid b hlt (by simp [inC, hcl, Xd hin, h])).2
        rw [hc] at this; cases this
    ·simp [WA, hlt, hc]
   ·exact .inl h
  ·have hr := Xu hn' (n := 0) h
   rw [Nat.zero_add] at hr
   simp only [PZ, hr]
  ·have hr := Xu hn' (n := 0) h
   rw [Nat.zero_add] at hr
   simp only [Oa, hr]
  ·by_cases hlt : b < w.heap.size
   ·cases hcl : cls b with
    | none =>
     have := (K.ro b hlt (by simp [inC, hcl])).2
     rw [hc] at this; cases this
    | some x =>
     cases x with
     | nil =>
      have := (hid b hlt (by simp [inC, hcl])).2
      rw [hc] at this; cases this
     | cons id0 t0 =>
      by_cases hin : id0 ∈ ks
      ·simp [WA, hlt, hcl, hin, hc, h]
      ·have hin' : inC cls ks vs b = if id0 ∈ vs then none else some [] := by simp [inC, hcl, Xd hin]
       split at hin'
       ·have := (K.ro b hlt hin').2
        rw [hc] at this; cases this
       ·have := (hid b hlt hin').2
        rw [hc] at this; cases this
   ·simp [WA, hlt, hc, h]
 have hH : ∀ id, id ∉ ks' → ∀ t, PZ hdr hdrL ks' (id :: t) = hdr (id :: t) := fun id h t => by simp only [PZ, Xd h]
 have hV : ∀ id, id ∉ ks' → Oa vb vbL ks' id = vb id := fun id h => by simp only [Oa, Xd h]
 have kp : Keep w cls hdr vb st w' (WA w cls clsL ks ks') (PZ hdr hdrL ks') (Oa vb vbL ks') st' (fun id => ¬ (id ∈ ks' ∧ nid <= id)) := by
  refine ⟨hroC, fun id hok cs hg => ?_, fun id hok sz l hg => ?_, K.size, K.io⟩
  ·by_cases hin : id ∈ ks'
   ·have hltid : id < nid := by
     rcases Nat.lt_or_ge id nid with h | h
     ·exact h
     ·exact (hok ⟨hin, h⟩).elim
    obtain ⟨i, hi, hil⟩ := kold id hin hltid
    have e1 := s2 i id (kin i id hi)
    rw [hg] at e1
    have e2 : ∃ c1, get q.2 i = .var c1 := by
     revert e1
     cases get q.2 i with
     | var c1 => exact fun _ => ⟨c1, rfl⟩
     | _ => exact fun h => h.elim
    obtain ⟨c1, e2⟩ := e2
    obtain ⟨⟨c2, e3⟩, e4⟩ := K.var i hil c1 e2
    have e5 := hst0 i id hi
    rw [e3] at e5
    have hr := Xu hn' (n := 0) (kin i id hi)
    rw [Nat.zero_add] at hr
    refine ⟨?_, ?_⟩
    ·revert e5
     cases get st id with
     | var c3 => exact fun _ => ⟨c3, rfl⟩
     | _ => exact fun h => h.elim
    ·simp only [Oa, hr, e4, rlV, hi]
   ·rw [s1 id hin] at hg
    exact ⟨⟨cs, hg⟩, hV id hin⟩
  ·by_cases hin : id ∈ ks'
   ·have hltid : id < nid := by
     rcases Nat.lt_or_ge id nid with h | h
     ·exact h
     ·exact (hok ⟨hin, h⟩).elim
    obtain ⟨i, hi, hil⟩ := kold id hin hltid
    have e2 := (s2 i id (kin i id hi)).shape hg
    obtain ⟨⟨l0, e3, e3'⟩, e4⟩ := K.obj i hil sz l e2
    have e5 := (hst0 i id hi).shape e3
    have hr := Xu hn' (n := 0) (kin i id hi)
    rw [Nat.zero_add] at hr
    refine ⟨⟨_, e5, e3'⟩, ?_⟩
    simp only [PZ, hr, e4, rlH, hi]
   ·rw [s1 id hin] at hg
    exact ⟨⟨l, hg, Nat.le_refl _⟩, hH id hin []⟩
 refine ⟨_, _, _, kp, ?_, fun id => ?_, hhid, s1, hV, hH, fun id hin b t hb hc => other b id t hb hc (hsub id hin)⟩
 ·generalize hq1 : q.1 = q1 at *
  cases q1 with
  | val g cs =>
   simp only [QL] at hv
   obtain ⟨x, hx, rfl⟩ := Option.map_eq_some_iff.1 hv
   exact wV.relab R (fun h => List.all_eq_true.1 (hcl h).1) (T6 hx) hu
  | tup ts =>
   simp only [QL] at hv
   obtain ⟨x, hx, rfl⟩ := Option.map_eq_some_iff.1 hv
   obtain ⟨us, rfl, hr⟩ := hu
   refine ⟨us, rfl, ?_⟩
   have hb := Bo hx
   have hcc : vs ≠ [] → ∀ x ∈ ts, ∀ c ∈ x.2, clC prims c = true := fun h x hx => List.all_eq_true.1 (List.all_eq_true.1 (hcl h).1 x hx)
   clear hx hv hcl hq1
   induction hb generalizing us with
   | nil => cases hr; exact .nil
   | cons hh ht ih =>
    cases hr with
    | cons g1 g2 =>
     refine .cons ?_ (ih _ g2 fun h x hx => hcc h x (by simp [hx]))
     rw [<- hh.1]
     exact wV.relab R (fun h => hcc h _ (by simp)) hh.2 g1
  | dead =>
   simp only [QL, Option.some.injEq] at hv
   subst hv
   trivial
 ·by_cases hin : id ∈ ks'
  ·obtain ⟨i, hi, he⟩ := List.mem_iff_getElem.1 hin
   exact yd.relab R (by rw [List.getElem?_eq_getElem hi, he]) (hq i)
  ·rw [s1 id hin]
   refine yd.keep kp (fun i hi h => ?_) (fun b s hb hc => other b id s hb hc (hsub id hin)) (hH id hin) (hV id hin) (hE id)
   have := hwe id i hi; omega
theorem ED (hp : μ.p = prims) (sim : Sim w cls hdr vb st sl a.tmps) (hgl : vu P w cls hdr) {g : Operand} {args : Array Operand} {ts : Array TypeId} {f : FuncId} {caps : List C} (ho : o.op = .call ⟨.value g, args, ts⟩) (hg : (S.ev ⟨sl, st, k⟩ g).one = some (.fn f caps))
  (hwf : ∀ i, ∀ id ∈ zZ (zB sl i), id < nid) (hwe : ∀ j, ∀ id ∈ zv (get st j), id < nid)
  (hcalls : ∀ f st as r, μ.call f st as = some r → wW P f st as r)
  (h : callF cfg μ nid ⟨sl, st, k⟩ f (args.toList.map (S.ev ⟨sl, st, k⟩) ++ caps.map fun c => .val false [c]) = some (v, st', ws)) : vv P a o w cls hdr vb st nid v st' ws := by
 -- the arguments' values
 have gg := w7 (k := k) sim g
 have glt := Mz (st := st) (k := k) hwf g
 rw [R2 hg] at gg glt
 obtain ⟨cvs, hgv, hcaps⟩ := gg.one
 have hargs : All2 (yp w cls hdr vb st) (args.toList.map a.eval ++ cvs) (args.toList.map (S.ev ⟨sl, st, k⟩) ++ caps.map fun c => .val false [c]) := by
  refine All2.append ?_ ?_
  ·induction args.toList with
   | nil => exact .nil
   | cons x xs ih => exact .cons (w7 sim x) ih
  ·clear hgv h hg gg
   induction hcaps with
   | nil => exact .nil
   | cons hh ht ih =>
    refine .cons ?_ (ih fun id hid => glt id ?_)
    ·refine zo.val ?_
     rw [V4]
     ·exact hh
     ·intro f' c' e; subst e; exact hh.elim
    ·simp only [zZ, zu, List.append_nil] at hid ⊢
     rw [QW]; exact List.mem_append.2 (.inr hid)
 have hidlt : ∀ id ∈ yX (args.toList.map (S.ev ⟨sl, st, k⟩) ++ caps.map fun c => .val false [c]), id < nid := by
  have h1 : ∀ (xs : List V), (∀ v ∈ xs, ∀ id ∈ zZ v, id < nid) → ∀ id ∈ yX xs, id < nid := by
   intro xs
   induction xs with
   | nil => simp [yX]
   | cons x xs ih =>
    intro hx id hid
    simp only [yX, List.mem_append] at hid
    exact hid.elim (hx x (by simp) id) (ih (fun v hv => hx v (by simp [hv])) id)
  refine h1 _ fun v hv => ?_
  rcases List.mem_append.1 hv with hv | hv
  ·obtain ⟨x, _, rfl⟩ := List.mem_map.1 hv
   exact Mz hwf x
  ·obtain ⟨c, hc, rfl⟩ := List.mem_map.1 hv
   intro id hid
   refine glt id ?_
   have hs : zu [c] = y5 [c] := by
    cases c <;> simp [zu, y5]
    rename_i f' c'
    obtain ⟨u, _, hu⟩ := hcaps.get (List.getElem?_eq_getElem (List.mem_iff_getElem.1 hc).choose_spec.choose)
    rw [(List.mem_iff_getElem.1 hc).choose_spec.choose_spec] at hu
    exact hu.elim
   simp only [zZ, hs] at hid
   simp only [zZ, zu, List.append_nil]
   exact MC hc id hid
 generalize (args.toList.map (S.ev ⟨sl, st, k⟩) ++ caps.map fun c => V.val false [c]) = xs at h hargs hidlt
 unfold callF at h
 obtain ⟨as, h1, h⟩ := Option.bind_eq_some_iff.1 h
 simp only at h
 rw [hp] at h1
 generalize hks0 : Zn [] (yX as) = ks0 at h
 generalize hks : Zn ks0 (ks0.flatMap fun k => zv (get st k)) = ks at h
 generalize hvs : ZN (cfg.lend f) 0 xs = vs at h
 obtain ⟨n0, m0⟩ := UI (yX as) [] (by simp)
 rw [hks0] at n0 m0
 obtain ⟨n1, m1⟩ := UI (ks0.flatMap fun k => zv (get st k)) ks0 n0
 rw [hks] at n1 m1
 cases hbad : vs.any fun i => ks.contains i with
 | true => rw [hbad] at h; cases h
 | false =>
  rw [hbad] at h
  simp only [cond_false] at h
  have hvk : ∀ id ∈ vs, id ∉ ks := fun id hid hk => by
   have := List.any_eq_false.1 hbad id hid
   simp [hk] at this
  obtain ⟨st0, h2, h⟩ := Option.bind_eq_some_iff.1 h
  obtain ⟨as', h3, h⟩ := Option.bind_eq_some_iff.1 h
  obtain ⟨r, h4, h⟩ := Option.bind_eq_some_iff.1 h
  obtain ⟨A1, A2, A3⟩ := zbw (gone := fun id => id ∈ vs) h1 h3 (fun id hid => by rw [hvs] at hid; exact hid)
  have L := Bm h2
  have hlen0 : st0.length = ks.length := L.length.symm
  have hlt : ∀ id ∈ ks, id < nid := fun id hid => by
   have h0 : ∀ id ∈ ks0, id < nid := fun id hid => by
    rcases (m0 id).1 hid with h | h
    ·cases h
    ·exact hidlt id (A2 id h)
   rcases (m1 id).1 hid with h | h
   ·exact h0 id h
   ·obtain ⟨j, _, hj⟩ := List.mem_flatMap.1 h
    exact hwe j id hj
  have hst0 : ∀ i id, ks[i]? = some id → kA (xC ks 0) False (get st id) (get st0 i) := fun i id hi => by
   obtain ⟨e, he, hr⟩ := L.getL hi
   rw [kB st0, he]; exact hr.1
  have hρinv : ∀ id i, xC ks 0 id = some i → ks[i]? = some id := fun id i hr => by
   have := (Ls hr).2; simpa using this
  have R : Relab w cls hdr vb st (inC cls ks vs) (rlH hdr fun i => ks[i]?) (rlV vb fun i => ks[i]?) st0 (xC ks 0) False := by
   refine ⟨.inr fun b _ h => by simp [inC, h], fun id id' h s => by simp only [rlH, hρinv _ _ h], fun id id' h => by simp only [rlV, hρinv _ _ h], fun id id' h b s _ hc => by simp [inC, hc, h], fun id i h => hst0 i id (hρinv _ _ h)⟩
  have hgone : ∀ id, id ∈ vs → ∀ b s, b < w.heap.size → cls b = some (id :: s) → inC cls ks vs b = none := fun id hid b s _ hc => by
   simp [inC, hc, Xd (hvk id hid), hid]
  have hlt0 : ∀ {id i : Nat}, xC ks 0 id = some i → i < st0.length := fun hr => by
   have := (List.getElem?_eq_some_iff.1 (hρinv _ _ hr)).1; omega
  have hcall : wW P f st0 as' r := hcalls f st0 as' r h4
  have hdoes := hcall w (inC cls ks vs) (rlH hdr fun i => ks[i]?) (rlV vb fun i => ks[i]?) (args.map a.eval ++ cvs.toArray) (hgl.recls fun b hb => by simp [inC, hb]) ?_ ?_ ?_ ?_
  rotate_left
  ·have e : (args.map a.eval ++ cvs.toArray).toList = args.toList.map a.eval ++ cvs := by simp
   rw [e]
   refine All2.comp ?_ hargs A1
   rintro u _ _ hr ⟨g, cs, ys, rfl, rfl, hv⟩
   obtain ⟨arr, r1, r2⟩ := hr
   exact ⟨arr, zo.vws R sim.ent hgone hv r1, r2⟩
  ·intro i
   rcases Nat.lt_or_ge i ks.length with hi | hi
   ·have hki := List.getElem?_eq_getElem hi
    have hr := Xu n1 (n := 0) hki
    rw [Nat.zero_add] at hr
    exact yd.relab R hr (sim.ent _)
   ·rw [Ki (by omega)]; trivial
  ·intro id hid
   obtain ⟨j, hj⟩ := A3 id hid
   exact hlt0 hj
  ·intro j id hid
   have hj' : j < st0.length := by
    rcases Nat.lt_or_ge j st0.length with h | h
    ·exact h
    ·rw [Ki h] at hid; cases hid
   have hje : st0[j]? = some (get st0 j) := by
    rw [kB, List.getElem?_eq_getElem hj']; rfl
   obtain ⟨i, _, hr⟩ := L.get hje
   obtain ⟨x, hx⟩ := hr.2 id hid
   exact hlt0 hx
  cases hck : Nat.beq r.2.length ks.length && (vs.isEmpty || (clV μ.p r.1 && r.2.all (kI μ.p))) with
  | false => rw [hck] at h; cases h
  | true =>
   rw [hck] at h
   simp only [cond_true] at h
   simp only [Bool.and_eq_true, Bool.or_eq_true, List.isEmpty_iff, hp, List.all_eq_true] at hck
   obtain ⟨c1, c2⟩ := hck
   have c1 := Nat.eq_of_beq_eq_true c1
   obtain ⟨v1, h5, h⟩ := Option.bind_eq_some_iff.1 h
   obtain ⟨st1, h6, h7⟩ := Option.map_eq_some_iff.1 h
   simp only [Prod.mk.injEq] at h7
   obtain ⟨rfl, rfl, rfl⟩ := h7
   have hlq : ks.length <= (yx r).2.length := by
    have : ∀ (es : List Entry) n, (jK n es).1.length = es.length := by
     intro es
     induction es with
     | nil => intro n; rfl
     | cons e es ih => intro n; cases e <;> simp [jK, ih]
    simp only [yx, List.length_append, this]
    omega
   have fin : ∀ u w', (∃ cls' hdr' vb', Keep w (inC cls ks vs) (rlH hdr fun i => ks[i]?) (rlV vb fun i => ks[i]?) st0 w' cls' hdr' vb' (yx r).2 (fun id => id < st0.length) ∧ (∀ b, b < w.heap.size → inC cls ks vs b = some [] → w'.heap[b]? = w.heap[b]? ∧ cls' b = some []) ∧
     yp w' cls' hdr' vb' (yx r).2 u (yx r).1 ∧ ∀ id, yd w' cls' hdr' vb' (yx r).2 id (get (yx r).2 id)) →
     ∃ cls' hdr' vb', Keep w cls hdr vb st w' cls' hdr' vb' st1 (fun id => ¬ (id ∈ ks ++ (List.range ((yx r).2.length - ks.length)).map (nid + ·) ∧ nid <= id)) ∧ yp w' cls' hdr' vb' st1 u v1 ∧ (∀ id, yd w' cls' hdr' vb' st1 id (get st1 id)) ∧
      Frm w cls hdr vb st w' cls' hdr' vb' st1 (ks ++ (List.range ((yx r).2.length - ks.length)).map (nid + ·)) := by
    rintro u w' ⟨clsL, hdrL, vbL, k1, k2, k3, k4⟩
    refine EC rfl ?_ hlt ?_ hvk hlen0 ?_ hst0 ?_ sim.ent hwe k1 k2 k3 k4 h5 h6
    ·refine List.nodup_append.2 ⟨n1, ?_, fun x hx y hy e => ?_⟩
     ·refine List.Pairwise.map _ (fun x y hxy e => hxy (by omega)) List.nodup_range
     ·obtain ⟨i, _, rfl⟩ := List.mem_map.1 hy
      have := hlt x hx; omega
    ·intro id hid
     obtain ⟨i, _, rfl⟩ := List.mem_map.1 hid
     omega
    ·simp only [List.length_append, List.length_map, List.length_range]; omega
    ·intro hne
     exact H7 (c2.resolve_left hne).1 (c2.resolve_left hne).2
   intro next Q hn
   have hexec : (execOp a.eval o).run P w = (callFunc f (args.map a.eval ++ cvs.toArray)).run P w := by
    simp [execOp, ho, resolve, hgv, Deferred.ofValue, invoke]
   unfold Oper.wp
   rw [hexec]
   rcases hdoes with ⟨d1, d2⟩ | ⟨u, w', d1, d2⟩
   ·rw [d1, Oper.upon_enter]
    refine Calls.mono d2 fun e w' he => ?_
    cases e with
    | returned u =>
     obtain ⟨cls', hdr', vb', f1, f2, f3, f4⟩ := fin u w' he
     exact hn u w' cls' hdr' vb' f1 f2 f3 f4
    | _ => exact he.elim
   ·rw [d1, Oper.upon_value]
    obtain ⟨cls', hdr', vb', f1, f2, f3, f4⟩ := fin u w' d2
    exact hn u w' cls' hdr' vb' f1 f2 f3 f4
end
end Go.Am
/- What a call brings, read alone from then on. -/
namespace Go.Am
theorem V7 {l : List Nat} {x : Nat} : l.any (Nat.beq x) = true ↔ x ∈ l := by
 rw [List.any_eq_true]
 constructor
 ·rintro ⟨y, hy, h⟩; have := Nat.eq_of_beq_eq_true h; subst this; exact hy
 ·intro h; exact ⟨x, h, Nat.beq_refl x⟩
theorem EE {α : Type} {c : Bool} {x r : α} (h : (bif c then some x else none) = some r) : c = true ∧ x = r := by
 cases c with
 | true => exact ⟨rfl, by simpa using h⟩
 | false => cases h
structure Fzd (nid : Nat) (st st' : List Entry) (gone : List Nat) : Prop where
 ge : ∀ g ∈ gone, nid <= g
 get : ∀ id, get st' id = if id ∈ gone then .dead else get st id
 obj : ∀ g ∈ gone, ∃ sz l, Am.get st g = .obj sz l
theorem Fzd.nil (nid : Nat) (st : List Entry) : Fzd nid st st [] := ⟨by simp, by simp, by simp⟩
theorem Fzd.append {nid : Nat} {st st1 st2 : List Entry} {a b : List Nat} (h : Fzd nid st st1 a) (g : Fzd nid st1 st2 b) : Fzd nid st st2 (a ++ b) := by
 refine ⟨fun x hx => (List.mem_append.1 hx).elim (h.ge x) (g.ge x), fun id => ?_, fun x hx => ?_⟩
 ·rw [g.get, h.get]
  by_cases h1 : id ∈ a <;> by_cases h2 : id ∈ b <;> simp [h1, h2]
 ·rcases List.mem_append.1 hx with hx | hx
  ·exact h.obj x hx
  ·obtain ⟨sz, l, he⟩ := g.obj x hx
   rw [h.get] at he
   split at he
   ·cases he
   ·exact ⟨sz, l, he⟩
def xF (gone : List Nat) (id : Nat) : Option Nat := if id ∈ gone then none else some id
theorem J9 {nid : Nat} {st0 : List Entry} {G : List Nat} : ∀ {cs : List C} {st : List Entry} {x}, fzE prims nid st cs = some x → (∀ id sz l, get st id = .obj sz l → get st0 id = .obj sz l) →
  Fzd nid st x.2.1 x.2.2 ∧ ((∀ g ∈ x.2.2, g ∈ G) → (∀ id ∈ zu x.1, id ∉ G) → All2 (VwR (xF G) st0 (· ∈ G)) cs x.1) := by
 intro cs
 induction cs with
 | nil =>
  intro st x h _
  simp only [fzE, Option.some.injEq] at h
  subst h
  exact ⟨Fzd.nil _ _, fun _ _ => .nil⟩
 | cons c cs ih =>
  intro st x h h0
  simp only [fzE] at h
  obtain ⟨⟨c1, st1, g1⟩, h1, h⟩ := Option.bind_eq_some_iff.1 h
  obtain ⟨⟨cs2, st2, g2⟩, h2, rfl⟩ := Option.map_eq_some_iff.1 h
  simp only at h2 ⊢
  have hst : ∀ id, id ∉ G → xF G id = some id := fun id h => by unfold xF; rw [if_neg h]
  have same : c1 = c → st1 = st → g1 = [] → ((∀ id ∈ zu [c], id ∉ G) → RenR (xF G) c c) →
    Fzd nid st st2 (g1 ++ g2) ∧ ((∀ g ∈ g1 ++ g2, g ∈ G) → (∀ id ∈ zu (c1 :: cs2), id ∉ G) → All2 (VwR (xF G) st0 (· ∈ G)) (c :: cs) (c1 :: cs2)) := by
   rintro rfl rfl rfl hr
   obtain ⟨i1, i2⟩ := ih h2 h0
   refine ⟨by simpa using i1, fun hg hids => .cons (.ren (hr fun id hid => hids id ?_)) (i2 (by simpa using hg) fun id hid => hids id ?_)⟩
   ·rw [wn, List.mem_append]; exact .inl hid
   ·rw [wn, List.mem_append]; exact .inr hid
  cases c with
  | ref id =>
   simp only [fzC] at h1
   cases hb : Nat.blt id nid with
   | true =>
    rw [hb] at h1
    simp only [cond_true, Option.some.injEq, Prod.mk.injEq] at h1
    exact same h1.1.symm h1.2.1.symm h1.2.2.symm fun hids => .s (.ref (hst _ (hids id (by simp [zu]))))
   | false =>
    rw [hb] at h1
    simp only [cond_false] at h1
    split at h1
    ·rename_i sz l hg
     simp only [Option.some.injEq, Prod.mk.injEq] at h1
     obtain ⟨rfl, rfl, rfl⟩ := h1
     have hge : nid <= id := by
      rcases Nat.lt_or_ge id nid with h | h
      ·have : Nat.blt id nid = true := Nat.ble_eq_true_of_le h
       rw [this] at hb; cases hb
      ·exact h
     have ho : Fzd nid st (put st id .dead) [id] := ⟨by simpa using hge, fun i => by rw [zw]; simp, fun g hg' => by simp at hg'; subst hg'; exact ⟨sz, l, hg⟩⟩
     obtain ⟨i1, i2⟩ := ih h2 (fun i z x hi => h0 i z x (by
      rw [zw] at hi
      split at hi
      ·cases hi
      ·exact hi))
     refine ⟨ho.append i1, fun hG hids => .cons (.view (h0 _ _ _ hg) (hG id (by simp))) (i2 (fun g hg => hG g (by simp [hg])) fun i hi => hids i ?_)⟩
     rw [wn, List.mem_append]; exact .inr hi
    ·cases h1
  | nils =>
   simp only [fzC, Option.some.injEq, Prod.mk.injEq] at h1
   obtain ⟨rfl, rfl, rfl⟩ := h1
   obtain ⟨i1, i2⟩ := ih h2 h0
   refine ⟨by simpa using i1, fun hG hids => .cons .nils (i2 (by simpa using hG) fun i hi => hids i ?_)⟩
   rw [wn, List.mem_append]; exact .inr hi
  | ptr id off =>
   simp only [fzC, Option.some.injEq, Prod.mk.injEq] at h1
   exact same h1.1.symm h1.2.1.symm h1.2.2.symm fun hids => .s (.ptr (hst _ (hids id (by simp [zu]))))
  | eptr id i sz off =>
   simp only [fzC, Option.some.injEq, Prod.mk.injEq] at h1
   exact same h1.1.symm h1.2.1.symm h1.2.2.symm fun hids => .s (.eptr (hst _ (hids id (by simp [zu]))))
  | rptr x =>
   simp only [fzC, Option.some.injEq, Prod.mk.injEq] at h1
   exact same h1.1.symm h1.2.1.symm h1.2.2.symm fun hids => .s (.rptr _)
  | fn f caps => simp [fzC] at h1
  | own sz l => simp [fzC] at h1
  | box l => simp [fzC] at h1
  | _ =>
   simp only [fzC, Option.some.injEq, Prod.mk.injEq] at h1
   exact same h1.1.symm h1.2.1.symm h1.2.2.symm fun hids => .s (.plain rfl)
theorem UK {nid : Nat} {st0 : List Entry} {G : List Nat} : ∀ {vs : List (Bool × List C)} {st : List Entry} {x}, fzT prims nid st vs = some x → (∀ id sz l, get st id = .obj sz l → get st0 id = .obj sz l) →
  Fzd nid st x.2.1 x.2.2 ∧ ((∀ g ∈ x.2.2, g ∈ G) → (∀ id ∈ x.1.flatMap (fun y => zu y.2), id ∉ G) → All2 (fun y z => y.1 = z.1 ∧ All2 (VwR (xF G) st0 (· ∈ G)) y.2 z.2) vs x.1) := by
 intro vs
 induction vs with
 | nil =>
  intro st x h _
  simp only [fzT, Option.some.injEq] at h
  subst h
  exact ⟨Fzd.nil _ _, fun _ _ => .nil⟩
 | cons v vs ih =>
  intro st x h h0
  obtain ⟨g, cs⟩ := v
  simp only [fzT] at h
  obtain ⟨y, h1, h⟩ := Option.bind_eq_some_iff.1 h
  obtain ⟨z, h2, rfl⟩ := Option.map_eq_some_iff.1 h
  obtain ⟨a1, a2⟩ := J9 (G := G) h1 h0
  obtain ⟨b1, b2⟩ := ih h2 (fun i sz l hi => h0 i sz l (by
   rw [a1.get] at hi
   split at hi
   ·cases hi
   ·exact hi))
  refine ⟨a1.append b1, fun hG hids => .cons ⟨rfl, a2 (fun g hg => hG g (by simp [hg])) fun id hid => hids id ?_⟩ (b2 (fun g hg => hG g (by simp [hg])) fun id hid => hids id ?_)⟩
  ·simp only [List.flatMap_cons, List.mem_append]; exact .inl hid
  ·simp only [List.flatMap_cons, List.mem_append]; exact .inr hid
section
variable {P : Program} {cfg : Cfg} {a : Act} {o : Oper} {w : World} {cls : Cls} {hdr : Hdr} {vb : Nat → Nat} {st : List Entry} {sl : List (Nat × V)} {k nid : Nat} {v : V}
theorem yp.fz {cls' : Cls} {hdr' : Hdr} {vb' : Nat → Nat} {st1 st2 : List Entry} {G : List Nat} {x : V × List Entry × List Nat} {u : Value}
  (h : fzV prims nid st1 v = some x) (hG : ∀ g ∈ x.2.2, g ∈ G) (hids : ∀ id ∈ zZ x.1, id ∉ G)
  (R : Relab w cls hdr vb st1 cls' hdr' vb' st2 (xF G) False) (hE : ∀ id, yd w cls hdr vb st1 id (get st1 id)) (hgone : ∀ id, id ∈ G → ∀ b s, b < w.heap.size → cls b = some (id :: s) → cls' b = none)
  (hu : yp w cls hdr vb st1 u v) : yp w cls' hdr' vb' st2 u x.1 := by
 cases v with
 | val g cs =>
  obtain ⟨y, hy, rfl⟩ := Option.map_eq_some_iff.1 h
  have hr := (J9 (G := G) hy (fun _ _ _ h => h)).2 hG hids
  obtain ⟨arr, h1, h2⟩ := hu
  exact ⟨arr, zo.vws R hE hgone hr h1, h2⟩
 | tup vs =>
  obtain ⟨y, hy, rfl⟩ := Option.map_eq_some_iff.1 h
  have hr := (UK (G := G) hy (fun _ _ _ h => h)).2 hG hids
  obtain ⟨us, rfl, h2⟩ := hu
  refine ⟨us, rfl, ?_⟩
  clear hy hids h hG
  try simp only at hr
  generalize y.1 = ys at hr
  induction hr generalizing us with
  | nil => cases h2; exact .nil
  | cons h1 _ ih => cases h2 with
   | cons g1 g2 =>
    obtain ⟨arr, q1, q2⟩ := g1
    exact .cons ⟨arr, zo.vws R hE hgone h1.2 q1, by rw [<- h1.1]; exact q2⟩ (ih _ g2)
 | dead =>
  simp only [fzV, Option.some.injEq] at h
  subst h
  trivial
theorem zgs {st1 : List Entry} {ws : List Nat} {r : V × List Entry × List Nat} (hwe : ∀ j, ∀ id ∈ zv (get st j), id < nid) (h : vv P a o w cls hdr vb st nid v st1 ws) (hf : J6 prims cfg nid o.dst (v, st1, ws) = some r) :
  vv P a o w cls hdr vb st nid r.1 r.2.1 r.2.2 := by
 unfold J6 at hf
 cases hw : wanted cfg.own o.dst with
 | true => rw [hw] at hf; simp only [cond_true, Option.some.injEq] at hf; subst hf; exact h
 | false =>
  rw [hw] at hf
  simp only [cond_false] at hf
  obtain ⟨x, hx, hf⟩ := Option.bind_eq_some_iff.1 hf
  obtain ⟨hc, rfl⟩ := EE hf
  simp only [Bool.and_eq_true, List.all_eq_true, Bool.not_eq_true'] at hc
  obtain ⟨⟨c1, c2⟩, c3⟩ := hc
  obtain ⟨v', st2, G⟩ := x
  simp only at c1 c2 c3 ⊢
  have notin : ∀ i, G.any (Nat.beq i) = false → i ∉ G := fun i h hm => by rw [V7.2 hm] at h; cases h
  have hG : ∀ g ∈ G, g ∈ ws := fun g hg => V7.1 (c1 g hg)
  have fzd : Fzd nid st1 st2 G := by
   cases v with
   | val g cs =>
    obtain ⟨y, hy, he⟩ := Option.map_eq_some_iff.1 hx
    have := (J9 (G := G) (st0 := st1) hy (fun _ _ _ h => h)).1
    simp only [Prod.mk.injEq] at he
    obtain ⟨_, e2⟩ := he
    rw [e2] at this; exact this
   | tup vs =>
    obtain ⟨y, hy, he⟩ := Option.map_eq_some_iff.1 hx
    have := (UK (G := G) (st0 := st1) hy (fun _ _ _ h => h)).1
    simp only [Prod.mk.injEq] at he
    obtain ⟨_, e2⟩ := he
    rw [e2] at this; exact this
   | dead =>
    simp only [fzV, Option.some.injEq, Prod.mk.injEq] at hx
    obtain ⟨_, rfl, rfl⟩ := hx
    exact Fzd.nil _ _
  have hst : ∀ id, id ∉ G → xF G id = some id := fun id h => by unfold xF; rw [if_neg h]
  have hst' : ∀ id id', xF G id = some id' → id' = id ∧ id ∉ G := fun id id' h => by
   unfold xF at h
   split at h
   ·cases h
   ·rename_i hn; injection h with h; exact ⟨h.symm, hn⟩
  intro next Q hn
  refine h next Q fun u w' cls' hdr' vb' kp rv re fr => ?_
  have hent : ∀ id id', xF G id = some id' → kA (xF G) False (get st1 id) (get st2 id') := fun id id' hs => by
   obtain ⟨rfl, hid⟩ := hst' id id' hs
   rw [fzd.get, if_neg hid]
   cases hg : get st1 id' with
   | var cs =>
    refine ⟨?_, fun h => h.elim⟩
    have hids : ∀ i ∈ zu cs, i ∉ G := fun i hi => by
     by_cases hw : id' ∈ ws
     ·have := c2 id' hw i (by rw [fzd.get, if_neg hid, hg]; exact hi)
      exact notin i this
     ·have h1 := fr.ent id' hw
      rw [hg] at h1
      have := hwe id' i (by rw [<- h1]; exact hi)
      intro hm
      have := fzd.ge i hm
      omega
    have hno : ∀ (cs : List C) (arr : List Value), All2 (zo w' cls' hdr' vb' st1) arr cs → (∀ i ∈ zu cs, i ∉ G) → All2 (RenR (xF G)) cs cs := by
     intro cs arr h
     induction h with
     | nil => intro _; exact .nil
     | cons hh ht ih =>
      rename_i x c xs cs
      intro hi
      have hi1 : ∀ i ∈ zu [c], i ∉ G := fun i him => hi i (by rw [wn, List.mem_append]; exact .inl him)
      refine .cons ?_ (ih fun i him => hi i (by rw [wn, List.mem_append]; exact .inr him))
      have capsOk : ∀ (vs : List Value) (caps : List C), All2 (YQ w' cls' hdr' vb' st1) vs caps → (∀ i ∈ y5 caps, i ∉ G) → All2 (RenS (xF G)) caps caps := by
       intro vs caps h
       induction h with
       | nil => intro _; exact .nil
       | cons hh ht ih =>
        rename_i y c ys caps
        intro hi
        refine .cons ?_ (ih fun i him => hi i ?_)
        ·cases c with
         | ref id => exact .ref (hst _ (hi id (by simp [y5])))
         | ptr id off => exact .ptr (hst _ (hi id (by simp [y5])))
         | eptr id i sz off => exact .eptr (hst _ (hi id (by simp [y5])))
         | own sz l => exact hh.elim
         | fn f x => exact hh.elim
         | box l => cases hh
         | rptr x => exact .rptr _
         | _ => exact .plain rfl
        ·cases c <;> simp [y5, him]
      cases c with
      | ref id => exact .s (.ref (hst _ (hi1 id (by simp [zu]))))
      | ptr id off => exact .s (.ptr (hst _ (hi1 id (by simp [zu]))))
      | eptr id i sz off => exact .s (.eptr (hst _ (hi1 id (by simp [zu]))))
      | own sz l => exact (show False from hh).elim
      | box l => cases (show RepC _ _ _ _ _ _ from hh)
      | fn f caps =>
       obtain ⟨vs, _, h2⟩ := hh
       exact .fn (capsOk vs caps h2 fun i him => hi1 i (by simpa [zu] using him))
      | rptr x => exact .s (.rptr _)
      | _ => exact .s (.plain rfl)
    have he := re id'
    rw [hg] at he
    obtain ⟨_, arr, _, hr⟩ := he
    exact hno cs arr hr hids
   | obj sz l => exact ⟨rfl, rfl, fun h => h.elim⟩
   | mp es => exact ⟨rfl, fun h => h.elim⟩
   | hole sz l i hs =>
    refine ⟨rfl, rfl, rfl, All2.of_get rfl fun m y z hy hz => ?_, fun h => h.elim⟩
    rw [hy] at hz
    injection hz with hz
    subst hz
    refine ⟨rfl, ?_⟩
    have hyi : y.2 ∈ zv (.hole sz l i hs) := List.mem_map.2 ⟨y, List.mem_of_getElem? hy, rfl⟩
    generalize y.2 = x at hyi
    refine hst _ ?_
    by_cases hw : id' ∈ ws
    ·exact notin x (c2 id' hw x (by rw [fzd.get, if_neg hid, hg]; exact hyi))
    ·have h1 := fr.ent id' hw
     rw [hg] at h1
     have := hwe id' x (by rw [<- h1]; exact hyi)
     intro hm
     have := fzd.ge x hm
     omega
   | dead => trivial
  have R : Relab w' cls' hdr' vb' st1 (rlC cls' (xF G)) (rlH hdr' (xF G)) (rlV vb' (xF G)) st2 (xF G) False := Relab.of (fun id id' h => by
   obtain ⟨rfl, hid⟩ := hst' id id' h
   exact hst _ hid) hent
  have hgone : ∀ id, id ∈ G → ∀ b s, b < w'.heap.size → cls' b = some (id :: s) → rlC cls' (xF G) b = none := fun id hid b s _ hc => by
   simp [rlC, hc, xF, hid]
  refine hn u w' _ _ _ ?_ (yp.fz hx (fun g hg => hg) (fun id hid => notin id (c3 id hid)) R re hgone rv) (fun id => ?_) ?_
  ·refine ⟨fun b hb hc => ?_, fun id hid cs hg => ?_, fun id hid sz l hg => ?_, kp.size, kp.io⟩
   ·obtain ⟨h1, h2⟩ := kp.ro b hb hc
    exact ⟨h1, by simp [rlC, h2]⟩
   ·rw [fzd.get] at hg
    split at hg
    ·cases hg
    ·rename_i hn'
     obtain ⟨h1, h2⟩ := kp.var id hid cs hg
     exact ⟨h1, by rw [R.vb id id (hst _ hn')]; exact h2⟩
   ·rw [fzd.get] at hg
    split at hg
    ·cases hg
    ·rename_i hn'
     obtain ⟨h1, h2⟩ := kp.obj id hid sz l hg
     exact ⟨h1, by rw [R.hdr id id (hst _ hn') []]; exact h2⟩
  ·by_cases hid : id ∈ G
   ·rw [fzd.get, if_pos hid]; trivial
   ·exact yd.relab R (hst _ hid) (re id)
  ·refine ⟨fun b hb hc => ?_, fun id hid => ?_, fun id hid => ?_, fun id hid s => ?_, fun id hid b s hb hc => ?_⟩
   ·obtain ⟨h1, h2⟩ := fr.hid b hb hc
    exact ⟨h1, by simp [rlC, h2]⟩
   ·rw [fzd.get, if_neg fun h => hid (hG id h)]; exact fr.ent id hid
   ·rw [R.vb id id (hst _ fun h => hid (hG id h))]; exact fr.vb id hid
   ·rw [R.hdr id id (hst _ fun h => hid (hG id h)) s]; exact fr.hdr id hid s
   ·obtain ⟨h1, h2⟩ := fr.blk id hid b s hb hc
    exact ⟨h1, by simp [rlC, h2, hst _ fun h => hid (hG id h)]⟩
end
end Go.Am
/- A store into an element of an own slice. -/
namespace Go.Am
theorem zbx {t : List Nat} {cs : List C} : ∀ {j : Nat} {p}, p ∈ j8 t j cs → p.1 ∈ zu cs ∧ ∃ m, j <= m ∧ m < j + cs.length ∧ p.2 = t ++ [m] := by
  induction cs with
  | nil => intro j p h; simp [j8] at h
  | cons c cs ih =>
    intro j p h
    have step : p ∈ j8 t (j + 1) cs → p.1 ∈ zu (c :: cs) ∧ ∃ m, j <= m ∧ m < j + (c :: cs).length ∧ p.2 = t ++ [m] := fun h => by
      obtain ⟨h1, m, h2, h3, h4⟩ := ih h
      refine ⟨?_, m, by omega, by simp only [List.length_cons]; omega, h4⟩
      cases c <;> simp [zu, h1]
    cases c <;> simp only [j8, List.mem_cons] at h <;> first
      | exact step h
      | (rcases h with rfl | h
         · exact ⟨by simp [zu], j, Nat.le_refl _, by simp, rfl⟩
         · exact step h)
section
variable {P : Program} {cfg : Cfg} {a : Act} {o : Oper} {w : World} {cls : Cls} {hdr : Hdr} {vb : Nat → Nat} {st : List Entry} {sl : List (Nat × V)} {k nid : Nat} {v : V} {st' : List Entry} {ws : List Nat}
theorem MT (T : TOk P cfg) (sim : Sim w cls hdr vb st sl a.tmps) {t : TypeId} {x y : Operand} {i : TI} {cs : List C} {id j sz off : Nat} (ho : o.op = .store t x y) (hi : cfg.T t = some i) (hx : zq ⟨sl, st, k⟩ x = some (.eptr id j sz off)) (hy : (S.ev ⟨sl, st, k⟩ y).cells = some cs)
  (hwf : ∀ z ∈ zu cs, z < nid) (hid : id < nid) (h : Wm prims ⟨sl, st, k⟩ i cs (.eptr id j sz off) = some (v, st', ws)) : yr P a o w cls hdr vb st nid v st' ws := by
 simp only [Wm] at h
 cases hg : get st id with
 | obj s0 l =>
  rw [hg] at h
  simp only [prims] at h
  split at h
  ·rename_i e he
   split at h
   ·rename_i hc
    obtain ⟨rfl, hel, hcl, hle⟩ := hc
    obtain ⟨⟨cs1, st1, ks⟩, h1, h2⟩ := Option.bind_eq_some_iff.1 h
    simp only at h2
    cases hck : ks.contains id with
    | true => rw [hck] at h2; simp at h2
    | false =>
     rw [hck] at h2
     simp only [Bool.false_eq_true, if_false, Option.some.injEq, Prod.mk.injEq] at h2
     obtain ⟨rfl, rfl, rfl⟩ := h2
     have hnk : id ∉ ks := by simpa using hck
     obtain ⟨e1, e2, e3, e4, e5, e6⟩ := MP [id, j] off h1
     generalize hps : j8 [id, j] off cs = ps at *
     have hin : ∀ p ∈ ps, p.1 ∈ zu cs ∧ ∃ m, off <= m ∧ m < off + cs.length ∧ p.2 = [id, j, m] := fun p hp => by
      rw [<- hps] at hp; exact zbx hp
     have hm : Mvs ps 3 := ⟨by rw [<- e1]; exact e2, by rw [<- hps]; exact UH off, fun p hp => by obtain ⟨_, m, _, _, h⟩ := hin p hp; rw [h]; rfl⟩
     have hkin : ∀ z ∈ ks, z ∈ zu cs := fun z hz => by
      rw [e1] at hz
      obtain ⟨p, hp, rfl⟩ := List.mem_map.1 hz
      exact (hin p hp).1
     have himg : ∀ x z, mvR ps x = some z → ∃ m s, off <= m ∧ m < off + cs.length ∧ z = id :: j :: m :: s := fun x z hx => by
      cases x with
      | nil => simp [mvR] at hx
      | cons q s =>
       simp only [mvR] at hx
       obtain ⟨t', ht, rfl⟩ := Option.map_eq_some_iff.1 hx
       obtain ⟨_, m, m1, m2, e⟩ := hin _ (Xs ht)
       simp only at e
       exact ⟨m, s, m1, m2, by rw [e]; rfl⟩
     have hnone : ∀ q s, q ∉ ks → mvR ps (q :: s) = none := fun q s hq => by
      simp only [mvR, UG (by rw [<- e1]; exact hq), Option.map_none]
     have hE := sim.ent id
     rw [hg] at hE
     obtain ⟨A, n, cap, hh, hn, hnc, hs, hb⟩ := qU hE
     have hlt : j < l.length := (List.getElem?_eq_some_iff.1 he).1
     obtain ⟨A2, n2, cap2, hh2, hu⟩ := (z5 sim hx).2.1 l.length (by rw [hg]; rfl) hlt
     rcases hb with ⟨_, h0, _⟩ | ⟨q, arr, rfl, hsp, hqc, hB, hcap, hcells⟩
     ·omega
     ·rw [hh] at hh2
      injection hh2 with hq _ _
      injection hq with hq
      subst hq
      obtain ⟨new, hnew, hr⟩ := Ln sim hy
      have hl1 := hr.length
      have hjs : (j + 1) * s0 <= cap * s0 := Nat.mul_le_mul_right _ (by omega)
      rw [Nat.add_mul] at hjs
      obtain ⟨w', g1, g2, g3, g4, g5⟩ := V6 (T t i hi) hnew (by omega) (fun v hv => by
       obtain ⟨p, hp, rfl⟩ := List.mem_iff_getElem.1 hv
       obtain ⟨c, _, hcr⟩ := hr.getL (List.getElem?_eq_getElem hp)
       exact hcr.simple) q.block (q.off + (j * s0 + off)) hB (by omega)
      have hrun : (execOp a.eval o).run P w = .ok .skip w' := by
       simp only [execOp, ho, Instr.storeAt, Sem.run_bind, hu, Instr.sureAddr, Sem.run_pure, Result.andThen_ok, g1]
      have hblk : ∀ b x, cls b = some x → x ≠ [id] → w'.heap[b]? = w.heap[b]? := fun b x hb hne => g3 b fun e => by
       subst e; rw [hqc] at hb; injection hb with hb; exact hne hb.symm
      have hblk0 : ∀ b, cls b = none → w'.heap[b]? = w.heap[b]? := fun b hb => g3 b fun e => by
       subst e; rw [hqc] at hb; cases hb
      have hst : ∀ z, get (put st1 id (.obj s0 (l.set j (e.take off ++ cs1 ++ e.drop (off + i.size))))) z = if z = id then .obj s0 (l.set j (e.take off ++ cs1 ++ e.drop (off + i.size))) else if z ∈ ks then .dead else get st z := fun z => by
       rw [zw, e4]
      generalize hl' : l.set j (e.take off ++ cs1 ++ e.drop (off + i.size)) = l' at hst
      generalize hst' : put st1 id (Entry.obj s0 l') = st' at hst
      rw [<- hl'] at hst'
      have hlen' : l'.length = l.length := by rw [<- hl']; simp
      have hH : ∀ z, (∀ m s, off <= m → m < off + cs.length → z ≠ id :: j :: m :: s) → mvH hdr (mvR ps) z = hdr z := fun z hz => Wr fun x hx => by
       obtain ⟨m, s, m1, m2, e⟩ := himg x z hx
       exact hz m s m1 m2 e
      have hC : ∀ b x, cls b = some x → mvR ps x = none → mvC cls (mvR ps) b = some x := fun b x hb hx => by simp [mvC, hb, hx]
      have kp : Keep w cls hdr vb st w' (mvC cls (mvR ps)) (mvH hdr (mvR ps)) vb st' (fun z => ¬ (z ∈ ks ++ [id] ∧ nid <= z)) := by
       refine ⟨fun b hb hc => ⟨hblk0 b hc, by simp [mvC, hc]⟩, fun z hz c hgz => ?_, fun z hz s1 x hgz => ?_, by omega, g5⟩
       ·rw [hst] at hgz
        split at hgz
        ·cases hgz
        ·split at hgz
         ·cases hgz
         ·exact ⟨⟨c, hgz⟩, rfl⟩
       ·rw [hst] at hgz
        split at hgz
        ·rename_i ez
         subst ez
         simp only [shape, Option.some.injEq, Prod.mk.injEq] at hgz
         obtain ⟨z1, z2⟩ := hgz
         subst z1
         refine ⟨⟨l.length, by rw [hg]; rfl, by rw [<- z2, hlen']; exact Nat.le_refl _⟩, hH _ fun m s _ _ e => by simp at e⟩
        ·split at hgz
         ·cases hgz
         ·rename_i ez _
          exact ⟨⟨x, hgz, Nat.le_refl _⟩, hH _ fun m s _ _ e => by simp at e⟩
      have allok : ∀ z, ¬ (z ∈ ks ++ [id] ∧ nid <= z) := fun z hz => by
       obtain ⟨z1, z2⟩ := hz
       rcases List.mem_append.1 z1 with z1 | z1
       ·have := hwf z (hkin z z1); omega
       ·simp at z1; omega
      refine ⟨undef, w', _, _, vb, .inr ⟨hrun, rfl⟩, kp, trivial, fun z => ?_, ?_⟩
      ·rw [hst]
       split
       ·rename_i ez
        subst ez
        show RepC w' _ _ (some [z]) (mvH hdr (mvR ps) [z]) (.own s0 l')
        rw [hH [z] fun m s _ _ e => by simp at e]
        have harr : ∀ i' j' e' c, l'[i']? = some e' → e'[j']? = some c → ∃ u, (arr.toList.take (q.off + (j * s0 + off)) ++ new ++ arr.toList.drop (q.off + (j * s0 + off) + i.size)).toArray[q.off + (i' * s0 + j')]? = some u ∧ RepC w' (mvC cls (mvR ps)) (mvH hdr (mvR ps)) (some [z, i', j']) u c := by
         intro i' j' e' c hi' hj'
         have hil : i' < l.length := by rw [<- hlen']; exact (List.getElem?_eq_some_iff.1 hi').1
         -- an old cell that xF
         have old : ∀ e0 c0, l[i']? = some e0 → e0[j']? = some c0 → j' < s0 → (i' ≠ j ∨ j' < off ∨ off + i.size <= j') → ∃ u, (arr.toList.take (q.off + (j * s0 + off)) ++ new ++ arr.toList.drop (q.off + (j * s0 + off) + i.size)).toArray[q.off + (i' * s0 + j')]? = some u ∧ RepC w' (mvC cls (mvR ps)) (mvH hdr (mvR ps)) (some [z, i', j']) u c0 := by
          intro e0 c0 he0 hc0 hj0 hout
          obtain ⟨us, u1, u2, u3⟩ := hcells i' e0 he0
          have hu1 : us[j']? = some us[j'] := List.getElem?_eq_getElem (by omega)
          refine ⟨us[j'], ?_, (u3 j' _ c0 hu1 hc0).stay (fun s => hnone _ _ hnk) (fun b hb hx => ?_) (fun _ _ => rfl) fun s => hH _ fun m s' m1 m2 e => ?_⟩
          ·have hcell := u2 j' _ hu1
           have hsz : q.off + (i' * s0 + j') < arr.size := (Array.getElem?_eq_some_iff.1 hcell).1
           rw [List.getElem?_toArray]
           have hpos : q.off + (i' * s0 + j') < q.off + (j * s0 + off) ∨ q.off + (j * s0 + off) + i.size <= q.off + (i' * s0 + j') := by
            rcases Nat.lt_trichotomy i' j with h | h | h
            ·have : (i' + 1) * s0 <= j * s0 := Nat.mul_le_mul_right _ h
             rw [Nat.add_mul] at this; omega
            ·subst h
             rcases hout with h | h | h
             ·exact (h rfl).elim
             ·omega
             ·omega
            ·have : (j + 1) * s0 <= i' * s0 := Nat.mul_le_mul_right _ h
             rw [Nat.add_mul] at this; omega
           rcases hpos with hp | hp
           ·rw [List.append_assoc, List.getElem?_append_left (by simp; omega), List.getElem?_take_of_lt hp, Array.getElem?_toList]
            exact hcell
           ·rw [List.getElem?_append_right (by simp; omega), List.getElem?_drop, Array.getElem?_toList, <- hcell]
            congr 1
            simp; omega
          ·rcases hx with hn | ⟨s, hx⟩
           ·exact hblk0 b hn
           ·exact hblk b _ hx (by simp)
          ·simp only [List.cons_append, List.nil_append, List.cons.injEq, true_and] at e
           obtain ⟨r1, r2, _⟩ := e
           rcases hout with h | h | h <;> omega
         by_cases hij : i' = j
         ·subst hij
          rw [<- hl', List.getElem?_set_self hlt] at hi'
          injection hi' with hi'
          subst hi'
          have hlen : (e.take off ++ cs1 ++ e.drop (off + i.size)).length = s0 := by simp; omega
          have hjs0 : j' < s0 := by
           have := (List.getElem?_eq_some_iff.1 hj').1; omega
          by_cases hlo : j' < off
          ·rw [List.append_assoc, List.getElem?_append_left (by simp; omega), List.getElem?_take_of_lt hlo] at hj'
           exact old e c he hj' hjs0 (.inr (.inl hlo))
          ·by_cases hhi : off + i.size <= j'
           ·rw [List.getElem?_append_right (by simp; omega), List.getElem?_drop] at hj'
            refine old e c he ?_ hjs0 (.inr (.inr hhi))
            rw [<- hj']; congr 1; simp; omega
           ·have hm : ∃ m, j' = off + m ∧ m < i.size := ⟨j' - off, by omega, by omega⟩
            obtain ⟨m, rfl, hmi⟩ := hm
            rw [List.append_assoc, List.getElem?_append_right (by simp; omega), List.getElem?_append_left (by simp; omega)] at hj'
            rw [show off + m - (e.take off).length = m by simp; omega] at hj'
            have hc0 : cs[m]? = some (cs[m]'(by omega)) := List.getElem?_eq_getElem (by omega)
            obtain ⟨u, hu0, hur⟩ := hr.get hc0
            refine ⟨u, ?_, ?_⟩
            ·have hasz : q.off + (i' * s0 + off) + i.size <= arr.size := by omega
             rw [List.getElem?_toArray, List.append_assoc, List.getElem?_append_right (by simp; omega), List.getElem?_append_left (by simp; omega), <- hu0]
             congr 1; simp; omega
            ·rcases e6 m _ hc0 with ⟨zm, z1, z2, hcm, hgz, hy1, hmem⟩ | ⟨hp, hy1⟩
             ·rw [hy1] at hj'
              injection hj' with hj'
              subst hj'
              have hEz := sim.ent zm
              rw [hgz] at hEz
              have hEz : RepC w cls hdr (some [zm]) (hdr [zm]) (.own z1 z2) := hEz
              rw [hcm] at hur
              have huz : u = hdr [zm] := hur.2 (z1, z2.length) (by rw [hgz]; rfl)
              rw [huz]
              have htg : ∀ s, mvR ps ([zm] ++ s) = some ([z, i', off + m] ++ s) := fun s => by
               simp only [List.cons_append, List.nil_append, mvR, Lq hm hmem, Option.map_some]
              have hzne : zm ≠ z := fun ez => by
               have : zm ∈ ks := by rw [e1]; exact List.mem_map.2 ⟨_, hmem, rfl⟩
               rw [ez] at this; exact hnk this
              refine hEz.mv htg (fun b hb hx => ?_) (fun _ _ => rfl) fun s => J8 hm.inj (htg s)
              rcases hx with hn | ⟨s, hx⟩
              ·exact hblk0 b hn
              ·exact hblk b _ hx (by simp only [List.cons_append, List.nil_append, ne_eq, List.cons.injEq]; rintro ⟨h, _⟩; exact hzne h)
             ·rw [hy1] at hj'
              injection hj' with hj'
              subst hj'
              exact (hur.to hp).free (fun b hb hn => hblk0 b hn) fun _ _ => rfl
         ·rw [<- hl', List.getElem?_set_ne (by omega)] at hi'
          have hjs0 : j' < s0 := by
           have h1 := (List.getElem?_eq_some_iff.1 hj').1
           have h2 := hs e' (List.mem_of_getElem? hi')
           omega
          exact old e' c hi' hj' hjs0 (.inl hij)
        rw [hh]
        refine RepC.own [z] (some q) n cap s0 l' (fun i' j' => ((arr.toList.take (q.off + (j * s0 + off)) ++ new ++ arr.toList.drop (q.off + (j * s0 + off) + i.size)).toArray[q.off + (i' * s0 + j')]?).getD undef) ?_ (by rw [hlen', hn]) hnc (fun e' he' => ?_) (.inr ⟨q, _, rfl, hsp, ?_, g2, ?_, fun i' j' e' c h1 h2 => ?_⟩) fun i' j' e' c h1 h2 => ?_
        ·rw [hH [z] fun m s _ _ e => by simp at e, hh]
        ·rw [<- hl'] at he'
         rcases List.mem_or_eq_of_mem_set he' with he' | rfl
         ·exact hs e' he'
         ·simp; omega
        ·exact hC _ _ hqc (hnone _ _ hnk)
        ·simp; omega
        ·obtain ⟨u, hu, _⟩ := harr i' j' e' c h1 h2
         rw [hu]; rfl
        ·obtain ⟨u, hu, hr⟩ := harr i' j' e' c h1 h2
         simp only [hu, Option.getD_some]
         exact hr
       ·rename_i hne
        split
        ·trivial
        ·rename_i hk
         refine yd.keep kp (fun i hi => allok i) (fun b s hb hc => ⟨hblk b _ hc (by simp only [ne_eq, List.cons.injEq]; rintro ⟨h, _⟩; exact hne h), hC b _ hc (hnone z s hk)⟩) (fun s => hH _ fun m s' _ _ e => ?_) rfl (sim.ent z)
         injection e with e _
         exact hne e
      ·skip
       have hout : ∀ z, z ∉ ks ++ [id] → z ≠ id ∧ z ∉ ks := fun z hz => by
        simp only [List.mem_append, List.mem_singleton, not_or] at hz
        exact ⟨hz.2, hz.1⟩
       refine ⟨fun b hb hc => ⟨hblk b _ hc (by simp), hC b _ hc rfl⟩, fun z hz => ?_, fun _ _ => rfl, fun z hz s => hH _ fun m s' _ _ e => ?_, fun z hz b s hb hc => ⟨hblk b _ hc ?_, hC b _ hc (hnone z s (hout z hz).2)⟩⟩
       ·rw [hst, if_neg (hout z hz).1, if_neg (hout z hz).2]
       ·injection e with e _
        exact (hout z hz).1 e
       ·simp only [ne_eq, List.cons.injEq]; rintro ⟨h, _⟩; exact (hout z hz).1 h
   ·cases h
  ·cases h
 | var old =>
  rw [hg] at h
  simp only [prims] at h
  split at h
  ·rename_i hcl
   obtain ⟨y', h1, h2⟩ := Option.map_eq_some_iff.1 h
   simp only [Prod.mk.injEq] at h2
   obtain ⟨rfl, rfl, rfl⟩ := h2
   split at h1
   ·rename_i hle
    injection h1 with h1
    subst h1
    rw [hcl] at hle ⊢
    exact Tv T sim ho hi ((z5 sim hx).2.2 old hg) hy hg hcl hle hid
   ·cases h1
  ·cases h
 | _ => rw [hg] at h; cases h
end
end Go.Am
/- An own part of an element is taken out of its slice, to be lent, and goes back. -/
namespace Go.Am
def mvL (t0 t1 : List Nat) : List Nat → Option (List Nat) := fun x => if t0 <+: x then some (t1 ++ x.drop t0.length) else none
theorem MU (t0 t1 s : List Nat) : mvL t0 t1 (t0 ++ s) = some (t1 ++ s) := by
 unfold mvL
 rw [if_pos (List.prefix_append _ _)]
 simp
theorem Ob (t0 t1 : List Nat) : Inj (mvL t0 t1) := by
 intro x y z hx hy
 unfold mvL at hx hy
 split at hx
 ·rename_i h1
  split at hy
  ·rename_i h2
   obtain ⟨a, rfl⟩ := h1
   obtain ⟨b, rfl⟩ := h2
   simp at hx hy
   rw [<- hy] at hx
   rw [List.append_cancel_left hx]
  ·cases hy
 ·cases hx
theorem Od {t0 t1 x z : List Nat} (h : mvL t0 t1 x = some z) : ∃ s, z = t1 ++ s := by
 unfold mvL at h
 split at h
 ·injection h with h; exact ⟨_, h.symm⟩
 ·cases h
theorem T7 {t0 t1 x : List Nat} (h : ∀ s, x ≠ t0 ++ s) : mvL t0 t1 x = none := by
 unfold mvL
 rw [if_neg]
 rintro ⟨s, rfl⟩
 exact h s rfl
section
variable {P : Program} {cfg : Cfg} {a : Act} {o : Oper} {w : World} {cls : Cls} {hdr : Hdr} {vb : Nat → Nat} {st : List Entry} {sl : List (Nat × V)} {k nid : Nat} {v : V} {st' : List Entry} {ws : List Nat}
theorem Oe {cls' : Cls} {hdr' : Hdr} {id sz i off : Nat} {l : List (List C)} {e : List C} {H : Value} {x : C} (h : RepC w cls hdr (some [id]) H (.own sz l)) (he : l[i]? = some e) (hoff : off < e.length)
  (hcl : ∀ b s, b < w.heap.size → cls b = some (id :: s) → (∀ s', s ≠ i :: off :: s') → cls' b = some (id :: s)) (hro : ∀ b, b < w.heap.size → cls b = none → cls' b = none)
  (hd : ∀ s, (∀ s', s ≠ i :: off :: s') → hdr' (id :: s) = hdr (id :: s))
  (hx : ∀ u c, e[off]? = some c → RepC w cls hdr (some [id, i, off]) u c → (∀ (q : Addr) n cap arr, H = .slice (some q) n cap → Blk sz w q.block arr → arr[q.off + (i * sz + off)]? = some u) → RepC w cls' hdr' (some [id, i, off]) u x) : RepC w cls' hdr' (some [id]) H (.own sz (l.set i (e.set off x))) := by
 have hlt : i < l.length := (List.getElem?_eq_some_iff.1 he).1
 cases h with
 | nown => simp at hlt
 | own _ A n cap _ _ us hh hn hc hs hblk hrep =>
  have old : ∀ (i' j' : Nat) e' c, (l.set i (e.set off x))[i']? = some e' → e'[j']? = some c → (i' = i ∧ j' = off ∧ c = x ∧ e[off]? = some (e[off]'hoff)) ∨ ∃ e0, l[i']? = some e0 ∧ e0[j']? = some c ∧ ¬ (i' = i ∧ j' = off) := by
   intro i' j' e' c h1 h2
   by_cases hi : i' = i
   ·subst hi
    rw [List.getElem?_set_self hlt] at h1
    injection h1 with h1
    subst h1
    by_cases hj : j' = off
    ·subst hj
     rw [List.getElem?_set_self hoff] at h2
     injection h2 with h2
     exact .inl ⟨rfl, rfl, h2.symm, by simp⟩
    ·rw [List.getElem?_set_ne (fun e => hj e.symm)] at h2
     exact .inr ⟨e, he, h2, fun h => hj h.2⟩
   ·rw [List.getElem?_set_ne (fun e => hi e.symm)] at h1
    exact .inr ⟨e', h1, h2, fun h => hi h.1⟩
  refine .own [id] A n cap sz _ us ?_ (by simpa using hn) hc (fun e' he' => ?_) ?_ (fun i' j' e' c h1 h2 => ?_)
  ·rw [hd [] (by simp)]; exact hh
  ·rcases List.mem_or_eq_of_mem_set he' with he' | rfl
   ·exact hs e' he'
   ·rw [List.length_set]; exact hs e (List.mem_of_getElem? he)
  ·rcases hblk with h | ⟨q, arr, rfl, hsp, hqc, hB, hle, hcells⟩
   ·exact .inl h
   ·refine .inr ⟨q, arr, rfl, hsp, hcl _ [] hB.lt hqc (by simp), hB, hle, fun i' j' e' c h1 h2 => ?_⟩
    rcases old i' j' e' c h1 h2 with ⟨rfl, rfl, _, h4⟩ | ⟨e0, h3, h4, _⟩
    ·exact hcells _ _ _ _ he h4
    ·exact hcells _ _ _ _ h3 h4
  ·rcases old i' j' e' c h1 h2 with ⟨rfl, rfl, rfl, h4⟩ | ⟨e0, h3, h4, hne⟩
   ·refine hx _ _ h4 (hrep _ _ _ _ he h4) fun q2 n2 cap2 arr2 hH hB2 => ?_
    injection hH with hA _ _
    rcases hblk with ⟨h, _, _⟩ | ⟨q, arr, rfl, hsp, hqc, hB, hle, hcells⟩
    ·rw [h] at hA; cases hA
    ·injection hA with hA
     subst hA
     obtain ⟨E1, f1, hE1, _⟩ := hB
     obtain ⟨E2, f2, hE2, _⟩ := hB2
     rw [hE1] at hE2
     injection hE2 with hE2
     injection hE2 with hE2 _ _
     subst hE2
     exact hcells _ _ _ _ he h4
   ·refine (hrep _ _ _ _ h3 h4).move (fun b hb hn => ⟨rfl, hro b hb hn⟩) fun t ht => ?_
    injection ht with ht
    subst ht
    have hn' : ∀ s s' : List Nat, (i' :: j' :: s) ≠ i :: off :: s' := fun s s' e => by
     injection e with e1 e2
     injection e2 with e2 _
     exact hne ⟨e1, e2⟩
    exact ⟨[id, i', j'], rfl, fun s => hd _ (hn' s), fun b s hb hc => ⟨rfl, hcl b _ hb hc (hn' s)⟩⟩
theorem EF (T : TOk P cfg) (sim : Sim w cls hdr vb st sl a.tmps) {t : TypeId} {x : Operand} {i : TI} {c : C} (ho : o.op = .load t x) (hi : cfg.T t = some i) (hx : zq ⟨sl, st, k⟩ x = some c)
  (hwf : ∀ z ∈ zu [c], z < nid) (hfr : nid ∈ ws → Fresh sl st nid) (h : Qg prims ⟨sl, st, k⟩ i nid c = some (v, st', ws)) : yr P a o w cls hdr vb st nid v st' ws := by
 cases c with
 | eptr id j sz off =>
  simp only [Qg] at h
  cases hg : get st id with
  | obj s0 l =>
   rw [hg] at h
   simp only [prims] at h
   obtain ⟨e, he, h⟩ := Option.bind_eq_some_iff.1 h
   split at h
   ·rename_i sz' l' hoe
    cases hck : Nat.beq s0 sz && Nat.beq e.length sz && Nat.beq i.size 1 && !i.agg with
    | false => rw [hck] at h; cases h
    | true =>
     rw [hck] at h
     simp only [cond_true, Option.some.injEq, Prod.mk.injEq] at h
     obtain ⟨rfl, rfl, rfl⟩ := h
     simp only [Bool.and_eq_true, Bool.not_eq_true'] at hck
     obtain ⟨⟨⟨z1, z2⟩, z3⟩, z4⟩ := hck
     have z1 := Nat.eq_of_beq_eq_true z1
     have z2 := Nat.eq_of_beq_eq_true z2
     have z3 := Nat.eq_of_beq_eq_true z3
     subst z1
     have fr := hfr (by simp)
     have hidlt : id < nid := hwf id (by simp [zu])
     have hne : id ≠ nid := by omega
     have hlt : j < l.length := (List.getElem?_eq_some_iff.1 he).1
     have hoff : off < e.length := (List.getElem?_eq_some_iff.1 hoe).1
     have hE := sim.ent id
     rw [hg] at hE
     have hE0 : RepC w cls hdr (some [id]) (hdr [id]) (.own s0 l) := hE
     obtain ⟨A, n, cap, hh, hn, hnc, hs, hb⟩ := qU hE
     obtain ⟨q, n', cap', hh', hu⟩ := (z5 sim hx).2.1 l.length (by rw [hg]; rfl) hlt
     rcases hb with ⟨_, h0, _⟩ | ⟨q2, arr, rfl, hsp, hqc, hB, hle2, hcells⟩
     ·omega
     ·rw [hh] at hh'
      injection hh' with hq _ _
      injection hq with hq
      subst hq
      obtain ⟨us, hul, huc, hur⟩ := hcells j e he
      have hu0 : us[off]? = some (us[off]'(by omega)) := by simp
      generalize us[off]'(by omega) = u at hu0
      have hcell := huc off u hu0
      have hrep := hur off u _ hu0 hoe
      -- the value that is loaded
      have hld : (execOp a.eval o).run P w = .ok (.value u) w := by
       obtain ⟨r, h1, h2⟩ := Qr (w := w) (T t i hi) ⟨q2.block, q2.off + (j * s0 + off), none⟩ [u] (by simp [z3]) (fun m y hm => by
        cases m with
        | zero =>
         simp at hm
         subst hm
         rw [Blk.cell (a := ⟨q2.block, _, none⟩) hB rfl]
         exact hcell
        | succ m => simp at hm) (.inr rfl)
       rw [z4] at h2
       simp only [Bool.false_eq_true, if_false] at h2
       injection h2 with h2
       subst h2
       simp [execOp, ho, hu, Instr.loadAt, Instr.sureAddr, h1]
      have hus : Am.simple u = true := hrep.simple
      have husl : ∃ A n cap, u = .slice A n cap := by
       cases hrep with
       | nown => exact ⟨_, _, _, rfl⟩
       | own => exact ⟨_, _, _, rfl⟩
      generalize hr : mvL [id, j, off] [nid] = r
      have hrat : ∀ s, r ([id, j, off] ++ s) = some ([nid] ++ s) := fun s => by rw [<- hr]; exact MU _ _ _
      have hrno : ∀ x, (∀ s, x ≠ id :: j :: off :: s) → r x = none := fun x hx => by rw [<- hr]; exact T7 hx
      have himg : ∀ x z, r x = some z → ∃ s, z = nid :: s := fun x z hx => by rw [<- hr] at hx; exact Od hx
      generalize hhd : (fun x => if x = [nid] then u else mvH hdr r x) = hdr'
      have hd0 : hdr' [nid] = u := by rw [<- hhd]; simp
      have hdo : ∀ z s, z ≠ nid → hdr' (z :: s) = hdr (z :: s) := fun z s hz => by
       rw [<- hhd]
       simp only
       rw [if_neg (fun e => by injection e with e _; exact hz e)]
       exact Wr fun y hy => by
        obtain ⟨s', e⟩ := himg _ _ hy
        injection e with e _
        exact hz e
      have hdn : ∀ s, s ≠ [] → hdr' (nid :: s) = hdr (id :: j :: off :: s) := fun s hs => by
       rw [<- hhd]
       simp only
       rw [if_neg (fun e => by injection e with _ e; exact hs e)]
       have hinj : Inj r := by rw [<- hr]; exact Ob _ _
       exact J8 hinj (hrat s)
      have hcl : ∀ b z s, cls b = some (z :: s) → (z ≠ id ∨ ∀ s', s ≠ j :: off :: s') → mvC cls r b = some (z :: s) := fun b z s hc hz => by
       have : r (z :: s) = none := hrno _ fun s' e => by
        injection e with e1 e2
        rcases hz with h | h
        ·exact h e1
        ·exact h s' e2
       simp [mvC, hc, this]
      have hst : ∀ z, get (put (put st id (.hole s0 l j [(off, nid)])) nid (.obj sz' l')) z = if z = nid then .obj sz' l' else if z = id then .hole s0 l j [(off, nid)] else get st z := fun z => by
       rw [zw, zw]
      generalize put (put st id (.hole s0 l j [(off, nid)])) nid (.obj sz' l') = st2 at hst
      have kp : Keep w cls hdr vb st w (mvC cls r) hdr' vb st2 (fun z => ¬ (z ∈ [id, nid] ∧ nid <= z)) := by
       refine ⟨fun b hb hc => ⟨rfl, by simp [mvC, hc]⟩, fun z hz c hgz => ?_, fun z hz y m hgz => ?_, Nat.le_refl _, rfl, rfl, rfl⟩
       ·rw [hst] at hgz
        split at hgz
        ·cases hgz
        ·split at hgz
         ·cases hgz
         ·exact ⟨⟨c, hgz⟩, rfl⟩
       ·have hzn : z ≠ nid := fun e => hz ⟨by simp [e], by omega⟩
        rw [hst, if_neg hzn] at hgz
        refine ⟨?_, hdo z [] hzn⟩
        split at hgz
        ·rename_i e
         subst e
         rw [hg]
         exact ⟨m, hgz, Nat.le_refl _⟩
        ·exact ⟨m, hgz, Nat.le_refl _⟩
      have okf : ∀ z, z ≠ nid → ¬ (z ∈ [id, nid] ∧ nid <= z) := fun z hz h => by
       obtain ⟨h1, h2⟩ := h
       simp at h1
       omega
      refine ⟨u, w, mvC cls r, hdr', vb, .inl hld, kp, zo.val ⟨hus, fun _ _ => hd0.symm⟩, fun z => ?_, ?_⟩
      ·rw [hst]
       split
       ·rename_i e'
        subst e'
        show RepC w (mvC cls r) hdr' (some [z]) (hdr' [z]) (.own sz' l')
        rw [hd0]
        have hrat' : ∀ s, r ([id, j, off] ++ s) = some ([z] ++ s) := hrat
        cases hrep with
        | nown => exact .nown _ _
        | own _ A n cap _ _ us2 hh2 hn2 hc2 hs2 hblk2 hrep2 =>
         refine .own [z] A n cap sz' l' us2 hd0 hn2 hc2 hs2 ?_ (fun i' j' e' c h1 h2 => (hrep2 i' j' e' c h1 h2).mv (t' := [z, i', j']) (r := r) (fun s => ?_) (fun b hb _ => rfl) (fun b _ => rfl) fun s => ?_)
         ·rcases hblk2 with h | ⟨q3, arr3, rfl, g1, g2, g3, g4, g5⟩
          ·exact .inl h
          ·refine .inr ⟨q3, arr3, rfl, g1, ?_, g3, g4, g5⟩
           have := hrat []
           rw [List.append_nil, List.append_nil] at this
           simp [mvC, g2, this]
         ·have := hrat ([i', j'] ++ s)
          simpa using this
         ·have := hdn ([i', j'] ++ s) (by simp)
          simpa using this
       ·split
        ·rename_i hzn e'
         subst e'
         refine ⟨e, [u], he, ?_, .cons ⟨hoff, hus, fun p hp => hd0.symm⟩ .nil⟩
         show RepC w (mvC cls r) hdr' (some [z]) (hdr' [z]) (.own s0 (l.set j (e.set off (.raw u))))
         rw [hdo z [] hzn]
         exact Oe hE0 he hoff (fun b s hb hc hs => hcl b z s hc (.inr hs)) (fun b hb hc => by simp [mvC, hc]) (fun s hs => hdo z s hzn) fun u1 c1 hc1 hr1 hcl1 => by
          have : u1 = u := by
           have h1 := hcl1 _ _ _ arr hh hB
           rw [hcell] at h1
           injection h1 with h1
           exact h1.symm
          rw [this]
          exact .raw _ _ hus
        ·rename_i hzn hzi
         refine yd.keep kp (fun m hm => okf m fun e => ?_) (fun b s hb hc => ⟨rfl, hcl b z s hc (.inl hzi)⟩) (fun s => hdo z s hzn) rfl (sim.ent z)
         subst e
         exact fr.var z hm
      ·have out : ∀ z, z ∉ [id, nid] → z ≠ id ∧ z ≠ nid := fun z hz => by simpa using hz
       refine ⟨fun b hb hc => ⟨rfl, ?_⟩, fun z hz => ?_, fun _ _ => rfl, fun z hz s => hdo z s (out z hz).2, fun z hz b s hb hc => ⟨rfl, hcl b z s hc (.inl (out z hz).1)⟩⟩
       ·have : r [] = none := hrno _ (by simp)
        simp [mvC, hc, this]
       ·rw [hst, if_neg (out z hz).2, if_neg (out z hz).1]
   ·cases h
  | _ => rw [hg] at h; cases h
 | _ => simp [Qg] at h
theorem T8 : ∀ (e : List C) (hs : List (Nat × Nat)) (vs : List Value), (w4 e hs vs).length = e.length
 | e, [], vs => by simp [w4]
 | e, x :: hs, [] => by simp [w4]
 | e, x :: hs, v :: vs => by simp only [w4, List.length_set]; exact T8 e hs vs
theorem MV {p : Nat} : ∀ (e : List C) (hs : List (Nat × Nat)) (vs : List Value), (∀ x ∈ hs, x.1 ≠ p) → (w4 e hs vs)[p]? = e[p]?
 | e, [], vs, _ => by simp [w4]
 | e, x :: hs, [], _ => by simp [w4]
 | e, x :: hs, v :: vs, h => by
  simp only [w4]
  rw [List.getElem?_set_ne (h x List.mem_cons_self)]
  exact MV e hs vs fun y hy => h y (List.mem_cons_of_mem _ hy)
theorem MW {p : Nat} {c : C} : ∀ (e : List C) (hs : List (Nat × Nat)) (vs : List Value), (∀ x ∈ hs, x.1 ≠ p) → w4 (e.set p c) hs vs = (w4 e hs vs).set p c
 | e, [], vs, _ => by simp [w4]
 | e, x :: hs, [], _ => by simp [w4]
 | e, x :: hs, v :: vs, h => by
  simp only [w4]
  rw [MW e hs vs fun y hy => h y (List.mem_cons_of_mem _ hy)]
  exact List.set_comm _ _ (fun e => h x List.mem_cons_self e.symm)
theorem EG (hE : ∀ z, yd w cls hdr vb st z (get st z)) {id s0 j n p sz' nn cap : Nat} {hs : List (Nat × Nat)} {l l' : List (List C)} {e : List C} {q : Addr} {arr : Array Value} {u : Value}
  (hg : get st id = .hole s0 l j hs) (he : l[j]? = some e) (hoe : e[p]? = some (.own sz' l')) (hp : ∀ x ∈ hs, x.1 ≠ p) (hpn : ∀ x ∈ hs, x.2 ≠ n) (hne : id ≠ n) (hv : ∀ z, n ∉ zv (get st z))
  (hh : hdr [id] = .slice (some q) nn cap) (hB : Blk s0 w q.block arr) (hu : arr[q.off + (j * s0 + p)]? = some u) {st2 : List Entry} (h2 : st2 = put (put st id (.hole s0 l j ((p, n) :: hs))) n (.obj sz' l')) :
  ∃ cls' hdr', Keep w cls hdr vb st w cls' hdr' vb st2 (fun z => z ≠ n) ∧ (∀ z, yd w cls' hdr' vb st2 z (get st2 z)) ∧ Frm w cls hdr vb st w cls' hdr' vb st2 [id, n] ∧ hdr' [n] = u ∧ hdr' [id] = hdr [id] ∧ Am.simple u = true := by
 have hlt : j < l.length := (List.getElem?_eq_some_iff.1 he).1
 have hoff : p < e.length := (List.getElem?_eq_some_iff.1 hoe).1
 have hEi := hE id
 rw [hg] at hEi
 obtain ⟨e2, vs, he2, hR, h5⟩ := hEi
 rw [he] at he2
 injection he2 with he2
 subst he2
 have hRg : (l.set j (w4 e hs vs))[j]? = some (w4 e hs vs) := List.getElem?_set_self hlt
 have hRp : (w4 e hs vs)[p]? = some (.own sz' l') := by rw [MV e hs vs hp]; exact hoe
 have hRl : p < (w4 e hs vs).length := by rw [T8]; exact hoff
 have hrep : RepC w cls hdr (some [id, j, p]) u (.own sz' l') := by
  have hR2 := hR
  generalize hH : hdr [id] = H at hR2
  rw [hh] at hH
  generalize hL : l.set j (w4 e hs vs) = L at hR2
  rw [hL] at hRg
  cases hR2 with
  | nown => cases hH
  | own _ A n2 cap2 _ _ us hh2 hn2 hc2 hs2 hblk hrep2 =>
   injection hH with hA _ _
   rcases hblk with ⟨h0, _⟩ | ⟨q2, arr2, h0, hsp, hcl, hB2, hle, hcells⟩
   ·rw [h0] at hA; cases hA
   ·rw [h0] at hA
    injection hA with hA
    subst hA
    obtain ⟨E1, f1, hE1, _⟩ := hB
    obtain ⟨E2, f2, hE2, _⟩ := hB2
    rw [hE1] at hE2
    injection hE2 with hE2
    injection hE2 with hE2 _ _
    subst hE2
    have := hcells j p _ _ hRg hRp
    rw [hu] at this
    injection this with this
    rw [this]
    exact hrep2 j p _ _ hRg hRp
 have hus : Am.simple u = true := hrep.simple
 generalize hr : mvL [id, j, p] [n] = r
 have hrat : ∀ s, r ([id, j, p] ++ s) = some ([n] ++ s) := fun s => by rw [<- hr]; exact MU _ _ _
 have hrno : ∀ x, (∀ s, x ≠ id :: j :: p :: s) → r x = none := fun x hx => by rw [<- hr]; exact T7 hx
 have himg : ∀ x z, r x = some z → ∃ s, z = n :: s := fun x z hx => by rw [<- hr] at hx; exact Od hx
 generalize hhd : (fun x => if x = [n] then u else mvH hdr r x) = hdr'
 have hd0 : hdr' [n] = u := by rw [<- hhd]; simp
 have hdo : ∀ z s, z ≠ n → hdr' (z :: s) = hdr (z :: s) := fun z s hz => by
  rw [<- hhd]
  simp only
  rw [if_neg (fun e => by injection e with e _; exact hz e)]
  exact Wr fun y hy => by
   obtain ⟨s', e⟩ := himg _ _ hy
   injection e with e _
   exact hz e
 have hdn : ∀ s, s ≠ [] → hdr' (n :: s) = hdr (id :: j :: p :: s) := fun s hs => by
  rw [<- hhd]
  simp only
  rw [if_neg (fun e => by injection e with _ e; exact hs e)]
  have hinj : Inj r := by rw [<- hr]; exact Ob _ _
  exact J8 hinj (hrat s)
 have hcl : ∀ b z s, cls b = some (z :: s) → (z ≠ id ∨ ∀ s', s ≠ j :: p :: s') → mvC cls r b = some (z :: s) := fun b z s hc hz => by
  have : r (z :: s) = none := hrno _ fun s' e => by
   injection e with e1 e2
   rcases hz with h | h
   ·exact h e1
   ·exact h s' e2
  simp [mvC, hc, this]
 have hst : ∀ z, get st2 z = if z = n then .obj sz' l' else if z = id then .hole s0 l j ((p, n) :: hs) else get st z := fun z => by
  rw [h2, zw, zw]
 have kp : Keep w cls hdr vb st w (mvC cls r) hdr' vb st2 (fun z => z ≠ n) := by
  refine ⟨fun b hb hc => ⟨rfl, by simp [mvC, hc]⟩, fun z hz c hgz => ?_, fun z hz y m hgz => ?_, Nat.le_refl _, rfl, rfl, rfl⟩
  ·rw [hst] at hgz
   split at hgz
   ·cases hgz
   ·split at hgz
    ·cases hgz
    ·exact ⟨⟨c, hgz⟩, rfl⟩
  ·rw [hst, if_neg hz] at hgz
   refine ⟨?_, hdo z [] hz⟩
   split at hgz
   ·rename_i e
    subst e
    rw [hg]
    exact ⟨m, hgz, Nat.le_refl _⟩
   ·exact ⟨m, hgz, Nat.le_refl _⟩
 refine ⟨mvC cls r, hdr', kp, fun z => ?_, ?_, hd0, hdo id [] hne, hus⟩
 ·rw [hst]
  split
  ·rename_i e'
   subst e'
   show RepC w (mvC cls r) hdr' (some [z]) (hdr' [z]) (.own sz' l')
   rw [hd0]
   have hrat' : ∀ s, r ([id, j, p] ++ s) = some ([z] ++ s) := hrat
   cases hrep with
   | nown => exact .nown _ _
   | own _ A n cap _ _ us2 hh2 hn2 hc2 hs2 hblk2 hrep2 =>
    refine .own [z] A n cap sz' l' us2 hd0 hn2 hc2 hs2 ?_ (fun i' j' e' c h1 h2 => (hrep2 i' j' e' c h1 h2).mv (t' := [z, i', j']) (r := r) (fun s => ?_) (fun b hb _ => rfl) (fun b _ => rfl) fun s => ?_)
    ·rcases hblk2 with h | ⟨q3, arr3, rfl, g1, g2, g3, g4, g5⟩
     ·exact .inl h
     ·refine .inr ⟨q3, arr3, rfl, g1, ?_, g3, g4, g5⟩
      have := hrat []
      rw [List.append_nil, List.append_nil] at this
      simp [mvC, g2, this]
    ·have := hrat ([i', j'] ++ s)
     simpa using this
    ·have := hdn ([i', j'] ++ s) (by simp)
     simpa using this
  ·split
   ·rename_i hzn e'
    subst e'
    refine ⟨e, u :: vs, he, ?_, .cons ⟨hoff, hus, fun p hp => hd0.symm⟩ (h5.mono fun v x hx hr => ⟨hr.1, hr.2.1, fun y hy => ?_⟩)⟩
    ·show RepC w (mvC cls r) hdr' (some [z]) (hdr' [z]) (.own s0 (l.set j ((w4 e hs vs).set p (.raw u))))
     rw [hdo z [] hzn]
     have := Oe (cls' := mvC cls r) (hdr' := hdr') (x := .raw u) hR hRg hRl (fun b s hb hc hs => hcl b z s hc (.inr hs)) (fun b hb hc => by simp [mvC, hc]) (fun s hs => hdo z s hzn) fun u1 c1 hc1 hr1 hcl1 => by
      have : u1 = u := by
       have h1 := hcl1 _ _ _ arr hh hB
       rw [hu] at h1
       injection h1 with h1
       exact h1.symm
      rw [this]
      exact .raw _ _ hus
     rwa [List.set_set] at this
    ·have hxn := hpn x hx
     rw [hst, if_neg hxn] at hy
     rw [hdo _ [] hxn]
     refine hr.2.2 y ?_
     split at hy
     ·rename_i e'
      rw [e', hg]
      exact hy
     ·exact hy
   ·rename_i hzn hzi
    exact yd.keep kp (fun m hm e => by subst e; exact hv z hm) (fun b s hb hc => ⟨rfl, hcl b z s hc (.inl hzi)⟩) (fun s => hdo z s hzn) rfl (hE z)
 ·have out : ∀ z, z ∉ [id, n] → z ≠ id ∧ z ≠ n := fun z hz => by simpa using hz
  refine ⟨fun b hb hc => ⟨rfl, ?_⟩, fun z hz => ?_, fun _ _ => rfl, fun z hz s => hdo z s (out z hz).2, fun z hz b s hb hc => ⟨rfl, hcl b z s hc (.inl (out z hz).1)⟩⟩
  ·have : r [] = none := hrno _ (by simp)
   simp [mvC, hc, this]
  ·rw [hst, if_neg (out z hz).2, if_neg (out z hz).1]
theorem Frm.mono {w' : World} {cls' : Cls} {hdr' : Hdr} {vb' : Nat → Nat} {ws' : List Nat} (h : Frm w cls hdr vb st w' cls' hdr' vb' st' ws) (hs : ∀ i ∈ ws, i ∈ ws') : Frm w cls hdr vb st w' cls' hdr' vb' st' ws' :=
 ⟨h.hid, fun i hi => h.ent i fun e => hi (hs i e), fun i hi => h.vb i fun e => hi (hs i e), fun i hi => h.hdr i fun e => hi (hs i e), fun i hi => h.blk i fun e => hi (hs i e)⟩
theorem Frm.then {w1 w2 : World} {cls1 cls2 : Cls} {hdr1 hdr2 : Hdr} {vb1 vb2 : Nat → Nat} {st1 st2 : List Entry} {ws1 ws2 : List Nat} (hs : w.heap.size <= w1.heap.size)
  (h : Frm w cls hdr vb st w1 cls1 hdr1 vb1 st1 ws1) (g : Frm w1 cls1 hdr1 vb1 st1 w2 cls2 hdr2 vb2 st2 ws2) : Frm w cls hdr vb st w2 cls2 hdr2 vb2 st2 (ws2 ++ ws1) := by
 have o1 : ∀ id, id ∉ ws2 ++ ws1 → id ∉ ws1 := fun id h e => h (List.mem_append.2 (.inr e))
 have o2 : ∀ id, id ∉ ws2 ++ ws1 → id ∉ ws2 := fun id h e => h (List.mem_append.2 (.inl e))
 refine ⟨fun b hb hc => ?_, fun id hid => ?_, fun id hid => ?_, fun id hid s => ?_, fun id hid b s hb hc => ?_⟩
 ·obtain ⟨a1, a2⟩ := h.hid b hb hc
  obtain ⟨b1, b2⟩ := g.hid b (Nat.lt_of_lt_of_le hb hs) a2
  exact ⟨b1.trans a1, b2⟩
 ·rw [g.ent id (o2 id hid), h.ent id (o1 id hid)]
 ·rw [g.vb id (o2 id hid), h.vb id (o1 id hid)]
 ·rw [g.hdr id (o2 id hid) s, h.hdr id (o1 id hid) s]
 ·obtain ⟨a1, a2⟩ := h.blk id (o1 id hid) b s hb hc
  obtain ⟨b1, b2⟩ := g.blk id (o2 id hid) b s (Nat.lt_of_lt_of_le hb hs) a2
  exact ⟨b1.trans a1, b2⟩
theorem Lt {id s0 j : Nat} {l : List (List C)} : ∀ (cs : List C) (nid p : Nat) (y : List C × List (Nat × Nat) × List Entry), YB st id s0 l j nid p cs = some y → (∀ x ∈ y.2.1, nid <= x.2) ∧ ∀ i ∈ zu y.1, nid <= i := by
 intro cs
 induction cs with
 | nil => intro nid p y hy; simp only [YB, Option.some.injEq] at hy; subst hy; simp [zu]
 | cons c r ih =>
  intro nid p y hy
  by_cases hown : ∃ sz x, c = .own sz x
  ·obtain ⟨sz, x, rfl⟩ := hown
   simp only [YB] at hy
   obtain ⟨y1, h1, rfl⟩ := Option.map_eq_some_iff.1 hy
   obtain ⟨g1, g2⟩ := ih _ _ _ h1
   refine ⟨fun x hx => ?_, fun i hi => ?_⟩
   ·rcases List.mem_cons.1 hx with rfl | hx
    ·exact Nat.le_refl _
    ·have := g1 x hx; omega
   ·simp only [zu, List.mem_cons] at hi
    rcases hi with rfl | hi
    ·exact Nat.le_refl _
    ·have := g2 i hi; omega
  ·have hy : (bif plain c then (YB st id s0 l j nid (p + 1) r).map fun y => (c :: y.1, y.2.1, y.2.2) else none) = some y := by
    cases c <;> first | exact hy | exact (hown ⟨_, _, rfl⟩).elim
   cases hpl : plain c with
   | false => rw [hpl] at hy; cases hy
   | true =>
    rw [hpl] at hy
    simp only [cond_true] at hy
    obtain ⟨y1, h1, rfl⟩ := Option.map_eq_some_iff.1 hy
    obtain ⟨g1, g2⟩ := ih _ _ _ h1
    refine ⟨g1, fun i hi => g2 i ?_⟩
    cases c <;> first | exact hi | (simp [plain] at hpl)
theorem zby (hE : ∀ z, yd w cls hdr vb st z (get st z)) {id s0 j nn cap : Nat} {l : List (List C)} {e : List C} {q : Addr} {arr : Array Value}
  (hg : get st id = .obj s0 l) (he : l[j]? = some e) (hh : hdr [id] = .slice (some q) nn cap) (hB : Blk s0 w q.block arr)
  {us : List Value} (hul : us.length = s0) (hes : e.length = s0) (hus : ∀ (m : Nat) u, us[m]? = some u → arr[q.off + (j * s0 + m)]? = some u) (hur : ∀ (m : Nat) u c, us[m]? = some u → e[m]? = some c → RepC w cls hdr (some [id, j, m]) u c) :
  ∀ (cs : List C) (nid p : Nat) (y : List C × List (Nat × Nat) × List Entry), YB st id s0 l j nid p cs = some y → (∀ (m : Nat) c, cs[m]? = some c → e[p + m]? = some c) → id < nid →
   (∀ x ∈ y.2.1, ∀ z, x.2 ∉ zv (get st z)) →
   ∃ cls' hdr', Keep w cls hdr vb st w cls' hdr' vb y.2.2 (fun z => z ∉ y.2.1.map (·.2)) ∧ (∀ z, yd w cls' hdr' vb y.2.2 z (get y.2.2 z)) ∧ Frm w cls hdr vb st w cls' hdr' vb y.2.2 (id :: y.2.1.map (·.2)) ∧
    hdr' [id] = hdr [id] ∧ get y.2.2 id = .hole s0 l j y.2.1 ∧ (∀ x ∈ y.2.1, nid <= x.2 ∧ p <= x.1) ∧ (∀ z, ∀ i ∈ zv (get y.2.2 z), i ∈ zv (get st z) ∨ i ∈ y.2.1.map (·.2)) ∧
    ∃ vs : List Value, vs.length = cs.length ∧ (∀ (m : Nat) v, vs[m]? = some v → us[p + m]? = some v) ∧ All2 (zo w cls' hdr' vb y.2.2) vs y.1 := by
 intro cs
 induction cs with
 | nil =>
  intro nid p y hy _ hlt _
  simp only [YB, Option.some.injEq] at hy
  subst hy
  have hst : ∀ z, get (put st id (.hole s0 l j [])) z = if z = id then .hole s0 l j [] else get st z := fun z => zw _ _ _ _
  have kp : Keep w cls hdr vb st w cls hdr vb (put st id (.hole s0 l j [])) (fun z => z ∉ ([] : List (Nat × Nat)).map (·.2)) := by
   refine ⟨fun b hb hc => ⟨rfl, hc⟩, fun z hz c hgz => ?_, fun z hz y m hgz => ?_, Nat.le_refl _, rfl, rfl, rfl⟩
   ·rw [hst] at hgz
    split at hgz
    ·cases hgz
    ·exact ⟨⟨c, hgz⟩, rfl⟩
   ·rw [hst] at hgz
    refine ⟨?_, rfl⟩
    split at hgz
    ·rename_i e'
     subst e'
     rw [hg]
     exact ⟨m, hgz, Nat.le_refl _⟩
    ·exact ⟨m, hgz, Nat.le_refl _⟩
  refine ⟨cls, hdr, kp, fun z => ?_, ?_, rfl, by simp only; rw [hst, if_pos rfl], by simp, fun z i hi => ?_, [], rfl, by simp, .nil⟩
  ·simp only
   rw [hst]
   split
   ·rename_i e'
    subst e'
    have h := hE z
    rw [hg] at h
    have h : RepC w cls hdr (some [z]) (hdr [z]) (.own s0 l) := h
    refine ⟨e, [], he, ?_, .nil⟩
    show RepC w cls hdr (some [z]) (hdr [z]) (.own s0 (l.set j e))
    have : l.set j e = l := by
     apply List.ext_getElem?
     intro i
     rw [List.getElem?_set]
     split
     ·rename_i hi
      subst hi
      rw [if_pos (List.getElem?_eq_some_iff.1 he).1, he]
     ·rfl
    rw [this]
    exact h
   ·exact yd.keep kp (fun _ _ => by simp) (fun b s hb hc => ⟨rfl, hc⟩) (fun s => rfl) rfl (hE z)
  ·refine ⟨fun b hb hc => ⟨rfl, hc⟩, fun z hz => ?_, fun _ _ => rfl, fun z hz s => rfl, fun z hz b s hb hc => ⟨rfl, hc⟩⟩
   simp only
   rw [hst, if_neg (by simpa using hz)]
  ·simp only at hi
   rw [hst] at hi
   split at hi
   ·simp [zv] at hi
   ·exact .inl hi
 | cons c r ih =>
  intro nid p y hy hcs hlt hfr
  have hc0 : e[p]? = some c := by have := hcs 0 c rfl; simpa using this
  have hpe : p < e.length := (List.getElem?_eq_some_iff.1 hc0).1
  have hcr : ∀ (m : Nat) c, r[m]? = some c → e[p + 1 + m]? = some c := fun m c hm => by
   have := hcs (m + 1) c (by simpa using hm)
   rwa [Nat.add_assoc, Nat.add_comm 1 m]
  have hu0 : us[p]? = some (us[p]'(by omega)) := List.getElem?_eq_getElem (by omega)
  generalize us[p]'(by omega) = u at hu0
  by_cases hown : ∃ sz x, c = .own sz x
  ·obtain ⟨sz, x, rfl⟩ := hown
   simp only [YB] at hy
   obtain ⟨y1, h1, rfl⟩ := Option.map_eq_some_iff.1 hy
   obtain ⟨cls1, hdr1, k1, e1, f1, d1, g1, n1, i1, vs, v1, v2, v3⟩ := ih (nid + 1) (p + 1) y1 h1 hcr (by omega) fun x hx z => hfr x (List.mem_cons_of_mem _ hx) z
   have hnn : nid ∉ y1.2.1.map (·.2) := fun hm => by
    obtain ⟨x, hx, e⟩ := List.mem_map.1 hm
    have := (n1 x hx).1
    omega
   obtain ⟨cls2, hdr2, k2, e2, f2, d2, d3, hsu⟩ := EG (n := nid) (p := p) e1 g1 he hc0 (fun x hx e => by have h9 := (n1 x hx).2; rw [e] at h9; omega) (fun x hx e => by have h9 := (n1 x hx).1; rw [e] at h9; omega) (by omega)
    (fun z hm => by
     rcases i1 z nid hm with h | h
     ·exact hfr (p, nid) List.mem_cons_self z h
     ·exact hnn h) (by rw [d1]; exact hh) hB (hus p u hu0) rfl
   have hst : ∀ z, get (put (put y1.2.2 id (.hole s0 l j ((p, nid) :: y1.2.1))) nid (.obj sz x)) z = if z = nid then .obj sz x else if z = id then .hole s0 l j ((p, nid) :: y1.2.1) else get y1.2.2 z := fun z => by
    rw [zw, zw]
   refine ⟨cls2, hdr2, ?_, e2, (f1.then (Nat.le_refl _) f2).mono fun i hi => ?_, by rw [d3, d1], ?_, ?_, fun z i hi => ?_, u :: vs, by simp [v1], fun m v hm => ?_, .cons ⟨hsu, fun _ _ => d2.symm⟩ (v3.mono fun a b hb hr => hr.keep k2 fun i hi => show i ≠ nid from fun e => ?_)⟩
   ·exact k1.trans k2 (fun z hz hm => hz (List.mem_cons_of_mem _ hm)) fun z hz e => hz (by subst e; exact List.mem_cons_self)
   ·simp only [List.mem_append, List.mem_cons, List.map_cons, List.not_mem_nil, or_false] at hi ⊢
    rcases hi with (h | h) | h | h
    ·exact .inl h
    ·exact .inr (.inl h)
    ·exact .inl h
    ·exact .inr (.inr h)
   ·simp only
    rw [hst, if_neg (by omega), if_pos rfl]
   ·intro x hx
    rcases List.mem_cons.1 hx with rfl | hx
    ·exact ⟨Nat.le_refl _, Nat.le_refl _⟩
    ·have := n1 x hx
     omega
   ·simp only at hi
    rw [hst] at hi
    split at hi
    ·cases hi
    ·split at hi
     ·exact .inr hi
     ·rcases i1 z i hi with h | h
      ·exact .inl h
      ·exact .inr (List.mem_cons_of_mem _ h)
   ·cases m with
    | zero =>
     simp only [List.getElem?_cons_zero, Option.some.injEq] at hm
     subst hm
     simpa using hu0
    | succ m =>
     have := v2 m v (by simpa using hm)
     rwa [Nat.add_assoc, Nat.add_comm 1 m] at this
   ·subst e
    have := (Lt r (i + 1) (p + 1) y1 h1).2 i (T3 hb i hi)
    omega
  ·have hy : (bif plain c then (YB st id s0 l j nid (p + 1) r).map fun y => (c :: y.1, y.2.1, y.2.2) else none) = some y := by
    cases c <;> first | exact hy | exact (hown ⟨_, _, rfl⟩).elim
   cases hpl : plain c with
   | false => rw [hpl] at hy; cases hy
   | true =>
    rw [hpl] at hy
    simp only [cond_true] at hy
    obtain ⟨y1, h1, rfl⟩ := Option.map_eq_some_iff.1 hy
    obtain ⟨cls1, hdr1, k1, e1, f1, d1, g1, n1, i1, vs, v1, v2, v3⟩ := ih nid (p + 1) y1 h1 hcr hlt hfr
    have hr : RepC w cls hdr none u c := (hur p u c hu0 hc0).plain hpl
    refine ⟨cls1, hdr1, k1, e1, f1, d1, g1, fun x hx => by have := n1 x hx; omega, i1, u :: vs, by simp [v1], fun m v hm => ?_, .cons (zo.of (hr.keep k1) hpl) v3⟩
    cases m with
    | zero =>
     simp only [List.getElem?_cons_zero, Option.some.injEq] at hm
     subst hm
     simpa using hu0
    | succ m =>
     have := v2 m v (by simpa using hm)
     rwa [Nat.add_assoc, Nat.add_comm 1 m] at this
theorem zbz (T : TOk P cfg) (sim : Sim w cls hdr vb st sl a.tmps) {t : TypeId} {x : Operand} {i : TI} {c : C} (ho : o.op = .load t x) (hi : cfg.T t = some i) (hx : zq ⟨sl, st, k⟩ x = some c)
  (hwf : ∀ z ∈ zu [c], z < nid) (hfr : ∀ id ∈ ws, nid <= id → Fresh sl st id) (h : Rz prims ⟨sl, st, k⟩ i nid c = some (v, st', ws)) : yr P a o w cls hdr vb st nid v st' ws := by
 cases c with
 | eptr id j sz off =>
  simp only [Rz] at h
  cases hg : get st id with
  | obj s0 l =>
   rw [hg] at h
   simp only [prims] at h
   obtain ⟨e, he, h⟩ := Option.bind_eq_some_iff.1 h
   cases hck : Nat.beq s0 sz && Nat.beq e.length sz && Nat.ble (off + i.size) e.length && i.agg with
   | false => rw [hck] at h; cases h
   | true =>
    rw [hck] at h
    simp only [cond_true] at h
    obtain ⟨y, hy, h⟩ := Option.map_eq_some_iff.1 h
    simp only [Prod.mk.injEq] at h
    obtain ⟨rfl, rfl, rfl⟩ := h
    simp only [Bool.and_eq_true] at hck
    obtain ⟨⟨⟨z1, z2⟩, z3⟩, z4⟩ := hck
    have z1 := Nat.eq_of_beq_eq_true z1
    have z2 := Nat.eq_of_beq_eq_true z2
    have z3 := Nat.le_of_ble_eq_true z3
    subst z1
    have hidlt : id < nid := hwf id (by simp [zu])
    have hlt : j < l.length := (List.getElem?_eq_some_iff.1 he).1
    have hE := sim.ent id
    rw [hg] at hE
    obtain ⟨A, n, cap, hh, hn, hnc, hs, hb⟩ := qU hE
    obtain ⟨q, n', cap', hh', hu⟩ := (z5 sim hx).2.1 l.length (by rw [hg]; rfl) hlt
    rcases hb with ⟨_, h0, _⟩ | ⟨q2, arr, rfl, hsp, hqc, hB, hle2, hcells⟩
    ·omega
    ·rw [hh] at hh'
     injection hh' with hq _ _
     injection hq with hq
     subst hq
     obtain ⟨us, hul, huc, hur⟩ := hcells j e he
     have hcut : ((e.drop off).take i.size).length = i.size := by simp; omega
     have hmem : ∀ x ∈ y.2.1, nid <= x.2 := (Lt _ _ _ _ hy).1
     obtain ⟨cls1, hdr1, k1, e1, f1, d1, g1, n1, i1, vs, v1, v2, v3⟩ := zby sim.ent hg he hh hB hul (hs e (List.mem_of_getElem? he)) huc hur _ nid off y hy (fun m c hm => by
      rw [List.getElem?_take] at hm
      split at hm
      ·rwa [List.getElem?_drop] at hm
      ·cases hm) hidlt (fun x hx z => (hfr x.2 (List.mem_cons_of_mem _ (List.mem_map.2 ⟨x, hx, rfl⟩)) (hmem x hx)).var z)
     have hld : ∃ r, (execOp a.eval o).run P w = .ok (.value r) w ∧ r = .agg vs.toArray := by
      obtain ⟨r, h1, h2⟩ := Qr (w := w) (T t i hi) ⟨q2.block, q2.off + (j * s0 + off), none⟩ vs (by rw [v1, hcut]) (fun m u hm => by
       have := huc _ _ (v2 m u hm)
       rw [Blk.cell (a := ⟨q2.block, _, none⟩) hB rfl]
       simp only
       rw [<- this]
       congr 1
       omega) (.inl z4)
      rw [z4] at h2
      simp only [if_true] at h2
      exact ⟨r, by simp [execOp, ho, hu, Instr.loadAt, Instr.sureAddr, h1], h2⟩
     obtain ⟨r, hr1, rfl⟩ := hld
     refine ⟨_, w, cls1, hdr1, vb, .inl hr1, k1.trans (Keep.refl _ _ _ _ _ _) (fun z hz hm => hz ⟨List.mem_cons_of_mem _ hm, ?_⟩) (fun _ h => h), ⟨vs, v3, rfl⟩, e1, f1⟩
     obtain ⟨x, hx, rfl⟩ := List.mem_map.1 hm
     exact hmem x hx
  | _ => rw [hg] at h; cases h
 | _ => simp [Rz] at h
structure Chg (w : World) (cls : Cls) (hdr : Hdr) (vb : Nat → Nat) (st : List Entry) (sl : List (Nat × V)) (tmps : Array Value) (cls1 : Cls) (hdr1 : Hdr) (st1 : List Entry) (G : List Nat) : Prop where
 sim : Sim w cls1 hdr1 vb st1 sl tmps
 keep : Keep w cls hdr vb st w cls1 hdr1 vb st1 (fun _ => True)
 frm : Frm w cls hdr vb st w cls1 hdr1 vb st1 G
 ids : ∀ j, ∀ id ∈ zv (get st1 j), id ∈ zv (get st j)
 dead : ∀ id, get st id = .dead → get st1 id = .dead
 len : st.length <= st1.length ∧ ∀ n, st.length <= n → (∀ id ∈ G, id < n) → st1.length <= n
theorem Kk (st : List Entry) (n : Nat) (e : Entry) : st.length <= (put st n e).length ∧ (put st n e).length <= max st.length (n + 1) := by
 induction st generalizing n with
 | nil =>
  induction n with
  | zero => simp [put]
  | succ n ih => simp only [put, List.length_cons, List.length_nil] at ih ⊢; omega
 | cons x r ih => cases n with
  | zero => simp [put]
  | succ n => have := ih n; simp only [put, List.length_cons]; omega
theorem Bp {tmps : Array Value} (sim : Sim w cls hdr vb st sl tmps) {id : Nat} {x : List Entry × List Nat} (h : UA prims st id = some x) : ∃ cls1 hdr1, Chg w cls hdr vb st sl tmps cls1 hdr1 x.1 x.2 := by
 unfold UA at h
 split at h
 ·rename_i sz l i hs hg
  split at h
  ·rename_i off hh rs
   split at h
   ·rename_i sz' l' hg2
    simp only [prims] at h
    cases hnd : rs.any (fun x => Nat.beq x.1 off) with
    | true => rw [hnd] at h; cases h
    | false =>
    rw [hnd] at h
    simp only [cond_false] at h
    obtain ⟨e1, he1, rfl⟩ := Option.map_eq_some_iff.1 h
    have hnd : ∀ x ∈ rs, x.1 ≠ off := fun x hx e => by
     have := List.any_eq_false.1 hnd x hx
     exact this (by rw [e]; exact Nat.beq_refl _)
    have hne : id ≠ hh := fun e => by rw [e, hg2] at hg; cases hg
    have hE := sim.ent id
    rw [hg] at hE
    obtain ⟨e, vs0, he, hR, h50⟩ := hE
    rw [he] at he1
    injection he1 with he1
    subst he1
    cases h50 with
    | @cons u _ vs _ hu0 h5 =>
    obtain ⟨hoff, hus, hu⟩ := hu0
    have hH := sim.ent hh
    rw [hg2] at hH
    have hH : RepC w cls hdr (some [hh]) (hdr [hh]) (.own sz' l') := hH
    have hu := hu (sz', l'.length) (by rw [hg2]; rfl)
    simp only at hu
    subst hu
    have hlt : i < l.length := (List.getElem?_eq_some_iff.1 he).1
    have hRl : off < (w4 e rs vs).length := by rw [T8]; exact hoff
    have hR : RepC w cls hdr (some [id]) (hdr [id]) (.own sz (l.set i ((w4 e rs vs).set off (.raw (hdr [hh]))))) := hR
    generalize hr : mvL [hh] [id, i, off] = r
    have hrat : ∀ s, r ([hh] ++ s) = some ([id, i, off] ++ s) := fun s => by rw [<- hr]; exact MU _ _ _
    have hrno : ∀ x, (∀ s, x ≠ hh :: s) → r x = none := fun x hx => by rw [<- hr]; exact T7 hx
    have himg : ∀ x z, r x = some z → ∃ s, z = id :: i :: off :: s := fun x z hx => by rw [<- hr] at hx; exact Od hx
    have hinj : Inj r := by rw [<- hr]; exact Ob _ _
    have hdo : ∀ z, (∀ s, z ≠ id :: i :: off :: s) → mvH hdr r z = hdr z := fun z hz => Wr fun y hy => by
     obtain ⟨s', e⟩ := himg _ _ hy
     exact hz s' e
    have hcl : ∀ b z s, cls b = some (z :: s) → z ≠ hh → mvC cls r b = some (z :: s) := fun b z s hc hz => by
     have : r (z :: s) = none := hrno _ fun s' e => by injection e with e _; exact hz e
     simp [mvC, hc, this]
    have hst : ∀ z, get (put (put st hh .dead) id (.hole sz (l.set i (e.set off (.own sz' l'))) i rs)) z = if z = id then .hole sz (l.set i (e.set off (.own sz' l'))) i rs else if z = hh then .dead else get st z := fun z => by
     rw [zw, zw]
    have kp : Keep w cls hdr vb st w (mvC cls r) (mvH hdr r) vb (put (put st hh .dead) id (.hole sz (l.set i (e.set off (.own sz' l'))) i rs)) (fun _ => True) := by
     refine ⟨fun b hb hc => ⟨rfl, by simp [mvC, hc]⟩, fun z _ c hgz => ?_, fun z _ y m hgz => ?_, Nat.le_refl _, rfl, rfl, rfl⟩
     ·rw [hst] at hgz
      split at hgz
      ·cases hgz
      ·split at hgz
       ·cases hgz
       ·exact ⟨⟨c, hgz⟩, rfl⟩
     ·rw [hst] at hgz
      refine ⟨?_, hdo _ (by simp)⟩
      split at hgz
      ·rename_i e'
       subst e'
       simp only [shape, Option.some.injEq, Prod.mk.injEq, List.length_set] at hgz
       obtain ⟨rfl, rfl⟩ := hgz
       exact ⟨l.length, by rw [hg]; rfl, Nat.le_refl _⟩
      ·split at hgz
       ·cases hgz
       ·exact ⟨m, hgz, Nat.le_refl _⟩
    refine ⟨mvC cls r, mvH hdr r, ⟨fun t => yp.keep kp (fun _ _ => trivial) (sim.slot t), fun z => ?_⟩, kp, ?_, fun j z hz => ?_, fun z hz => ?_, ?_⟩
    ·rw [hst]
     split
     ·rename_i e'
      subst e'
      refine ⟨e.set off (.own sz' l'), vs, List.getElem?_set_self hlt, ?_, h5.mono fun v x hx hq => ⟨by rw [List.length_set]; exact hq.1, hq.2.1, fun p hp => ?_⟩⟩
      ·rw [hdo [z] (by simp), MW _ _ _ hnd]
       have hset : (l.set i (e.set off (.own sz' l'))).set i ((w4 e rs vs).set off (.own sz' l')) = (l.set i ((w4 e rs vs).set off (.raw (hdr [hh])))).set i (((w4 e rs vs).set off (.raw (hdr [hh]))).set off (.own sz' l')) := by
        rw [List.set_set, List.set_set, List.set_set]
       rw [hset]
       refine Oe hR (e := (w4 e rs vs).set off (.raw (hdr [hh]))) (by rw [List.getElem?_set_self hlt]) (by rw [List.length_set]; exact hRl) (fun b s hb hc _ => hcl b z s hc hne) (fun b hb hc => by simp [mvC, hc]) (fun s hs => hdo _ fun s' e => by injection e with _ e; exact hs s' e) fun u1 c1 hc1 hr1 _ => ?_
       rw [List.getElem?_set_self hRl] at hc1
       injection hc1 with hc1
       subst hc1
       cases hr1
       refine hH.mv (t' := [z, i, off]) (r := r) hrat (fun b hb _ => rfl) (fun b _ => rfl) fun s => J8 hinj (hrat s)
      ·obtain ⟨⟨n0, g1, _⟩, g2⟩ := kp.obj x.2 trivial p.1 p.2 hp
       rw [g2]
       exact hq.2.2 _ g1
     ·split
      ·trivial
      ·rename_i hzi hzh
       exact yd.keep kp (fun _ _ => trivial) (fun b s hb hc => ⟨rfl, hcl b z s hc hzh⟩) (fun s => hdo _ fun s' e => by injection e with e _; exact hzi e) rfl (sim.ent z)
    ·have out : ∀ z, z ∉ [id, hh] → z ≠ id ∧ z ≠ hh := fun z hz => by simpa using hz
     refine ⟨fun b hb hc => ⟨rfl, ?_⟩, fun z hz => ?_, fun _ _ => rfl, fun z hz s => hdo _ fun s' e => by injection e with e _; exact (out z hz).1 e, fun z hz b s hb hc => ⟨rfl, hcl b z s hc (out z hz).2⟩⟩
     ·have : r [] = none := hrno _ (by simp)
      simp [mvC, hc, this]
     ·rw [hst, if_neg (out z hz).1, if_neg (out z hz).2]
    ·rw [hst] at hz
     split at hz
     ·rename_i e'
      subst e'
      rw [hg]
      exact List.mem_cons_of_mem _ hz
     ·split at hz
      ·cases hz
      ·exact hz
    ·rw [hst]
     split
     ·rename_i e'; subst e'; rw [hg] at hz; cases hz
     ·split
      ·rfl
      ·exact hz
    ·have h1 := Kk st hh .dead
     have h2 := Kk (put st hh .dead) id (.hole sz (l.set i (e.set off (.own sz' l'))) i rs)
     refine ⟨by simp only; omega, fun n hn hG => ?_⟩
     have g1 := hG id (by simp)
     have g2 := hG hh (by simp)
     simp only
     omega
   ·cases h
  ·simp only [Option.some.injEq] at h
   subst h
   have hst : ∀ z, get (put st id (.obj sz l)) z = if z = id then .obj sz l else get st z := fun z => zw _ _ _ _
   have kp : Keep w cls hdr vb st w cls hdr vb (put st id (.obj sz l)) (fun _ => True) := by
    refine ⟨fun b hb hc => ⟨rfl, hc⟩, fun z _ c hgz => ?_, fun z _ y m hgz => ?_, Nat.le_refl _, rfl, rfl, rfl⟩
    ·rw [hst] at hgz
     split at hgz
     ·cases hgz
     ·exact ⟨⟨c, hgz⟩, rfl⟩
    ·rw [hst] at hgz
     refine ⟨?_, rfl⟩
     split at hgz
     ·rename_i e'
      subst e'
      rw [hg]
      exact ⟨m, hgz, Nat.le_refl _⟩
     ·exact ⟨m, hgz, Nat.le_refl _⟩
   refine ⟨cls, hdr, ⟨fun t => yp.keep kp (fun _ _ => trivial) (sim.slot t), fun z => ?_⟩, kp, ?_, fun j z hz => ?_, fun z hz => ?_, ?_⟩
   ·simp only
    rw [hst]
    split
    ·rename_i e'
     subst e'
     have hE := sim.ent z
     rw [hg] at hE
     obtain ⟨e, vs, he, hR, h5⟩ := hE
     cases h5
     show RepC w cls hdr (some [z]) (hdr [z]) (.own sz l)
     have : l.set i (w4 e [] []) = l := by
      apply List.ext_getElem?
      intro m
      rw [List.getElem?_set]
      split
      ·rename_i hm
       subst hm
       rw [if_pos (List.getElem?_eq_some_iff.1 he).1, he]; rfl
      ·rfl
     rw [this] at hR
     exact hR
    ·exact yd.keep kp (fun _ _ => trivial) (fun b s hb hc => ⟨rfl, hc⟩) (fun s => rfl) rfl (sim.ent z)
   ·refine ⟨fun b hb hc => ⟨rfl, hc⟩, fun z hz => ?_, fun _ _ => rfl, fun z hz s => rfl, fun z hz b s hb hc => ⟨rfl, hc⟩⟩
    simp only
    rw [hst, if_neg (by simpa using hz)]
   ·simp only at hz
    rw [hst] at hz
    split at hz
    ·cases hz
    ·exact hz
   ·simp only
    rw [hst]
    split
    ·rename_i e'; subst e'; rw [hg] at hz; cases hz
    ·exact hz
   ·have h1 := Kk st id (.obj sz l)
    refine ⟨h1.1, fun n hn hG => ?_⟩
    have := hG id (by simp)
    simp only
    omega
 ·simp only [Option.some.injEq] at h
  subst h
  exact ⟨cls, hdr, sim, Keep.refl _ _ _ _ _ _, Frm.refl _ _ _ _ _ _, fun _ _ h => h, fun _ h => h, Nat.le_refl _, fun n hn _ => hn⟩
theorem Frm.trans {w1 w2 : World} {cls1 cls2 : Cls} {hdr1 hdr2 : Hdr} {vb1 vb2 : Nat → Nat} {st1 st2 : List Entry} {ws1 ws2 : List Nat} (hs : w.heap.size <= w1.heap.size)
  (h : Frm w cls hdr vb st w1 cls1 hdr1 vb1 st1 ws1) (g : Frm w1 cls1 hdr1 vb1 st1 w2 cls2 hdr2 vb2 st2 ws2) : Frm w cls hdr vb st w2 cls2 hdr2 vb2 st2 (ws2 ++ ws1) := by
 have o1 : ∀ id, id ∉ ws2 ++ ws1 → id ∉ ws1 := fun id h e => h (List.mem_append.2 (.inr e))
 have o2 : ∀ id, id ∉ ws2 ++ ws1 → id ∉ ws2 := fun id h e => h (List.mem_append.2 (.inl e))
 refine ⟨fun b hb hc => ?_, fun id hid => ?_, fun id hid => ?_, fun id hid s => ?_, fun id hid b s hb hc => ?_⟩
 ·obtain ⟨a1, a2⟩ := h.hid b hb hc
  obtain ⟨b1, b2⟩ := g.hid b (Nat.lt_of_lt_of_le hb hs) a2
  exact ⟨b1.trans a1, b2⟩
 ·rw [g.ent id (o2 id hid), h.ent id (o1 id hid)]
 ·rw [g.vb id (o2 id hid), h.vb id (o1 id hid)]
 ·rw [g.hdr id (o2 id hid) s, h.hdr id (o1 id hid) s]
 ·obtain ⟨a1, a2⟩ := h.blk id (o1 id hid) b s hb hc
  obtain ⟨b1, b2⟩ := g.blk id (o2 id hid) b s (Nat.lt_of_lt_of_le hb hs) a2
  exact ⟨b1.trans a1, b2⟩
theorem Bq {tmps : Array Value} : ∀ (ids : List Nat) {cls : Cls} {hdr : Hdr} {st : List Entry} (_ : Sim w cls hdr vb st sl tmps) {x : List Entry × List Nat}, Kd prims ids st = some x → ∃ cls1 hdr1, Chg w cls hdr vb st sl tmps cls1 hdr1 x.1 x.2 := by
 intro ids
 induction ids with
 | nil =>
  intro cls hdr st sim x h
  simp only [Kd, Option.some.injEq] at h
  subst h
  exact ⟨cls, hdr, sim, Keep.refl _ _ _ _ _ _, Frm.refl _ _ _ _ _ _, fun _ _ h => h, fun _ h => h, Nat.le_refl _, fun n hn _ => hn⟩
 | cons id r ih =>
  intro cls hdr st sim x h
  simp only [Kd] at h
  obtain ⟨y, h1, h⟩ := Option.bind_eq_some_iff.1 h
  obtain ⟨z, h2, rfl⟩ := Option.map_eq_some_iff.1 h
  obtain ⟨cls1, hdr1, c1⟩ := Bp sim h1
  obtain ⟨cls2, hdr2, c2⟩ := ih c1.sim h2
  have ft := c1.frm.trans (Nat.le_refl _) c2.frm
  refine ⟨cls2, hdr2, c2.sim, c1.keep.trans c2.keep (fun _ h => h) fun _ h => h, ⟨ft.hid, fun i hi => ft.ent i fun h => hi ?_, fun i hi => ft.vb i fun h => hi ?_, fun i hi => ft.hdr i fun h => hi ?_, fun i hi => ft.blk i fun h => hi ?_⟩, fun j i hi => c1.ids j i (c2.ids j i hi), fun i hi => c2.dead i (c1.dead i hi), Nat.le_trans c1.len.1 c2.len.1, fun n hn hG => ?_⟩
  ·simpa [or_comm] using h
  ·simpa [or_comm] using h
  ·simpa [or_comm] using h
  ·simpa [or_comm] using h
  ·exact c2.len.2 n (c1.len.2 n hn fun i hi => hG i (by simp [hi])) fun i hi => hG i (by simp [hi])
theorem MX {tmps : Array Value} (ids : List Nat) {cls : Cls} {hdr : Hdr} {st : List Entry} (sim : Sim w cls hdr vb st sl tmps) {x : List Entry × List Nat} (h : foldL prims ids st = some x) : ∃ cls1 hdr1, Chg w cls hdr vb st sl tmps cls1 hdr1 x.1 x.2 := Bq _ sim h
theorem Br {tmps : Array Value} (sim : Sim w cls hdr vb st sl tmps) (id : Nat) : ∃ cls1, Chg w cls hdr vb st sl tmps cls1 hdr (R1 prims st id).1 (R1 prims st id).2 := by
 unfold R1
 split
 ·rename_i sz l hg
  generalize hcd : (fun b => match cls b with | some (z :: s) => if z = id ∧ s ≠ [] then none else cls b | c => c) = cls1
  have hcn : ∀ b, cls b = none → cls1 b = none := fun b h => by rw [<- hcd]; simp [h]
  have hce : ∀ b, cls b = some [] → cls1 b = some [] := fun b h => by rw [<- hcd]; simp [h]
  have hco : ∀ b z s, cls b = some (z :: s) → z ≠ id → cls1 b = some (z :: s) := fun b z s h hz => by rw [<- hcd]; simp [h, hz]
  have hct : ∀ b, cls b = some [id] → cls1 b = some [id] := fun b h => by rw [<- hcd]; simp [h]
  have hci : ∀ b s, cls b = some (id :: s) → s ≠ [] → cls1 b = none := fun b s h hs => by rw [<- hcd]; simp [h, hs]
  have hlen : (xX l).length = l.length := V2 l
  have hst : ∀ z, get (put st id (.obj sz (prims.view l))) z = if z = id then .obj sz (xX l) else get st z := fun z => by rw [zw]; rfl
  have kp : Keep w cls hdr vb st w cls1 hdr vb (put st id (.obj sz (prims.view l))) (fun _ => True) := by
   refine ⟨fun b hb hc => ⟨rfl, hcn b hc⟩, fun z _ c hgz => ?_, fun z _ y m hgz => ?_, Nat.le_refl _, rfl, rfl, rfl⟩
   ·rw [hst] at hgz
    split at hgz
    ·cases hgz
    ·exact ⟨⟨c, hgz⟩, rfl⟩
   ·rw [hst] at hgz
    refine ⟨?_, rfl⟩
    split at hgz
    ·rename_i e
     subst e
     simp only [shape, Option.some.injEq, Prod.mk.injEq] at hgz
     obtain ⟨rfl, rfl⟩ := hgz
     exact ⟨l.length, by rw [hg]; rfl, by omega⟩
    ·exact ⟨m, hgz, Nat.le_refl _⟩
  refine ⟨cls1, ⟨fun t => yp.keep kp (fun _ _ => trivial) (sim.slot t), fun z => ?_⟩, kp, ?_, fun j z hz => ?_, fun z hz => ?_, ?_⟩
  ·rw [hst]
   split
   ·rename_i e
    subst e
    have hE := sim.ent z
    rw [hg] at hE
    have hE : RepC w cls hdr (some [z]) (hdr [z]) (.own sz l) := hE
    show RepC w cls1 hdr (some [z]) (hdr [z]) (.own sz (xX l))
    generalize hdr [z] = H at hE
    cases hE with
    | nown => exact .nown _ _
    | own _ A n cap _ _ us hh hn hc hs hblk hrep =>
     refine .own [z] A n cap sz (xX l) us hh (by rw [hlen]; exact hn) hc (KT hs) ?_ fun i j e c h1 h2 => ?_
     ·rcases hblk with h | ⟨q, arr, rfl, g1, g2, g3, g4, g5⟩
      ·exact .inl h
      ·refine .inr ⟨q, arr, rfl, g1, hct _ g2, g3, g4, fun i j e c h1 h2 => ?_⟩
       rw [QQ] at h1
       obtain ⟨e0, h1', rfl⟩ := Option.map_eq_some_iff.1 h1
       rw [Wp] at h2
       obtain ⟨c0, h2', rfl⟩ := Option.map_eq_some_iff.1 h2
       exact g5 i j e0 c0 h1' h2'
     ·rw [QQ] at h1
      obtain ⟨e0, h1', rfl⟩ := Option.map_eq_some_iff.1 h1
      rw [Wp] at h2
      obtain ⟨c0, h2', rfl⟩ := Option.map_eq_some_iff.1 h2
      refine (hrep i j e0 c0 h1' h2').view (fun b hb hc => ⟨rfl, hcn b hc⟩) fun t ht b s hb hc => ?_
      injection ht with ht
      subst ht
      exact ⟨rfl, hci b _ hc (by simp)⟩
   ·rename_i hz
    exact yd.keep kp (fun _ _ => trivial) (fun b s hb hc => ⟨rfl, hco b z s hc hz⟩) (fun s => rfl) rfl (sim.ent z)
  ·refine ⟨fun b hb hc => ⟨rfl, hce b hc⟩, fun z hz => ?_, fun _ _ => rfl, fun _ _ _ => rfl, fun z hz b s hb hc => ⟨rfl, hco b z s hc (by simpa using hz)⟩⟩
   rw [hst, if_neg (by simpa using hz)]
  ·rw [hst] at hz
   split at hz
   ·cases hz
   ·exact hz
  ·rw [hst]
   split
   ·rename_i e; subst e; rw [hg] at hz; cases hz
   ·exact hz
  ·have h1 := Kk st id (.obj sz (prims.view l))
   refine ⟨h1.1, fun n hn hG => ?_⟩
   have := hG id (by simp)
   simp only
   omega
 ·exact ⟨cls, sim, Keep.refl _ _ _ _ _ _, Frm.refl _ _ _ _ _ _, fun _ _ h => h, fun _ h => h, Nat.le_refl _, fun n hn _ => hn⟩
theorem Bs {tmps : Array Value} : ∀ (ids : List Nat) {cls : Cls} {st : List Entry} (_ : Sim w cls hdr vb st sl tmps), ∃ cls1, Chg w cls hdr vb st sl tmps cls1 hdr (WX prims ids st).1 (WX prims ids st).2 := by
 intro ids
 induction ids with
 | nil => intro cls st sim; exact ⟨cls, sim, Keep.refl _ _ _ _ _ _, Frm.refl _ _ _ _ _ _, fun _ _ h => h, fun _ h => h, Nat.le_refl _, fun n hn _ => hn⟩
 | cons id r ih =>
  intro cls st sim
  obtain ⟨cls1, c1⟩ := Br sim id
  obtain ⟨cls2, c2⟩ := ih c1.sim
  have ft := c1.frm.trans (Nat.le_refl _) c2.frm
  simp only [WX]
  refine ⟨cls2, c2.sim, c1.keep.trans c2.keep (fun _ h => h) fun _ h => h, ⟨ft.hid, fun i hi => ft.ent i fun h => hi ?_, fun i hi => ft.vb i fun h => hi ?_, fun i hi => ft.hdr i fun h => hi ?_, fun i hi => ft.blk i fun h => hi ?_⟩, fun j i hi => c1.ids j i (c2.ids j i hi), fun i hi => c2.dead i (c1.dead i hi), Nat.le_trans c1.len.1 c2.len.1, fun n hn hG => ?_⟩
  ·simpa [or_comm] using h
  ·simpa [or_comm] using h
  ·simpa [or_comm] using h
  ·simpa [or_comm] using h
  ·exact c2.len.2 n (c1.len.2 n hn fun i hi => hG i (by simp [hi])) fun i hi => hG i (by simp [hi])
end
end Go.Am
/- append: the old slice's elements and the new ones under one new owner, in place or in a new block. -/
namespace Go.Am
def apR (nid n : Nat) (A B : Option Nat) : List Nat → Option (List Nat)
 | [] => none
 | id :: s => if A = some id then (match s with | [] => some [nid] | i :: s' => if i < n then some (nid :: i :: s') else none)
  else if B = some id then (match s with | [] => none | i :: s' => some (nid :: (n + i) :: s')) else none
theorem Of {nid n : Nat} {A B : Option Nat} : Inj (apR nid n A B) := by
 intro x y z hx hy
 have key : ∀ {x z}, apR nid n A B x = some z → ∃ id s, x = id :: s ∧ ((A = some id ∧ ((s = [] ∧ z = [nid]) ∨ ∃ i s', s = i :: s' ∧ i < n ∧ z = nid :: i :: s')) ∨ (A ≠ some id ∧ B = some id ∧ ∃ i s', s = i :: s' ∧ z = nid :: (n + i) :: s')) := by
  intro x z h
  cases x with
  | nil => simp [apR] at h
  | cons id s =>
   refine ⟨id, s, rfl, ?_⟩
   simp only [apR] at h
   split at h
   ·rename_i hA
    left
    refine ⟨hA, ?_⟩
    cases s with
    | nil => simp at h; exact .inl ⟨rfl, h.symm⟩
    | cons i s' =>
     simp only at h
     split at h
     ·rename_i hi; simp at h; exact .inr ⟨i, s', rfl, hi, h.symm⟩
     ·cases h
   ·rename_i hA
    split at h
    ·rename_i hB
     right
     cases s with
     | nil => simp at h
     | cons i s' => simp at h; exact ⟨hA, hB, i, s', rfl, h.symm⟩
    ·cases h
 obtain ⟨i1, s1, rfl, h1⟩ := key hx
 obtain ⟨i2, s2, rfl, h2⟩ := key hy
 rcases h1 with ⟨a1, h1⟩ | ⟨a1, b1, j1, t1, rfl, e1⟩ <;> rcases h2 with ⟨a2, h2⟩ | ⟨a2, b2, j2, t2, rfl, e2⟩
 ·rw [a1] at a2; injection a2 with a2; subst a2
  rcases h1 with ⟨rfl, e1⟩ | ⟨j1, t1, rfl, l1, e1⟩ <;> rcases h2 with ⟨rfl, e2⟩ | ⟨j2, t2, rfl, l2, e2⟩ <;> rw [e1] at e2 <;> simp at e2
  all_goals first | rfl | (obtain ⟨g1, g2⟩ := e2; rw [g1, g2])
 ·rcases h1 with ⟨rfl, e1⟩ | ⟨j1, t1, rfl, l1, e1⟩ <;> rw [e1] at e2 <;> simp at e2
  omega
 ·rcases h2 with ⟨rfl, e2⟩ | ⟨j2, t2, rfl, l2, e2⟩ <;> rw [e1] at e2 <;> simp at e2
  omega
 ·rw [b1] at b2; injection b2 with b2; subst b2
  rw [e1] at e2; simp at e2
  obtain ⟨e3, rfl⟩ := e2
  have : j1 = j2 := by omega
  rw [this]
theorem Og {nid n : Nat} {A B : Option Nat} : ∀ x z, apR nid n A B x = some z → ∃ s, z = nid :: s := by
 intro x z h
 cases x with
 | nil => simp [apR] at h
 | cons id s =>
  simp only [apR] at h
  split at h
  ·cases s with
   | nil => simp at h; exact ⟨[], h.symm⟩
   | cons i s' =>
    simp only at h
    split at h
    ·simp at h; exact ⟨_, h.symm⟩
    ·cases h
  ·split at h
   ·cases s with
    | nil => simp at h
    | cons i s' => simp at h; exact ⟨_, h.symm⟩
   ·cases h
section
variable {P : Program} {cfg : Cfg} {a : Act} {o : Oper} {w : World} {cls : Cls} {hdr : Hdr} {vb : Nat → Nat} {st : List Entry} {sl : List (Nat × V)} {k nid : Nat} {v : V}
structure ASrc (P : Program) (w : World) (cls : Cls) (hdr : Hdr) (st : List Entry) (size : Nat) (u : Value) (q : List (List C)) (B : Option Nat) (news : List Value) : Prop where
 len : ∀ w' : World, (Builtin.lenOf u).run P w' = .ok q.length w'
 first : ∀ w' : World, w'.heap = w.heap → (Builtin.firstCells size q.length u).run P w' = .ok news.toArray w'
 nlen : news.length = q.length * size
 uni : ∀ e ∈ q, e.length = size
 simple : ∀ v ∈ news, simple v = true
 cell : ∀ (i j : Nat) e c, q[i]? = some e → e[j]? = some c → ∃ v, news[i * size + j]? = some v ∧ ((plain c = true ∧ RepC w cls hdr none v c) ∨ ∃ id, B = some id ∧ RepC w cls hdr (some [id, i, j]) v c)
theorem Kl {sz : Nat} (q : List (List C)) (hs : ∀ e ∈ q, e.length = sz) (f : Nat → Nat → Value) :
  ∃ news : List Value, news.length = q.length * sz ∧ (∀ i j, i < q.length → j < sz → news[i * sz + j]? = some (f i j)) ∧ ∀ m v, news[m]? = some v → ∃ i j, i < q.length ∧ j < sz ∧ m = i * sz + j ∧ v = f i j := by
 refine ⟨(List.range (q.length * sz)).map fun m => f (m / sz) (m % sz), by simp, fun i j hi hj => ?_, fun m v hm => ?_⟩
 ·have : i * sz + j < q.length * sz := by
   have : (i + 1) * sz <= q.length * sz := Nat.mul_le_mul_right _ hi
   rw [Nat.add_mul] at this; omega
  rw [List.getElem?_map, List.getElem?_range this]
  simp only [Option.map_some]
  have h1 : (i * sz + j) / sz = i := by rw [Nat.add_comm, Nat.add_mul_div_right _ _ (by omega), Nat.div_eq_of_lt hj, Nat.zero_add]
  have h2 : (i * sz + j) % sz = j := by rw [Nat.add_comm, Nat.add_mul_mod_self_right, Nat.mod_eq_of_lt hj]
  rw [h1, h2]
 ·have hlt : m < q.length * sz := by
   have := (List.getElem?_eq_some_iff.1 hm).1
   simpa using this
  rw [List.getElem?_map, List.getElem?_range hlt] at hm
  simp only [Option.map_some, Option.some.injEq] at hm
  have hsz : 0 < sz := by
   rcases Nat.eq_zero_or_pos sz with h | h
   ·subst h; simp at hlt
   ·exact h
  exact ⟨m / sz, m % sz, (Nat.div_lt_iff_lt_mul hsz).2 hlt, Nat.mod_lt _ hsz, by rw [Nat.mul_comm]; exact (Nat.div_add_mod _ _).symm, hm.symm⟩
theorem EH (sim : Sim w cls hdr vb st sl a.tmps) {x : Operand} {c : C} {st1 st2 : List Entry} {q : List (List C)} {ks : List Nat} {size : Nat} {fl : Bool} (hsz : 0 < size) (hx : zq ⟨sl, st, k⟩ x = some c)
  (hst1 : ∀ id z l, get st1 id = .obj z l → get st id = .obj z l) (h : Z7 prims fl st1 c = some (q, st2, ks)) (hu : prims.uni size q = true) :
  ∃ news B, ASrc P w cls hdr st size (a.eval x) q B news ∧ ((B = none ∧ ks = [] ∧ st2 = st1) ∨ ∃ id z l, B = some id ∧ ks = [id] ∧ get st1 id = .obj z l ∧ st2 = put st1 id .dead) := by
 have gx := z5 sim hx
 have hs : ∀ e ∈ q, e.length = size := by
  simp only [prims, List.all_eq_true, beq_iff_eq] at hu
  exact hu
 cases c with
 | nils =>
  simp only [Z7, Option.some.injEq, Prod.mk.injEq] at h
  obtain ⟨rfl, rfl, rfl⟩ := h
  refine ⟨[], none, ⟨by rw [gx.nils]; exact fun _ => rfl, by rw [gx.nils]; exact fun _ _ => rfl, by simp, by simp, by simp, by simp⟩, .inl ⟨rfl, rfl, rfl⟩⟩
 | seq l =>
  simp only [Z7, Option.some.injEq, Prod.mk.injEq] at h
  obtain ⟨rfl, rfl, rfl⟩ := h
  obtain ⟨A, cap, sz, hA, hc, hs', hcells⟩ := XJ gx
  cases l with
  | nil =>
   refine ⟨[], none, ⟨by rw [hA]; exact fun _ => rfl, ?_, by simp, by simp, by simp, by simp⟩, .inl ⟨rfl, rfl, rfl⟩⟩
   rw [hA]
   intro w' _
   cases A <;> simp [Builtin.firstCells, loadCells, loadCellsFrom]
  | cons e0 l =>
   have hsz2 : sz = size := by rw [<- hs' e0 (by simp), hs e0 (by simp)]
   subst hsz2
   have he0 : 0 < e0.length := by have := hs e0 (by simp); omega
   obtain ⟨ad, rfl, hsp, _⟩ := hcells 0 0 e0 (e0[0]'he0) rfl (by simp [he0])
   obtain ⟨news, n1, n2, n3⟩ := Kl (e0 :: l) hs (fun i j => (w.cell? (ad.add (i * sz + j))).getD undef)
   have hcell : ∀ i j, i < (e0 :: l).length → j < sz → ∃ e c, (e0 :: l)[i]? = some e ∧ e[j]? = some c ∧ ∃ v, w.cell? (ad.add (i * sz + j)) = some v ∧ RepC w cls hdr none v c := fun i j hi hj => by
    have he := List.getElem?_eq_getElem hi
    have hl := hs _ (List.getElem_mem hi)
    have hc' : ((e0 :: l)[i])[j]? = some (((e0 :: l)[i])[j]'(by omega)) := by simp
    obtain ⟨ad', h1, _, _, v, h2, h3⟩ := hcells i j _ _ he hc'
    injection h1 with h1
    subst h1
    exact ⟨_, _, he, hc', v, h2, h3⟩
   refine ⟨news, none, ⟨by rw [hA]; exact fun _ => rfl, ?_, n1, hs, fun v hv => ?_, fun i j e c hi hj => ?_⟩, .inl ⟨rfl, rfl, rfl⟩⟩
   ·rw [hA]
    simp only [Builtin.firstCells]
    rw [<- n1]
    refine fun w' hw' => run_loadCells_list w' ad news fun m v hm => ?_
    obtain ⟨i, j, hi, hj, rfl, rfl⟩ := n3 m v hm
    obtain ⟨_, _, _, _, v, hv, _⟩ := hcell i j hi hj
    rw [Wo (w := w) (by rw [hw']), hv]; rfl
   ·obtain ⟨m, hm, rfl⟩ := List.mem_iff_getElem.1 hv
    obtain ⟨i, j, hi, hj, _, he⟩ := n3 m _ (List.getElem?_eq_getElem hm)
    obtain ⟨_, _, _, _, v, hv', hr⟩ := hcell i j hi hj
    rw [he, hv']
    exact hr.simple
   ·have hi' := (List.getElem?_eq_some_iff.1 hi).1
    have hj' : j < sz := by
     have := (List.getElem?_eq_some_iff.1 hj).1
     have := hs e (List.mem_of_getElem? hi)
     omega
    obtain ⟨e2, c2, h1, h2, v, hv', hr⟩ := hcell i j hi' hj'
    rw [hi] at h1; injection h1 with h1; subst h1
    rw [hj] at h2; injection h2 with h2; subst h2
    exact ⟨_, n2 i j hi' hj', .inl ⟨by cases hr <;> rfl, by rw [hv']; exact hr⟩⟩
 | str s =>
  simp only [Z7, Option.some.injEq, Prod.mk.injEq] at h
  obtain ⟨rfl, rfl, rfl⟩ := h
  have hsize : size = 1 ∨ s = [] := by
   cases s with
   | nil => exact .inr rfl
   | cons b s => exact .inl (hs [C.int .u8 (b.toNat : Int)] (by simp [prims])).symm
  have hlen : (prims.ofStr s).length = s.length := by simp [prims]
  refine ⟨s.map fun b => Value.int .u8 (b.toNat : Int), none, ⟨?_, ?_, ?_, hs, ?_, fun i j e c hi hj => ?_⟩, .inl ⟨rfl, rfl, rfl⟩⟩
  ·rw [gx.str, hlen]; simp [Builtin.lenOf, ByteArray.size]
  ·rw [gx.str, hlen]
   simp only [Builtin.firstCells, Sem.run_pure]
   intro w' _
   congr 1
   apply Array.ext'
   simp [ByteArray.data_extract]
  ·rw [hlen]
   rcases hsize with h | h
   ·simp [h]
   ·simp [h]
  ·intro v hv
   obtain ⟨b, _, rfl⟩ := List.mem_map.1 hv
   rfl
  ·simp only [prims, List.getElem?_map] at hi
   obtain ⟨b, hb, rfl⟩ := Option.map_eq_some_iff.1 hi
   have hsz1 : size = 1 := by
    rcases hsize with h | h
    ·exact h
    ·subst h; simp at hb
   subst hsz1
   have hj0 : j = 0 := by
    have := (List.getElem?_eq_some_iff.1 hj).1
    simpa using this
   subst hj0
   simp at hj
   subst hj
   exact ⟨Value.int .u8 (b.toNat : Int), by simp [hb], .inl ⟨rfl, RepC.int _ _ _⟩⟩
 | ref id =>
  simp only [Z7] at h
  split at h
  ·rename_i z l hg
   have hg0 := hst1 _ _ _ hg
   have gx := gx.2 (z, l.length) (by rw [hg0]; rfl)
   have hE := sim.ent id
   rw [hg0] at hE
   obtain ⟨A, n, cap, hh, hn, hnc, hs', hb⟩ := qU hE
   rw [hh] at gx
   have hq : q = l := by
    cases fl <;> cases hp : prims.pl l <;> rw [hp] at h <;> simp at h
    ·exact h.1.symm
    ·exact h.1.symm
    ·exact h.1.symm
    ·exact h.1.symm
   subst hq
   have fin : ∀ B, (∀ (i j : Nat) e c u, q[i]? = some e → e[j]? = some c → RepC w cls hdr (some [id, i, j]) u c → (plain c = true ∧ RepC w cls hdr none u c) ∨ ∃ id', B = some id' ∧ RepC w cls hdr (some [id', i, j]) u c) →
     ∃ news, ASrc P w cls hdr st size (a.eval x) q B news := by
    intro B hB
    cases q with
    | nil =>
     refine ⟨[], by rw [gx, hn]; exact fun _ => rfl, ?_, by simp, by simp, by simp, by simp⟩
     rw [gx]
     intro w' _
     cases A <;> simp [Builtin.firstCells, loadCells, loadCellsFrom]
    | cons e0 l =>
     have hz : z = size := by rw [<- hs' e0 (by simp), hs e0 (by simp)]
     subst hz
     rcases hb with ⟨_, h0, _⟩ | ⟨ad, arr, rfl, hsp, hcl, hBk, hle, hcells⟩
     ·simp at hn; omega
     ·obtain ⟨news, n1, n2, n3⟩ := Kl (e0 :: l) hs (fun i j => (arr[ad.off + (i * z + j)]?).getD undef)
      have hcell : ∀ i j, i < (e0 :: l).length → j < z → ∃ e c, (e0 :: l)[i]? = some e ∧ e[j]? = some c ∧ ∃ v, arr[ad.off + (i * z + j)]? = some v ∧ RepC w cls hdr (some [id, i, j]) v c := fun i j hi hj => by
       have he := List.getElem?_eq_getElem hi
       have hl := hs _ (List.getElem_mem hi)
       obtain ⟨us, hul, huc, hur⟩ := hcells i _ he
       have hc' : ((e0 :: l)[i])[j]? = some (((e0 :: l)[i])[j]'(by omega)) := by simp
       have hu' : us[j]? = some us[j] := by simp
       exact ⟨_, _, he, hc', us[j], huc j _ hu', hur j _ _ hu' hc'⟩
      refine ⟨news, by rw [gx, hn]; exact fun _ => rfl, ?_, n1, hs, fun v hv => ?_, fun i j e c hi hj => ?_⟩
      ·rw [gx]
       simp only [Builtin.firstCells]
       rw [<- n1]
       refine fun w' hw' => run_loadCells_list w' ad news fun m v hm => ?_
       obtain ⟨i, j, hi, hj, rfl, rfl⟩ := n3 m v hm
       obtain ⟨_, _, _, _, v, hv, _⟩ := hcell i j hi hj
       rw [Wo (w := w) (by rw [hw']), hBk.cell hsp, hv]; rfl
      ·obtain ⟨m, hm, rfl⟩ := List.mem_iff_getElem.1 hv
       obtain ⟨i, j, hi, hj, _, he⟩ := n3 m _ (List.getElem?_eq_getElem hm)
       obtain ⟨_, _, _, _, v, hv', hr⟩ := hcell i j hi hj
       rw [he, hv']
       exact hr.simple
      ·have hi' := (List.getElem?_eq_some_iff.1 hi).1
       have hj' : j < z := by
        have := (List.getElem?_eq_some_iff.1 hj).1
        have := hs e (List.mem_of_getElem? hi)
        omega
       obtain ⟨e2, c2, h1, h2, v, hv', hr⟩ := hcell i j hi' hj'
       rw [hi] at h1; injection h1 with h1; subst h1
       rw [hj] at h2; injection h2 with h2; subst h2
       exact ⟨_, n2 i j hi' hj', by rw [hv']; exact hB i j e c v hi hj hr⟩
   cases hp : !fl && prims.pl q with
   | true =>
    simp only [Bool.and_eq_true, Bool.not_eq_true'] at hp
    obtain ⟨hfl, hp⟩ := hp
    rw [hp, hfl] at h
    simp at h
    obtain ⟨rfl, rfl⟩ := h
    obtain ⟨news, hS⟩ := fin none fun i j e c u hi hj hr => .inl (by
     have hpl : plain c = true := by
      simp only [prims, List.all_eq_true] at hp
      exact hp e (List.mem_of_getElem? hi) c (List.mem_of_getElem? hj)
     exact ⟨hpl, hr.plain hpl⟩)
    exact ⟨news, none, hS, .inl ⟨rfl, rfl, rfl⟩⟩
   | false =>
    have h : put st1 id .dead = st2 ∧ [id] = ks := by
     cases fl with
     | true => simpa using h
     | false =>
      simp only [Bool.not_false, Bool.true_and] at hp
      rw [hp] at h
      simpa using h
    obtain ⟨rfl, rfl⟩ := h
    obtain ⟨news, hS⟩ := fin (some id) fun i j e c u hi hj hr => .inr ⟨id, rfl, hr⟩
    exact ⟨news, some id, hS, .inr ⟨id, z, q, rfl, rfl, hg, rfl⟩⟩
  ·cases h
 | _ => simp [Z7] at h
theorem MY {ts : Array TypeId} {t tx ty e : TypeId} {i : TypeInfo} (h0 : ts[0]? = some t) (h1 : ts[1]? = some tx) (ht : P.underlying t = some (.slice e)) (hi : P.info? e = some i) {q : Addr} {sLen sCap n : Nat} {x : Value} {news : List Value} {w' : World}
  (hk : (∃ e', P.underlying tx = some (.slice e')) ∨ P.underlying tx = some .string) (hl : ∀ w' : World, (Builtin.lenOf x).run P w' = .ok n w') (hc : (Builtin.firstCells i.size n x).run P w = .ok news.toArray w)
  (hroom : sLen + n <= sCap) (hst : (storeCells (q.add (sLen * i.size)) news).run P w = .ok () w') :
  (Builtin.append_ ts ty #[.slice (some q) sLen sCap, x]).run P w = .ok (.slice (some q) (sLen + n) sCap) w' := by
 rcases hk with ⟨e', hk⟩ | hk <;> simp [Builtin.append_, h0, h1, run_underlying ht, run_underlying hk, sizeOf, typeInfo, hi, hl, hroom, hc, hst]
theorem MZ {ts : Array TypeId} {t tx ty e : TypeId} {i : TypeInfo} (h0 : ts[0]? = some t) (h1 : ts[1]? = some tx) (ht : P.underlying t = some (.slice e)) (hi : P.info? e = some i) {x : Value} {news : List Value}
  (hk : (∃ e', P.underlying tx = some (.slice e')) ∨ P.underlying tx = some .string) (hl : ∀ w' : World, (Builtin.lenOf x).run P w' = .ok 0 w') (hc : (Builtin.firstCells i.size 0 x).run P w = .ok news.toArray w) :
  (Builtin.append_ ts ty #[.slice none 0 0, x]).run P w = .ok (.slice none 0 0) w := by
 rcases hk with ⟨e', hk⟩ | hk <;> simp [Builtin.append_, h0, h1, run_underlying ht, run_underlying hk, sizeOf, typeInfo, hi, hl, hc]
theorem Na {ts : Array TypeId} {t tx ty e : TypeId} {i : TypeInfo} {z : Value} (h0 : ts[0]? = some t) (h1 : ts[1]? = some tx) (ht : P.underlying t = some (.slice e)) (hi : P.info? e = some i) (hz : i.zero = some z) {base : Option Addr} {sLen sCap n : Nat} {olds news : List Value} {x : Value}
    (hold : (Builtin.firstCells i.size sLen (.slice base sLen sCap)).run P w.drew = .ok olds.toArray w.drew)
    (hk : (∃ e', P.underlying tx = some (.slice e')) ∨ P.underlying tx = some .string) (hl : ∀ w' : World, (Builtin.lenOf x).run P w' = .ok n w') (hc : (Builtin.firstCells i.size n x).run P w.drew = .ok news.toArray w.drew)
    (hg : sCap < sLen + n) (h63 : ((sLen + n : Nat) : Int) <= 9223372036854775807) (hfit : Builtin.nextslicecap (sLen + n) sCap * i.bytes <= 281474976710656) :
    (Builtin.append_ ts ty #[.slice base sLen sCap, x]).run P w =
      .ok (.slice (some ⟨w.heap.size, 0, none⟩) (sLen + n) (grownCap w (sLen + n) sCap e))
        (w.drew.alloc (.cells ((olds ++ news).toArray ++ Builtin.zeroCells z.cells (grownCap w (sLen + n) sCap e - (sLen + n))) e)) := by
  have hn : ¬ (sLen + n <= sCap) := by omega
  have h63' : ¬ (9223372036854775807 < ((sLen : Int) + (n : Int))) := by omega
  have h48' : ¬ (281474976710656 < Builtin.nextslicecap (sLen + n) sCap * i.bytes) := by omega
  rcases hk with ⟨e', hk⟩ | hk <;>
    (simp [Builtin.append_, h0, h1, run_underlying ht, run_underlying hk, sizeOf, typeInfo, zeroValue, hi, hz, hl, hn, h63', h48', Question.forced, hc, hold, newRow, grownCap]
     congr 2
     apply Array.ext'
     simp [List.append_assoc])
structure Dst (w : World) (cls : Cls) (hdr : Hdr) (base : Option Addr) (sLen sCap size : Nat) (p : List (List C)) (A : Option Nat) : Prop where
 len : p.length = sLen
 cap : sLen <= sCap
 uni : ∀ e ∈ p, e.length = size
 cells : (base = none ∧ sLen = 0 ∧ sCap = 0) ∨ ∃ id q arr, A = some id ∧ base = some q ∧ q.spot = none ∧ cls q.block = some [id] ∧ Blk size w q.block arr ∧ q.off + sCap * size <= arr.size ∧
   ∀ (i : Nat) (e : List C), p[i]? = some e → ∃ us : List Value, us.length = size ∧ (∀ (j : Nat) u, us[j]? = some u → arr[q.off + (i * size + j)]? = some u) ∧
    ∀ (j : Nat) u c, us[j]? = some u → e[j]? = some c → RepC w cls hdr (some [id, i, j]) u c
theorem Bt {sLen : Nat} {B : Option Nat} {id : Nat} {i j : Nat} {u : Value} {c : C} (h : RepC w cls hdr (some [id, i, j]) u c) (hi : i < sLen) : Bf w cls hdr (apR nid sLen (some id) B) [id] [nid, i, j] u c := by
 refine .inr (.inl ⟨[id, i, j], h, by simp, fun s => ?_⟩)
 simp only [List.cons_append, List.nil_append, apR]
 simp [hi]
theorem ASrc.good {u : Value} {size : Nat} {q : List (List C)} {B : Option Nat} {news : List Value} (h : ASrc P w cls hdr st size u q B news) {A : Option Nat} {sLen i j : Nat} {e : List C} {c : C} {tl : List Nat} (hi : q[i]? = some e) (hj : e[j]? = some c)
  (hAB : ∀ id, B = some id → A ≠ some id) (htl : tl.length <= 1) : ∃ v, news[i * size + j]? = some v ∧ Bf w cls hdr (apR nid sLen A B) tl [nid, sLen + i, j] v c := by
 obtain ⟨v, h1, h2⟩ := h.cell i j e c hi hj
 refine ⟨v, h1, ?_⟩
 rcases h2 with h2 | ⟨id, hB, h2⟩
 ·exact .inl h2
 ·refine .inr (.inl ⟨[id, i, j], h2, fun s e => ?_, fun s => ?_⟩)
  ·rw [<- e] at htl; simp at htl
  ·simp only [List.cons_append, List.nil_append, apR]
   rw [if_neg (hAB id hB), if_pos hB]
theorem Oh (T : TOk P cfg) (sim : Sim w cls hdr vb st sl a.tmps) {ts : Array TypeId} {x y : Operand} {t tx e : TypeId} {te : TI} {base : Option Addr} {sLen sCap : Nat} {p q : List (List C)} {A B : Option Nat} {news : List Value} {st' : List Entry} {ws : List Nat}
  (ho : o.op = .call ⟨.builtin .append, #[x, y], ts⟩) (h0 : ts[0]? = some t) (h1 : ts[1]? = some tx) (ht : P.underlying t = some (.slice e)) (he : cfg.T e = some te)
  (hk : (∃ e', P.underlying tx = some (.slice e')) ∨ P.underlying tx = some .string) (hx : a.eval x = .slice base sLen sCap) (D : Dst w cls hdr base sLen sCap te.size p A) (N : ASrc P w cls hdr st te.size (a.eval y) q B news)
  (hAB : ∀ id, B = some id → A ≠ some id) (hroom : (p.length + q.length) * te.bytes <= 140737488355328 ∧ p.length + q.length <= 2 ^ 62) (fr : Fresh sl st nid)
  (hst : ∀ id, get st' id = if id = nid then .obj te.size (p ++ q) else if id ∈ A.toList ++ B.toList then .dead else get st id) (hws : ∀ id, id ∈ ws ↔ id ∈ A.toList ++ B.toList ++ [nid]) (hlt : ∀ id ∈ A.toList ++ B.toList, id < nid) :
  yr P a o w cls hdr vb st nid (.val false [.ref nid]) st' ws := by
 obtain ⟨info, hi1, hi2, hi3, z, hz, hz2, _, _⟩ := (T e te he).info
 have hexec : (execOp a.eval o).run P w = ((Builtin.append_ ts o.type #[.slice base sLen sCap, a.eval y]).run P w).andThen fun v w' => .ok (.value v) w' := by
  simp [execOp, ho, resolve, invoke, builtin, hx]
 have hnl := N.nlen
 have hpl := D.len
 have hK : ∀ id s, id ∉ A.toList ++ B.toList → apR nid sLen A B (id :: s) = none := fun id s hid => by
  simp only [List.mem_append, Option.mem_toList, not_or] at hid
  simp only [apR]
  rw [if_neg hid.1, if_neg hid.2]
 have huni : ∀ e ∈ p ++ q, e.length = te.size := fun e he => by
  rcases List.mem_append.1 he with h | h
  ·exact D.uni e h
  ·exact N.uni e h
 have w1 : nid ∈ ws := (hws nid).2 (by simp)
 have w2 : ∀ id ∈ ws, nid <= id → id = nid := fun id hid hge => by
  have := (hws id).1 hid
  rcases List.mem_append.1 this with h | h
  ·have := hlt id h; omega
  ·simpa using h
 have w3 : ∀ id ∈ A.toList ++ B.toList, id ∈ ws := fun id hid => (hws id).2 (List.mem_append.2 (.inl hid))
 by_cases hr : sLen + q.length <= sCap
 ·rcases D.cells with ⟨rfl, rfl, rfl⟩ | ⟨id, ad, arr, rfl, rfl, hsp, hcl, hB, hle, hcells⟩
  ·have hq : q = [] := List.eq_nil_of_length_eq_zero (by omega)
   have hp : p = [] := List.eq_nil_of_length_eq_zero hpl
   subst hq hp
   have hrun := MZ (w := w) (ty := o.type) h0 h1 ht hi1 hk N.len (by rw [hi2]; exact N.first w rfl)
   rw [hrun] at hexec
   refine Qi (K := A.toList ++ B.toList) (tl := []) (r := apR nid 0 A B) sim fr Of Og hK (fun _ _ _ => by simp) hst hexec (Nat.le_refl _) ⟨rfl, rfl, rfl⟩ (fun b hb _ => rfl) rfl (Nat.le_refl _) (by simp) w1 w2 w3 rfl (fun b hb _ => rfl) (.inl ⟨rfl, rfl, rfl⟩)
  ·obtain ⟨bl, off, sp⟩ := ad
   simp only at hsp hcl hB hle hcells
   subst hsp
   have hmul : (sLen + q.length) * te.size <= sCap * te.size := Nat.mul_le_mul_right _ hr
   rw [Nat.add_mul] at hmul
   obtain ⟨w', hs1, hs2, hs3, hs4, hs5⟩ := QR (P := P) bl (off + sLen * te.size) news 0 arr w hB (by omega) N.simple
   have hadd : (⟨bl, off, none⟩ : Addr).add (sLen * te.size) = ⟨bl, off + sLen * te.size, none⟩ := by unfold Addr.add; split <;> simp_all
   have hrun := MY (w := w) (w' := w') (ty := o.type) (q := ⟨bl, off, none⟩) h0 h1 ht hi1 hk N.len (by rw [hi2]; exact N.first w rfl) hr (by rw [hi2, hadd]; exact hs1)
   rw [hrun] at hexec
   have hlt2 : bl < w.heap.size := hB.lt
   refine Qi (K := (some id).toList ++ B.toList) (tl := [id]) (r := apR nid sLen (some id) B) sim fr Of Og hK (fun i s hi => ?_) hst hexec (by omega) hs5 (fun b hb hcx => hs3 b fun e => hcx _ (by rw [e]; exact hcl) rfl) (by rw [List.length_append, hpl]) hr huni w1 w2 w3 rfl (fun b hb hcx => hs3 b fun e => by rw [e, hcl] at hcx; cases hcx)
    (.inr ⟨⟨bl, off, none⟩, _, rfl, rfl, .inr ⟨hlt2, [id], hcl, by simp [apR]⟩, hs2, ?_, fun i j e c hi hj => ?_⟩)
   ·intro e
    injection e with e1 e2
    subst e1
    simp at hi
   ·simp; omega
   ·simp only [Nat.add_zero]
    rw [List.getElem?_toArray]
    rcases Nat.lt_or_ge i sLen with hil | hil
    ·rw [List.getElem?_append_left (by omega)] at hi
     obtain ⟨us, hul, hu1, hu2⟩ := hcells i e hi
     have hjl : j < us.length := by
      have := (List.getElem?_eq_some_iff.1 hj).1
      have := D.uni e (List.mem_of_getElem? hi)
      omega
     have hu := List.getElem?_eq_getElem hjl
     refine ⟨us[j], ?_, Bt (hu2 j _ c hu hj) hil⟩
     have hm : (i + 1) * te.size <= sLen * te.size := Nat.mul_le_mul_right _ hil
     rw [Nat.add_mul] at hm
     have := hu1 j _ hu
     have hlt3 := (Array.getElem?_eq_some_iff.1 this).1
     rw [List.append_assoc, List.getElem?_append_left (by simp; omega), List.getElem?_take_of_lt (by omega), Array.getElem?_toList]
     exact this
    ·rw [List.getElem?_append_right (by omega), hpl] at hi
     obtain ⟨v, hv, hg⟩ := N.good (nid := nid) (A := some id) (sLen := sLen) (tl := [id]) hi hj hAB (by simp)
     rw [show sLen + (i - sLen) = i by omega] at hg
     refine ⟨v, ?_, hg⟩
     have hvl := (List.getElem?_eq_some_iff.1 hv).1
     have hm : i * te.size = sLen * te.size + (i - sLen) * te.size := by rw [<- Nat.add_mul]; congr 1; omega
     have hos : off + sLen * te.size <= arr.size := by omega
     rw [List.append_assoc, List.getElem?_append_right (by simp; omega)]
     rw [List.getElem?_append_left (by simp; omega), <- hv]
     congr 1
     simp
     omega
 ·have hg : sCap < sLen + q.length := by omega
  rw [hpl] at hroom
  obtain ⟨hm1, hm2⟩ := hroom
  have hfit := growslice_fits hg (bytes := te.bytes) hm1
  obtain ⟨olds, ho1, ho2, ho3⟩ : ∃ olds : List Value, olds.length = sLen * te.size ∧ (Builtin.firstCells te.size sLen (.slice base sLen sCap)).run P w.drew = .ok olds.toArray w.drew ∧
    ∀ (i j : Nat) e c, p[i]? = some e → e[j]? = some c → ∃ v, olds[i * te.size + j]? = some v ∧ ∃ id, A = some id ∧ RepC w cls hdr (some [id, i, j]) v c := by
   rcases D.cells with ⟨rfl, rfl, rfl⟩ | ⟨id, ad, arr, rfl, rfl, hsp, hcl, hB, hle, hcells⟩
   ·have hp : p = [] := List.eq_nil_of_length_eq_zero hpl
    subst hp
    exact ⟨[], by simp, by simp [Builtin.firstCells], by simp⟩
   ·obtain ⟨olds, n1, n2, n3⟩ := Kl p D.uni (fun i j => (arr[ad.off + (i * te.size + j)]?).getD undef)
    have hcell : ∀ i j, i < p.length → j < te.size → ∃ e c, p[i]? = some e ∧ e[j]? = some c ∧ ∃ v, arr[ad.off + (i * te.size + j)]? = some v ∧ RepC w cls hdr (some [id, i, j]) v c := fun i j hi hj => by
     have he := List.getElem?_eq_getElem hi
     have hl := D.uni _ (List.getElem_mem hi)
     obtain ⟨us, hul, huc, hur⟩ := hcells i _ he
     have hc' : (p[i])[j]? = some ((p[i])[j]'(by omega)) := by simp
     have hu' : us[j]? = some us[j] := by simp
     exact ⟨_, _, he, hc', us[j], huc j _ hu', hur j _ _ hu' hc'⟩
    refine ⟨olds, by rw [n1, hpl], ?_, fun i j e c hi hj => ?_⟩
    ·simp only [Builtin.firstCells]
     rw [<- hpl, <- n1]
     refine run_loadCells_list w.drew ad olds fun m v hm => ?_
     obtain ⟨i, j, hi, hj, rfl, rfl⟩ := n3 m v hm
     obtain ⟨_, _, _, _, v, hv, _⟩ := hcell i j hi hj
     rw [show w.drew.cell? (ad.add (i * te.size + j)) = w.cell? (ad.add (i * te.size + j)) from rfl, hB.cell hsp, hv]; rfl
    ·have hi' := (List.getElem?_eq_some_iff.1 hi).1
     have hj' : j < te.size := by
      have := (List.getElem?_eq_some_iff.1 hj).1
      have := D.uni e (List.mem_of_getElem? hi)
      omega
     obtain ⟨e2, c2, g1, g2, v, hv, hrr⟩ := hcell i j hi' hj'
     rw [hi] at g1; injection g1 with g1; subst g1
     rw [hj] at g2; injection g2 with g2; subst g2
     exact ⟨_, n2 i j hi' hj', id, rfl, by rw [hv]; exact hrr⟩
  have hrun := Na (w := w) (ty := o.type) h0 h1 ht hi1 hz (by rw [hi2]; exact ho2) hk N.len (by rw [hi2]; exact N.first w.drew rfl) hg (by omega) (by rw [hi3]; exact hfit)
  rw [hrun] at hexec
  generalize hcap : grownCap w (sLen + q.length) sCap e = gc at hexec
  have hge : sLen + q.length <= gc := by rw [<- hcap]; exact grownCap_ge w _ sCap e
  obtain ⟨n1, n2, n3⟩ := Qs w.drew (.cells ((olds ++ news).toArray ++ Builtin.zeroCells z.cells (gc - (sLen + q.length))) e)
  refine Qi (K := A.toList ++ B.toList) (tl := []) (r := apR nid sLen A B) sim fr Of Og hK (fun _ _ _ => by simp) hst hexec (by rw [show (w.drew.alloc _).heap.size = w.drew.heap.size + 1 from n3]; exact Nat.le_succ _) ⟨rfl, rfl, rfl⟩ (fun b hb _ => n1 b hb) (by rw [List.length_append, hpl]) hge huni w1 w2 w3 rfl (fun b hb _ => n1 b hb)
   (.inr ⟨⟨w.heap.size, 0, none⟩, (olds ++ news).toArray ++ Builtin.zeroCells z.cells (gc - (sLen + q.length)), rfl, rfl, .inl rfl, Blk.new w.drew _ e, ?_, fun i j e c hi hj => ?_⟩)
  ·simp only [Array.size_append, List.size_toArray, List.length_append, size_zeroCells, hz2, ho1, hnl, Nat.zero_add]
   rw [<- Nat.add_mul, <- Nat.add_mul]
   exact Nat.mul_le_mul_right _ (by omega)
  ·simp only [Nat.zero_add]
   have hjs : j < te.size := by
    have := (List.getElem?_eq_some_iff.1 hj).1
    have := huni e (List.mem_of_getElem? hi)
    omega
   have hil := (List.getElem?_eq_some_iff.1 hi).1
   rw [List.length_append, hpl] at hil
   have hm : (i + 1) * te.size <= (sLen + q.length) * te.size := Nat.mul_le_mul_right _ hil
   rw [Nat.add_mul, Nat.add_mul] at hm
   rw [Array.getElem?_append_left (by simp; omega), List.getElem?_toArray]
   rcases Nat.lt_or_ge i sLen with hil | hil
   ·rw [List.getElem?_append_left (by omega)] at hi
    obtain ⟨v, hv, id, rfl, hrr⟩ := ho3 i j e c hi hj
    refine ⟨v, by rw [List.getElem?_append_left (List.getElem?_eq_some_iff.1 hv).1]; exact hv, ?_⟩
    refine .inr (.inl ⟨[id, i, j], hrr, by simp, fun s => ?_⟩)
    simp only [List.cons_append, List.nil_append, apR]
    simp [hil]
   ·rw [List.getElem?_append_right (by omega), hpl] at hi
    obtain ⟨v, hv, hgd⟩ := N.good (nid := nid) (A := A) (sLen := sLen) (tl := []) hi hj hAB (by simp)
    rw [show sLen + (i - sLen) = i by omega] at hgd
    refine ⟨v, ?_, hgd⟩
    have hm : i * te.size = sLen * te.size + (i - sLen) * te.size := by rw [<- Nat.add_mul]; congr 1; omega
    rw [List.getElem?_append_right (by omega), <- hv]
    congr 1
    omega
end
end Go.Am
