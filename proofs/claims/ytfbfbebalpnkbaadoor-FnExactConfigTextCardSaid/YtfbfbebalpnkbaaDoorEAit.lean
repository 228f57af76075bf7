/- A number's digits appended to an own slice of bytes: the machine's word for it, ownership in the walk, the end of the call. -/
import Derived.Test.YtfbfbebalpnkbaaDoorEAmD
import Derived.Test.YtfbfbebalpnkbaaDoorESrt
import Derived.Test.YtfbfbebalpnkbaaDoorEAmB
import Derived.Shelf.Strconv.AppendIntPublic10
set_option linter.unusedVariables false
set_option linter.unusedSimpArgs false
set_option linter.unusedVariables false
set_option linter.unusedSimpArgs false
namespace Go.Am
open Go.Proofs Go.Shelf Go.RowKit Go.Lib
def U1 (st : List Entry) : List V → Option (V × List Entry)
 | [.val false [.ref 0], .val false [.int .i64 i], .val false [.int .i64 b]] => match st with
  | [.obj 1 l] => (bytesOf l).bind fun s => if b = 10 ∧ -9223372036854775808 <= i ∧ i <= 9223372036854775807 ∧ l.length <= 2 ^ 40 then some (.val false [.own 1 (l ++ qH (Lib.itoa i))], [.dead]) else none
  | _ => none
 | _ => none
def wY (w : World) (v : Value) (s : List UInt8) : Prop :=
 (v = .slice none 0 0 ∧ s = []) ∨ ∃ b off cap arr, v = .slice (some ⟨b, off, none⟩) s.length cap ∧ Blk 1 w b arr ∧ s.length <= cap ∧ off + cap <= arr.size ∧ ∀ (j : Nat) (c : UInt8), s[j]? = some c → arr[off + j]? = some (.int .u8 ((c.toNat : Nat) : Int))
structure Wd (w w' : World) (v v' : Value) : Prop where
 size : w.heap.size <= w'.heap.size
 io : kj w w'
 heap : ∀ b, b < w.heap.size → v.ownBlock ≠ some b → w'.heap[b]? = w.heap[b]?
 blk : ∀ b, v'.ownBlock = some b → v.ownBlock = some b ∨ w.heap.size <= b
theorem Wd.refl (w : World) (v : Value) : Wd w w v v := ⟨Nat.le_refl _, ⟨rfl, rfl, rfl⟩, fun _ _ _ => rfl, fun _ h => .inl h⟩
theorem wY.lt {w : World} {v : Value} {s : List UInt8} (h : wY w v s) : ∀ b, v.ownBlock = some b → b < w.heap.size := by
 intro b hb
 rcases h with ⟨rfl, _⟩ | ⟨g, off, cap, arr, rfl, hB, _⟩
 ·simp [Value.ownBlock] at hb
 ·simp [Value.ownBlock] at hb; subst hb; exact hB.lt
theorem Wd.trans {w w1 w2 : World} {v v1 v2 : Value} (h : Wd w w1 v v1) (g : Wd w1 w2 v1 v2) : Wd w w2 v v2 :=
 ⟨Nat.le_trans h.size g.size, ⟨g.io.1.trans h.io.1, g.io.2.1.trans h.io.2.1, g.io.2.2.trans h.io.2.2⟩, fun b hb hn => by
  rw [g.heap b (Nat.lt_of_lt_of_le hb h.size) fun e => (h.blk b e).elim hn fun e => by omega]
  exact h.heap b hb hn, fun b hb => by
  rcases g.blk b hb with e | e
  ·exact h.blk b e
  ·exact .inr (Nat.le_trans h.size e)⟩
structure Gr (w w' : World) : Prop where
 size : w.heap.size <= w'.heap.size
 io : kj w w'
 heap : ∀ b, b < w.heap.size → w'.heap[b]? = w.heap[b]?
theorem Gr.wd {w w' : World} (h : Gr w w') (v : Value) : Wd w w' v v := ⟨h.size, h.io, fun b hb _ => h.heap b hb, fun _ e => .inl e⟩
theorem Gr.alloc (w : World) (o : Obj) : Gr w (w.alloc o) := ⟨by simp, ⟨rfl, rfl, rfl⟩, fun b hb => heap_alloc_old w o hb⟩
theorem wY.grow {w w' : World} {v : Value} {s : List UInt8} (h : wY w v s) (g : Gr w w') : wY w' v s := by
 rcases h with h | ⟨b, off, cap, arr, rfl, hB, h1, h2, h3⟩
 ·exact .inl h
 ·obtain ⟨E, fz, hE, hfz⟩ := hB
  exact .inr ⟨b, off, cap, arr, rfl, ⟨E, fz, by rw [g.heap b (Array.getElem?_eq_some_iff.1 hE).1]; exact hE, hfz⟩, h1, h2, h3⟩
section
variable {P : Program} {w : World}
theorem LT {ts : Array TypeId} {t tx ty e : TypeId} {i : TypeInfo} {z : Value} (h0 : ts[0]? = some t) (h1 : ts[1]? = some tx) (ht : P.underlying t = some (.slice e)) (hi : P.info? e = some i) (hz : i.zero = some z) (hsize : i.size = 1) (hby : i.bytes = 1) (hzs : z.cells.size = 1)
  {v x : Value} {s0 s1 : List UInt8} (hown : wY w v s0) (hk : (∃ e', P.underlying tx = some (.slice e')) ∨ P.underlying tx = some .string) (hl : ∀ w' : World, (Builtin.lenOf x).run P w' = .ok s1.length w')
  (hc : ∀ w' : World, w'.heap = w.heap → (Builtin.firstCells 1 s1.length x).run P w' = .ok (Lib.byteCells s1).toArray w') (hroom : s0.length + s1.length <= 140737488355328) :
  ∃ v' w', (Builtin.append_ ts ty #[v, x]).run P w = .ok v' w' ∧ wY w' v' (s0 ++ s1) ∧ Wd w w' v v' := by
 have hnl : (Lib.byteCells s1).length = s1.length := Lib.byteCells_length s1
 have bc : ∀ (s : List UInt8) (j : Nat) (c : UInt8), s[j]? = some c → (Lib.byteCells s)[j]? = some (.int .u8 ((c.toNat : Nat) : Int)) := fun s j c h => by simp [Lib.byteCells, h]
 have grown : ∀ (A : Option Addr) (cap : Nat), v = .slice A s0.length cap → (Builtin.firstCells 1 s0.length (.slice A s0.length cap)).run P w.drew = .ok (Lib.byteCells s0).toArray w.drew → cap < s0.length + s1.length → ∃ v' w', (Builtin.append_ ts ty #[v, x]).run P w = .ok v' w' ∧ wY w' v' (s0 ++ s1) ∧ Wd w w' v v' := by
  intro A cap hv hold hg
  have hfit := growslice_fits (need := s0.length + s1.length) hg (bytes := 1) (by omega)
  have hrun := QC (w := w) (ty := ty) h0 h1 ht hi hz (by rw [hsize]; exact hold) hk hl (by rw [hsize]; exact hc w.drew rfl) hg (by omega) (by rw [hby]; exact hfit)
  generalize hcap : grownCap w (s0.length + s1.length) cap e = gc at hrun
  have hge : s0.length + s1.length <= gc := by rw [<- hcap]; exact grownCap_ge w _ cap e
  refine ⟨_, _, by rw [hv]; exact hrun, .inr ⟨w.heap.size, 0, gc, (Lib.byteCells s0 ++ Lib.byteCells s1).toArray ++ Builtin.zeroCells z.cells (gc - (s0.length + s1.length)), by rw [List.length_append], Blk.new w.drew _ e, by rw [List.length_append]; exact hge, ?_, fun j c hj => ?_⟩, ⟨by simp, ⟨rfl, rfl, rfl⟩, fun b hb _ => heap_alloc_old w.drew _ hb, fun b hb => ?_⟩⟩
  ·simp only [Array.size_append, List.size_toArray, List.length_append, size_zeroCells, hzs, Lib.byteCells_length]
   omega
  ·have hjl : j < s0.length + s1.length := by have := (List.getElem?_eq_some_iff.1 hj).1; rwa [List.length_append] at this
   rw [Nat.zero_add, Array.getElem?_append_left (by simp [Lib.byteCells_length]; omega), List.getElem?_toArray]
   have : Lib.byteCells s0 ++ Lib.byteCells s1 = Lib.byteCells (s0 ++ s1) := by simp [Lib.byteCells]
   rw [this]
   exact bc _ j c hj
  ·simp [Value.ownBlock] at hb
   exact .inr (by omega)
 rcases hown with ⟨rfl, rfl⟩ | ⟨b, off, cap, arr, rfl, hB, hc1, hc2, hcells⟩
 ·by_cases hn : s1 = []
  ·subst hn
   have hrun := QB (w := w) (ty := ty) h0 h1 ht hi hk hl (by rw [hsize]; exact hc w rfl)
   exact ⟨_, _, hrun, .inl ⟨rfl, rfl⟩, Wd.refl _ _⟩
  ·have : 0 < s1.length := List.length_pos_iff.2 hn
   exact grown none 0 rfl (by simp [Builtin.firstCells, Lib.byteCells]) (by simp only [List.length_nil]; omega)
 ·by_cases hr : s0.length + s1.length <= cap
  ·obtain ⟨w', hs1, hs2, hs3, hs4, hs5⟩ := Zh (P := P) b (off + s0.length * 1) (Lib.byteCells s1) 0 arr w hB (by rw [hnl]; omega) (fun u hu => by simp only [Lib.byteCells, List.mem_map] at hu; obtain ⟨c, _, rfl⟩ := hu; rfl)
   have hadd : (⟨b, off, none⟩ : Addr).add (s0.length * 1) = ⟨b, off + s0.length * 1, none⟩ := by unfold Addr.add; split <;> simp_all
   have hrun := QA (w := w) (w' := w') (ty := ty) (q := ⟨b, off, none⟩) (sLen := s0.length) (sCap := cap) (n := s1.length) h0 h1 ht hi hk hl (by rw [hsize]; exact hc w rfl) hr (by rw [hsize, hadd]; exact hs1)
   refine ⟨_, _, hrun, .inr ⟨b, off, cap, _, by rw [List.length_append], hs2, by rw [List.length_append]; exact hr, ?_, fun j c hj => ?_⟩, ⟨by omega, hs5, fun k hk hn => hs3 k fun e => hn (by simp [Value.ownBlock, e]), fun k hk => .inl (by simpa [Value.ownBlock] using hk)⟩⟩
   ·simp [hnl]; omega
   ·simp only [Nat.mul_one, Nat.add_zero]
    rw [List.getElem?_toArray]
    rcases Nat.lt_or_ge j s0.length with hl' | hl'
    ·rw [List.getElem?_append_left hl'] at hj
     have := hcells j c hj
     rw [List.append_assoc, List.getElem?_append_left (by simp; omega), List.getElem?_take_of_lt (by omega), Array.getElem?_toList]
     exact this
    ·rw [List.getElem?_append_right hl'] at hj
     have hjl := (List.getElem?_eq_some_iff.1 hj).1
     rw [List.append_assoc, List.getElem?_append_right (by simp; omega), List.getElem?_append_left (by simp [hnl]; omega), <- bc s1 _ c hj]
     congr 1
     simp; omega
  ·refine grown (some ⟨b, off, none⟩) cap rfl ?_ (by omega)
   simp only [Builtin.firstCells]
   rw [show s0.length * 1 = (Lib.byteCells s0).length by rw [Lib.byteCells_length]; omega]
   refine run_loadCells_list w.drew ⟨b, off, none⟩ (Lib.byteCells s0) fun m u hm => ?_
   have hml : m < s0.length := by have := (List.getElem?_eq_some_iff.1 hm).1; rwa [Lib.byteCells_length] at this
   have e1 := bc s0 m s0[m] (List.getElem?_eq_getElem hml)
   rw [e1] at hm
   injection hm with hm
   rw [show w.drew.cell? ((⟨b, off, none⟩ : Addr).add m) = w.cell? ((⟨b, off, none⟩ : Addr).add m) from rfl, hB.cell (a := ⟨b, off, none⟩) rfl, hcells m _ (List.getElem?_eq_getElem hml), hm]
theorem YD {ops : Array Oper} {rest : List Oper} {o : Oper} {a : Act} {Q : Exit → Act → World → Prop} (hgd : o.guard = none) (sl x : Operand) (t tx e : TypeId) (i : TypeInfo)
  (ho : o.op = .call { callee := .builtin .append, args := #[sl, x], argTypes := #[t, tx] }) (ht : P.underlying t = some (.slice e)) (hi : P.info? e = some i) (hz : i.zero = some (.int .u8 0)) (hsize : i.size = 1) (hby : i.bytes = 1)
  (v y : Value) (hs : a.eval sl = v) (hx : a.eval x = y) {s0 s1 : List UInt8} (hown : wY w v s0) (hk : (∃ e', P.underlying tx = some (.slice e')) ∨ P.underlying tx = some .string) (hl : ∀ w' : World, (Builtin.lenOf y).run P w' = .ok s1.length w')
  (hc : ∀ w' : World, w'.heap = w.heap → (Builtin.firstCells 1 s1.length y).run P w' = .ok (Lib.byteCells s1).toArray w') (hroom : s0.length + s1.length <= 140737488355328)
  (h : ∀ v' w', wY w' v' (s0 ++ s1) → Wd w w' v v' → wpList P ops Q rest (a.put o.dst v') w') : wpList P ops Q (o :: rest) a w := by
 refine wpList_plain hgd fun K hK => ?_
 obtain ⟨v', w', hr, h2, h3⟩ := LT (w := w) (ty := o.type) (ts := #[t, tx]) rfl rfl ht hi hz hsize hby rfl hown hk hl hc hroom
 unfold Oper.wp execOp
 simp only [ho, resolve, invoke, builtin, Sem.run_bind, Sem.run_pure, Result.andThen_ok, List.map_toArray, List.map_cons, List.map_nil, hs, hx, hr]
 exact hK _ _ (h v' w' h2 h3)
end
section
variable {P : Program} {w : World} {cls : Cls} {hdr : Hdr} {vb : Nat → Nat} {st : List Entry}
theorem To {st' : List Entry} {nid : Nat} {w' : World} {l : List (List C)} {sz n cap : Nat} {A : Option Addr} {nb : Nat} {r : List Nat → Option (List Nat)} {tl : List Nat} (hnid : st.length <= nid)
  (hinj : Inj r) (hst : ∀ id, get st' id = if id = nid then .obj sz l else .dead) (hsize : w.heap.size <= w'.heap.size) (hio : kj w w')
  (hheap : ∀ b, b < w.heap.size → (∀ x, cls b = some x → x ≠ tl) → w'.heap[b]? = w.heap[b]?) (htl : tl ≠ [])
  (hl : l.length = n) (hc : n <= cap) (hs : ∀ e ∈ l, e.length = sz) (hr0 : r [] = none)
  (hA : (A = none ∧ n = 0 ∧ cap = 0) ∨ ∃ q arr, A = some q ∧ q.spot = none ∧ ((q.block = nb ∧ w.heap.size <= nb) ∨ (q.block < w.heap.size ∧ ∃ x, cls q.block = some x ∧ r x = some [nid])) ∧ Blk sz w' q.block arr ∧ q.off + cap * sz <= arr.size ∧
   ∀ i j e c, l[i]? = some e → e[j]? = some c → ∃ u, arr[q.off + (i * sz + j)]? = some u ∧ Lf w cls hdr r tl [nid, i, j] u c) :
  ∃ cls' hdr', Keep w cls hdr vb st w' cls' hdr' vb st' (fun id => id < st.length) ∧ (∀ b, b < w.heap.size → cls b = some [] → w'.heap[b]? = w.heap[b]? ∧ cls' b = some []) ∧
   zR w' cls' hdr' vb st' (.slice A n cap) (.val false [.ref nid]) ∧ ∀ id, zH w' cls' hdr' vb st' id (get st' id) := by
 have hcl : ∀ b, b < w.heap.size → (fun b => if b = nb ∧ w.heap.size <= nb then some [nid] else mvC cls r b) b = mvC cls r b := fun b hb => by simp only; rw [if_neg (by omega)]
 have hhd : ∀ x, x ≠ [nid] → (fun x => if x = [nid] then Value.slice A n cap else mvH hdr r x) x = mvH hdr r x := fun x hx => by simp only; rw [if_neg hx]
 generalize hcls' : (fun b => if b = nb ∧ w.heap.size <= nb then some [nid] else mvC cls r b) = cls' at hcl
 generalize hhdr' : (fun x => if x = [nid] then Value.slice A n cap else mvH hdr r x) = hdr' at hhd
 have hh0 : hdr' [nid] = .slice A n cap := by rw [<- hhdr']; simp
 have hro : ∀ b, b < w.heap.size → cls b = none → w'.heap[b]? = w.heap[b]? ∧ cls' b = none := fun b hb hn =>
  ⟨hheap b hb (fun x hx => by rw [hn] at hx; cases hx), by rw [hcl b hb]; simp [mvC, hn]⟩
 refine ⟨cls', hdr', ⟨hro, fun id hid c hg => ?_, fun id hid z x hg => ?_, hsize, hio⟩, fun b hb hx => ⟨hheap b hb fun x hx' => by rw [hx] at hx'; injection hx' with hx'; rw [<- hx']; exact Ne.symm htl, by rw [hcl b hb]; simp [mvC, hx, hr0]⟩, zf.val ⟨rfl, fun _ _ => hh0.symm⟩, fun id => ?_⟩
 ·rw [hst, if_neg (by omega)] at hg; cases hg
 ·rw [hst, if_neg (by omega)] at hg; cases hg
 ·rw [hst]
  split
  ·rename_i e
   subst e
   show RepC w' cls' hdr' (some [id]) (hdr' [id]) (.own sz l)
   rw [hh0]
   refine RepC.own [id] A n cap sz l (fun i j => match A with | some q => (match w'.heap[q.block]? with | some (.cells arr _ _) => (arr[q.off + (i * sz + j)]?).getD undef | _ => undef) | none => undef) hh0 hl hc hs ?_ (fun i j e c hi hj => ?_)
   ·rcases hA with h | ⟨q, arr, rfl, hsp, hq, hB, hle, hcells⟩
    ·exact .inl h
    ·refine .inr ⟨q, arr, rfl, hsp, ?_, hB, hle, fun i j e c hi hj => ?_⟩
     ·rcases hq with hq | ⟨hq, x, hx, hr⟩
      ·rw [<- hcls', hq.1]; simp [hq.2]
      ·rw [hcl _ hq]; simp [mvC, hx, hr]
     ·obtain ⟨u, hu, _⟩ := hcells i j e c hi hj
      obtain ⟨E, fz, hE, _⟩ := hB
      simp only [hE, hu, Option.getD_some]
   ·rcases hA with ⟨_, h0, _⟩ | ⟨q, arr, rfl, hsp, hq, hB, hle, hcells⟩
    ·have : l = [] := List.eq_nil_of_length_eq_zero (hl.trans h0)
     subst this; simp at hi
    ·obtain ⟨u, hu, hg⟩ := hcells i j e c hi hj
     obtain ⟨E, fz, hE, _⟩ := hB
     simp only [hE, hu, Option.getD_some]
     rcases hg with ⟨_, hr⟩ | ⟨t, hr, ht, hm⟩ | ⟨z, rfl, rfl⟩
     ·exact hr.free (fun b hb hn => (hro b hb hn).1) hcl
     ·refine hr.mv hm (fun b hb hx => ?_) hcl (fun s => ?_)
      ·rcases hx with hn | ⟨s, hx⟩
       ·exact (hro b hb hn).1
       ·exact hheap b hb fun x hx' => by rw [hx] at hx'; injection hx' with hx'; rw [<- hx']; exact ht s
      ·rw [hhd _ (by simp)]; exact Y9 hinj (hm s)
     ·exact .nown _ _
  ·trivial
def Nu : List Nat → Option (List Nat)
 | [0] => some [1]
 | _ => none
theorem U2 : Inj Nu := by
 intro x y z hx hy
 have key : ∀ {x z}, Nu x = some z → x = [0] ∧ z = [1] := by
  intro x z h
  unfold Nu at h
  split at h
  ·simp at h; exact ⟨rfl, h.symm⟩
  ·cases h
 rw [(key hx).1, (key hy).1]
theorem Hs {l : List (List C)} {s : List UInt8} (hs : bytesOf l = some s) (hE : zH w cls hdr vb [.obj 1 l] 0 (.obj 1 l)) : wY w (hdr [0]) s ∧ ∀ b, (hdr [0]).ownBlock = some b → cls b = some [0] := by
 obtain ⟨A, n, cap, h1, h2, h3, h4, h5⟩ := wg hE
 have hm := qI hs
 have hl : l.length = s.length := by rw [hm]; simp
 rw [h1]
 rcases h5 with ⟨rfl, rfl, rfl⟩ | ⟨q, arr, rfl, hsp, hcl, hB, hle, hcells⟩
 ·have hs0 : s = [] := List.eq_nil_of_length_eq_zero (by omega)
  subst hs0
  exact ⟨.inl ⟨rfl, rfl⟩, fun b hb => by simp [Value.ownBlock] at hb⟩
 ·obtain ⟨b, off, sp⟩ := q
  simp only at hsp hcl hB hle hcells
  subst hsp
  have hn : n = s.length := by omega
  subst hn
  refine ⟨.inr ⟨b, off, cap, arr, rfl, hB, h3, by simpa using hle, fun j c hj => ?_⟩, fun k hk => by simp [Value.ownBlock] at hk; subst hk; exact hcl⟩
  have hlj : l[j]? = some [.int .u8 ((c.toNat : Nat) : Int)] := by rw [hm, List.getElem?_map, hj]; rfl
  obtain ⟨us, u1, u2, u3⟩ := hcells j _ hlj
  have hu : us[0]? = some us[0] := by simp [u1]
  have hr := u3 0 _ _ hu rfl
  have he := u2 0 _ hu
  have := (show zf w cls hdr (fun _ => 0) [] us[0] (.int .u8 ((c.toNat : Nat) : Int)) from hr.plain rfl).int
  rw [this] at he
  simpa using he
theorem LU {l l' : List (List C)} {s s' : List UInt8} {w' : World} {v' : Value} (hl' : l' = qH s') (hcl : ∀ b, (hdr [0]).ownBlock = some b → cls b = some [0]) (hE : wY w (hdr [0]) s) (hO : wY w' v' s') (hW : Wd w w' (hdr [0]) v') :
  ∃ cls' hdr', Keep w cls hdr vb [.obj 1 l] w' cls' hdr' vb [.dead, .obj 1 l'] (fun id => id < 1) ∧ (∀ b, b < w.heap.size → cls b = some [] → w'.heap[b]? = w.heap[b]? ∧ cls' b = some []) ∧
   zR w' cls' hdr' vb [.dead, .obj 1 l'] v' (.val false [.ref 1]) ∧ ∀ id, zH w' cls' hdr' vb [.dead, .obj 1 l'] id (get [.dead, .obj 1 l'] id) := by
 have hst : ∀ id, get [.dead, .obj 1 l'] id = if id = 1 then .obj 1 l' else .dead := fun id => match id with
  | 0 => rfl
  | 1 => rfl
  | _ + 2 => rfl
 have hheap : ∀ b, b < w.heap.size → (∀ x, cls b = some x → x ≠ [0]) → w'.heap[b]? = w.heap[b]? := fun b hb hx => hW.heap b hb fun e => hx _ (hcl b e) rfl
 have hlen : l'.length = s'.length := by rw [hl']; simp [qH]
 have hsz : ∀ e ∈ l', e.length = 1 := fun e he => by rw [hl'] at he; simp only [qH, List.mem_map] at he; obtain ⟨c, _, rfl⟩ := he; rfl
 rcases hO with ⟨rfl, rfl⟩ | ⟨b, off, cap, arr, rfl, hB, h1, h2, h3⟩
 ·exact To (nb := 0) (st := [.obj 1 l]) (by simp) U2 hst hW.size hW.io hheap (by simp) (n := 0) (cap := 0) (by rw [hlen]; rfl) (Nat.le_refl _) hsz rfl (.inl ⟨rfl, rfl, rfl⟩)
 ·refine To (nb := b) (st := [.obj 1 l]) (by simp) U2 hst hW.size hW.io hheap (by simp) hlen h1 hsz rfl (.inr ⟨⟨b, off, none⟩, arr, rfl, rfl, ?_, hB, by simpa using h2, fun i j e c hi hj => ?_⟩)
  ·rcases hW.blk b rfl with e | e
   ·exact .inr ⟨hE.lt b e, [0], hcl b e, rfl⟩
   ·exact .inl ⟨rfl, e⟩
  ·rw [hl'] at hi
   simp only [qH, List.getElem?_map] at hi
   obtain ⟨x, hx, rfl⟩ := Option.map_eq_some_iff.1 hi
   have hj0 : j = 0 := by have := (List.getElem?_eq_some_iff.1 hj).1; simp at this; exact this
   subst hj0
   simp at hj
   subst hj
   exact ⟨_, by simpa using h3 i x hx, .inl ⟨rfl, RepC.int _ _ _⟩⟩
end
end Go.Am
