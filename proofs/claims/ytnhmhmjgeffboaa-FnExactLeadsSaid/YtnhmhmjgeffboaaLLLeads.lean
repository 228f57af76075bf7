/- The law of FnExactLeads, in plain terms. -/
import Derived.Test.YtnhmhmjgeffboaaLG2
set_option linter.unusedVariables false
set_option linter.unusedSimpArgs false
namespace Go.Am.Try
open Go.Am
noncomputable section

theorem rnd_mono : ∀ (l : List GEdge) (p : Nat → Bool) (j : Nat), p j = true → rnd l p j = true := by
  intro l
  induction l with
  | nil => intro p j h; exact h
  | cons e l ih =>
    intro p j h
    rw [rnd]
    refine ih _ j ?_
    split
    · exact updA_mono h
    · exact h
theorem rnd_does : ∀ (l : List GEdge) (p : Nat → Bool), ∀ e ∈ l, p e.From.toNat = true → rnd l p e.To.toNat = true := by
  intro l
  induction l with
  | nil => intro p e he; cases he
  | cons e0 l ih =>
    intro p e he hp
    rw [rnd]
    rcases List.mem_cons.1 he with rfl | he
    · rw [if_pos hp]
      exact rnd_mono l _ _ (by unfold updA; simp)
    · refine ih _ e he ?_
      split
      · exact updA_mono hp
      · exact hp
theorem rnd_sound {E : List GEdge} {a : Int} (hE : GB 20 E) : ∀ (l : List GEdge) (p : Nat → Bool), (∀ e ∈ l, e ∈ E) → (∀ j : Nat, p j = true → Way E a (j : Int)) → ∀ j : Nat, rnd l p j = true → Way E a (j : Int) := by
  intro l
  induction l with
  | nil => intro p _ h; exact h
  | cons e l ih =>
    intro p hl h j hj
    rw [rnd] at hj
    refine ih _ (fun e he => hl e (by simp [he])) (fun i hi => ?_) j hj
    split at hi
    · rename_i hp
      unfold updA at hi
      split at hi
      · have hb := hE e (hl e (by simp))
        have hw := h _ hp
        rw [show (i : Int) = e.To by omega]
        exact .more hw ⟨e, hl e (by simp), by omega, rfl⟩
      · exact h i hi
    · exact h i hi
theorem rnd_fix {E : List GEdge} (p : Nat → Bool) : ∀ l : List GEdge, (∀ e ∈ l, p e.From.toNat = true → p e.To.toNat = true) → rnd l p = p := by
  intro l
  induction l with
  | nil => intro _; rfl
  | cons e l ih =>
    intro h
    have hx : (if p e.From.toNat = true then updA p e.To.toNat true else p) = p := by
      split
      · rename_i hp
        funext j
        unfold updA
        split
        · rename_i hj; subst hj; exact (h e (by simp) hp).symm
        · rfl
      · rfl
    rw [rnd, hx]
    exact ih fun e he => h e (by simp [he])
def ClsP (E : List GEdge) (p : Nat → Bool) : Prop := ∀ e ∈ E, p e.From.toNat = true → p e.To.toNat = true
theorem rnds_cls {E : List GEdge} {k : Nat} (hE : GB k E) : ∀ (d t : Nat) (p : Nat → Bool), d + t = k → (ClsP E p ∨ t ≤ cnt p k) → ClsP E (rnds E d p) := by
  intro d
  induction d with
  | zero =>
    intro t p ht h
    rcases h with h | h
    · exact h
    · intro e he _
      have := hE e he
      exact cnt_all (p := p) (k := k) (by omega) _ (by omega)
  | succ d ih =>
    intro t p ht h
    rw [rnds]
    by_cases hc : ClsP E p
    · rw [rnd_fix (E := E) p E hc]
      exact ih (t + 1) p (by omega) (.inl hc)
    · have h := h.resolve_left hc
      refine ih (t + 1) _ (by omega) (.inr ?_)
      have hx : ∃ e ∈ E, p e.From.toNat = true ∧ ¬ p e.To.toNat = true := by
        by_cases hy : ∃ e ∈ E, p e.From.toNat = true ∧ ¬ p e.To.toNat = true
        · exact hy
        · exact (hc fun e he h1 => by
            by_cases h2 : p e.To.toNat = true
            · exact h2
            · exact (hy ⟨e, he, h1, h2⟩).elim).elim
      obtain ⟨e, he, h1, h2⟩ := hx
      have hb := hE e he
      have := cnt_lt (p := p) (q := rnd E p) (k := k) (j := e.To.toNat) (fun j _ => rnd_mono E p j) (by omega) (by simpa using h2) (rnd_does E p e he h1)
      omega
theorem rnds_mono {E : List GEdge} : ∀ (d : Nat) (p : Nat → Bool) (j : Nat), p j = true → rnds E d p j = true := by
  intro d
  induction d with
  | zero => exact fun p j h => h
  | succ d ih => exact fun p j h => ih _ j (rnd_mono E p j h)
theorem rnds_sound {E : List GEdge} {a : Int} (hE : GB 20 E) : ∀ (d : Nat) (p : Nat → Bool), (∀ j : Nat, p j = true → Way E a (j : Int)) → ∀ j : Nat, rnds E d p j = true → Way E a (j : Int) := by
  intro d
  induction d with
  | zero => exact fun p h => h
  | succ d ih => exact fun p h => ih _ (rnd_sound hE E p (fun _ h => h) h)
theorem GB.up {k : Int} {E : List GEdge} (h : GB k E) (hk : k ≤ 20) : GB 20 E := fun e he => by have := h e he; omega
theorem leads_way {E : List GEdge} {a : Int} {k : Nat} (hk : k ≤ 20) (hE : GB k E) {w : Nat} (hw : w < k) : rnds E k (iniP (nextL a E)) w = true ↔ Way E a (w : Int) := by
  have hE2 := hE.up (by omega)
  refine ⟨rnds_sound hE2 k _ (fun j hj => ?_) w, fun h => ?_⟩
  · unfold iniP at hj
    obtain ⟨x, hx, hxj⟩ := List.any_eq_true.1 hj
    have hxj := of_decide_eq_true hxj
    unfold nextL at hx
    obtain ⟨e, he, rfl⟩ := List.mem_map.1 hx
    have he := List.mem_filter.1 he
    exact .one ⟨e, he.1, of_decide_eq_true he.2, hxj⟩
  · have hc := rnds_cls hE k 0 (iniP (nextL a E)) (by omega) (.inr (Nat.zero_le _))
    have key : ∀ v x, Way E v x → v = a → rnds E k (iniP (nextL a E)) x.toNat = true := fun v x hx => by
      induction hx with
      | one h =>
        intro hv
        obtain ⟨e, he, h1, rfl⟩ := h
        have hb := hE e he
        refine rnds_mono k _ _ ?_
        unfold iniP nextL
        refine List.any_eq_true.2 ⟨e.To, List.mem_map.2 ⟨e, List.mem_filter.2 ⟨he, decide_eq_true (h1.trans hv)⟩, rfl⟩, decide_eq_true (by omega)⟩
      | more hx h ih =>
        intro hv
        have hu := ih hv
        obtain ⟨e, he, h1, rfl⟩ := h
        have hb := hx.bound hE
        exact hc e he (by rw [h1]; exact hu)
    have := key a w h rfl
    simpa using this
open Classical in
theorem sel_any {p : Nat → Bool} {k : Nat} {b : Int} (h0 : 0 ≤ b) (hb : b < k) : ((selP 0 k p).any fun x => decide (x = b)) = p b.toNat := by
  rcases Bool.eq_false_or_eq_true (p b.toNat) with h | h
  · rw [h]
    refine List.any_eq_true.2 ⟨b, ?_, decide_eq_true rfl⟩
    unfold selP
    refine List.mem_map.2 ⟨b.toNat, List.mem_filter.2 ⟨List.mem_range'_1.2 ⟨by omega, by omega⟩, h⟩, by omega⟩
  · rw [h]
    rw [List.any_eq_false]
    intro x hx hd
    have hd := of_decide_eq_true hd
    unfold selP at hx
    obtain ⟨j, hj, rfl⟩ := List.mem_map.1 hx
    have := (List.mem_filter.1 hj).2
    rw [show j = b.toNat by omega, h] at this
    cases this
open Classical in
noncomputable def ldB (g : GGraph) (a b : Int) : Bool := gok g && decide ((0 ≤ a ∧ a < g.N) ∧ (0 ≤ b ∧ b < g.N) ∧ Way g.Edges a b)
open Classical in
theorem specL_eq {g : GGraph} {a b : Int} (h : g.Edges.length ≤ 2 ^ 20) : S_spec_Leads g a b = some (ldB g a b) := by
  unfold S_spec_Leads S_spec_GraphOk ldB
  rw [if_pos h, Option.bind_some]
  rcases Bool.eq_false_or_eq_true (gok g) with hg | hg
  · rw [hg]
    dsimp only
    rw [Bool.true_and]
    obtain ⟨g1, g2, g3, g4⟩ := gok_GB hg
    by_cases c1 : 0 ≤ a
    · rw [if_pos c1]
      by_cases c2 : a < g.N
      · rw [if_pos c2]
        by_cases c3 : 0 ≤ b
        · rw [if_pos c3]
          by_cases c4 : b < g.N
          · rw [if_pos c4]
            unfold S_spec_l9leads
            rw [if_pos ⟨rfl, g1, g2, h, g4⟩, Option.bind_some]
            obtain ⟨k, hk⟩ : ∃ k : Nat, g.N = k := ⟨g.N.toNat, by omega⟩
            rw [hk] at g4 c4 c2 ⊢
            rw [Int.toNat_natCast, sel_any c3 c4]
            congr 1
            have := leads_way (a := a) (k := k) (by omega) g4 (w := b.toNat) (by omega)
            rw [show ((b.toNat : Nat) : Int) = b by omega] at this
            rcases Bool.eq_false_or_eq_true (rnds g.Edges k (iniP (nextL a g.Edges)) b.toNat) with hr | hr
            · rw [hr, decide_eq_true ⟨⟨c1, c2⟩, ⟨c3, c4⟩, this.1 hr⟩]
            · rw [hr, decide_eq_false]
              rintro ⟨_, _, hw⟩
              rw [this.2 hw] at hr; cases hr
          · rw [if_neg c4, decide_eq_false]; rintro ⟨_, ⟨_, x⟩, _⟩; exact c4 x
        · rw [if_neg c3, decide_eq_false]; rintro ⟨_, ⟨x, _⟩, _⟩; exact c3 x
      · rw [if_neg c2, decide_eq_false]; rintro ⟨⟨_, x⟩, _⟩; exact c2 x
    · rw [if_neg c1, decide_eq_false]; rintro ⟨⟨x, _⟩, _⟩; exact c1 x
  · rw [hg]; rfl
open Classical in
theorem implL_eq {g : GGraph} {a b : Int} (h : g.Edges.length ≤ 2 ^ 20) : S_impl_Leads g a b = some (ldB g a b) := by
  unfold S_impl_Leads S_impl_isGraph ldB
  rw [if_pos h, Option.bind_some]
  rcases Bool.eq_false_or_eq_true (gok g) with hg | hg
  · rw [hg]
    dsimp only
    rw [Bool.true_and]
    obtain ⟨g1, g2, g3, g4⟩ := gok_GB hg
    rw [implIn, Option.bind_some, w64_id (by omega) (by omega)]
    by_cases c1 : 0 ≤ a ∧ a ≤ g.N - 1
    · rw [decide_eq_true c1]
      dsimp only
      rw [implIn, Option.bind_some]
      by_cases c2 : 0 ≤ b ∧ b ≤ g.N - 1
      · rw [decide_eq_true c2]
        dsimp only
        unfold S_impl_Graph_ways
        rw [if_pos ⟨g4.up g2, g3⟩, Option.bind_some, natO_pos c2.1, Option.bind_some, if_pos (by omega)]
        congr 1
        refine decide_eq_decide.2 ?_
        rw [show ((b.toNat : Nat) : Int) = b by omega]
        exact ⟨fun hw => ⟨by omega, by omega, hw⟩, fun x => x.2.2⟩
      · rw [decide_eq_false c2]
        dsimp only
        rw [decide_eq_false]
        rintro ⟨_, x, _⟩
        exact c2 (by omega)
    · rw [decide_eq_false c1]
      dsimp only
      rw [decide_eq_false]
      rintro ⟨x, _⟩
      exact c1 (by omega)
  · rw [hg]; rfl
theorem law_Leads {g : GGraph} {a b : Int} (h : g.Edges.length ≤ 2 ^ 63 - 1) : S_laws_FnExactLeads g a b = some true := by
  have hs : S_laws_szGraph g 1048576 = some (if (g.Edges.length : Int) ≤ 1048576 then (1048576 - (g.Edges.length : Int) : Int) else (-1 : Int)) := by
    unfold S_laws_szGraph S_laws_szEdgeS
    by_cases c : (g.Edges.length : Int) ≤ 1048576
    · rw [if_pos c, w64_id (by omega) (by omega), if_neg (by omega), Option.bind_some, if_neg (by omega)]
    · rw [if_neg c, w64_id (by omega) (by omega), if_pos (by omega), Option.bind_some, if_pos (by omega)]
  unfold S_laws_FnExactLeads
  rw [hs, Option.bind_some]
  by_cases c : (g.Edges.length : Int) ≤ 1048576
  · have h2 : g.Edges.length ≤ 2 ^ 20 := by omega
    rw [if_pos c, if_neg (by omega)]
    have ht : S_laws_toGraph g = some g := by
      unfold S_laws_toGraph S_laws_toEdgeS
      rw [if_pos h2, Option.bind_some, GGraph.eta]
    have he : S_laws_eqGraph g g = some true := by
      unfold S_laws_eqGraph S_laws_eqEdgeS
      rw [if_pos rfl, if_pos ⟨rfl, h2⟩]; rfl
    rw [ht, Option.bind_some, specL_eq h2, Option.bind_some, implL_eq h2, Option.bind_some, he]
    cases ldB g a b <;> rfl
  · rw [if_neg c, if_pos (by omega)]
end
end Go.Am.Try
