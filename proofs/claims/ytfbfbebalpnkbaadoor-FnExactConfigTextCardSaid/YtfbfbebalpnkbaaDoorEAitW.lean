/- A number's digits appended to an own slice of bytes: the library's functions walked. -/
import Derived.Test.YtfbfbebalpnkbaaDoorEAit
import Derived.KernelRfl
set_option linter.unusedVariables false
set_option linter.unusedSimpArgs false
set_option linter.unusedVariables false
set_option linter.unusedSimpArgs false
namespace Go.Am
open Go.Proofs Go.Shelf Go.RowKit Go.Sort Go.Lib
variable {P : Program} {ρ : Ren}
theorem Gr.of_below {w w' : World} (h : RowKit.Below w.heap.size w w') : Gr w w' := ⟨h.size, ⟨h.os, h.output, h.tape⟩, h.block⟩
theorem LV {P : Program} {s : List UInt8} {b n cap : Nat} {w : World} (hn : s.length = n) (hcells : ∀ j u', (Lib.byteCells s)[j]? = some u' → w.cell? ((⟨b, 0, none⟩ : Addr).add j) = some u') :
  ∀ w' : World, w'.heap = w.heap → (Builtin.firstCells 1 s.length (.slice (some ⟨b, 0, none⟩) n cap)).run P w' = .ok (Lib.byteCells s).toArray w' := by
 intro w' hw'
 simp only [Builtin.firstCells]
 rw [show s.length * 1 = (Lib.byteCells s).length by rw [Lib.byteCells_length]; omega]
 exact run_loadCells_list w' ⟨b, 0, none⟩ (Lib.byteCells s) fun m u hm => by rw [vV (w := w) (by rw [hw'])]; exact hcells m u hm
set_option maxHeartbeats 6400000 in
set_option maxRecDepth 100000 in
theorem Nv (L : LaysM.n288 P ρ) (u : Nat) (hu : u < 100) (sv : Value) (s : List UInt8) (w : World) (hown : wY w sv s) (hlim : s.length + 20 <= 140737488355328) :
  Calls P (ρ.f 288) #[sv, .int .u64 u, .int .i64 10] w fun e w' => ∃ v', e = .returned v' ∧ wY w' v' (s ++ Lib.decDigits u) ∧ Wd w w' sv v' := by
 have mixed := L.mixed
 have t5 := L.t5; have a5 := L.a5; have z5 := L.z5; have v5 := L.v5
 have t37 := L.t37; have u37 := run_underlying L.t37; have a37 := L.a37; have z37 := L.z37; have v37 := L.v37
 have t53 := L.t53; have a53 := L.a53; have z53 := L.z53; have v53 := L.v53
 have t3 := L.t3; have a3 := L.a3; have z3 := L.z3; have v3 := L.v3
 have t4 := L.t4; have a4 := L.a4; have z4 := L.z4; have v4 := L.v4
 have t9 := L.t9; have a9 := L.a9; have z9 := L.z9; have v9 := L.v9
 have t171 := L.t171; have a171 := L.a171; have z171 := L.z171; have v171 := L.v171
 have t0 := L.t0; have a0 := L.a0; have z0 := L.z0; have v0 := L.v0
 have t173 := L.t173; have a173 := L.a173; have z173 := L.z173; have v173 := L.v173
 have e283 : ∀ args w, (callFunc (ρ.f 283) args).run P w = .ok (.enter (ρ.f 283) args) w := Go.Proofs.enters_of L.f283 (by kernel_rfl) rfl
 obtain ⟨i0, hi, hz0, hz1, hz2⟩ := info_parts L.i5
 have hlen : (Lib.decDigits u).length <= 20 := by
  rw [Lib.decDigits_length]
  by_cases h10 : u < 10
  ·rw [Lib.nDigits_small h10]; omega
  ·rw [Lib.nDigits_big h10, Lib.nDigits_small (show u / 10 < 10 by omega)]; omega
 have hsz : (⟨(Lib.decDigits u).toArray⟩ : ByteArray).size = (Lib.decDigits u).length := by simp [ByteArray.size]
 have hfc : ∀ w' : World, w'.heap = w.heap → (Builtin.firstCells 1 (Lib.decDigits u).length (.string ⟨(Lib.decDigits u).toArray⟩)).run P w' = .ok (Lib.byteCells (Lib.decDigits u)).toArray w' := fun w' _ => by rw [<- hsz, firstCells_string]; rfl
 have hlo : ∀ w' : World, (Builtin.lenOf (.string ⟨(Lib.decDigits u).toArray⟩)).run P w' = .ok (Lib.decDigits u).length w' := fun w' => by rw [<- hsz]; rfl
 go_enter L.f288, Body.n288_ntmps ρ
 go_wp2_with (first
  | (go_at_fn (ρ.f 283); refine (Any.internal_strconv_small { L with } u hu _).mono ?_; rintro e w' ⟨rfl, rfl⟩)
  | (at_builtin; refine YD (s1 := Lib.decDigits u) rfl _ _ (ρ.t 37) (ρ.t 9) (ρ.t 5) i0 rfl L.t37 hi hz0 hz1 hz2 _ (.string ⟨(Lib.decDigits u).toArray⟩) rfl rfl hown (.inr L.t9) hlo hfc (by omega) ?_))
 intro v' w1 hown' hW
 go_wp2
 go_ret
 exact ⟨v', rfl, hown', hW⟩
set_option maxHeartbeats 12800000 in
set_option maxRecDepth 100000 in
theorem Di (L : LaysM.n288 P ρ) (u : Nat) (hu : 100 <= u) (hu64 : u < 18446744073709551616) (sv : Value) (s : List UInt8) (w : World) (hown : wY w sv s) (hlim : s.length + 20 <= 140737488355328)
  (htab : Lib.TabIs P w "internal/strconv.uint64pow10" .u64 Lib.pow10Tab) :
  Calls P (ρ.f 288) #[sv, .int .u64 u, .int .i64 10] w fun e w' => ∃ v', e = .returned v' ∧ wY w' v' (s ++ Lib.decDigits u) ∧ Wd w w' sv v' := by
 have mixed := L.mixed
 have t5 := L.t5; have a5 := L.a5; have z5 := L.z5; have v5 := L.v5
 have t37 := L.t37; have u37 := run_underlying L.t37; have a37 := L.a37; have z37 := L.z37; have v37 := L.v37
 have t53 := L.t53; have a53 := L.a53; have z53 := L.z53; have v53 := L.v53
 have t3 := L.t3; have a3 := L.a3; have z3 := L.z3; have v3 := L.v3
 have t4 := L.t4; have a4 := L.a4; have z4 := L.z4; have v4 := L.v4
 have t9 := L.t9; have a9 := L.a9; have z9 := L.z9; have v9 := L.v9
 have t171 := L.t171; have a171 := L.a171; have z171 := L.z171; have v171 := L.v171
 have t0 := L.t0; have a0 := L.a0; have z0 := L.z0; have v0 := L.v0
 have t173 := L.t173; have a173 := L.a173; have z173 := L.z173; have v173 := L.v173
 have e284 : ∀ args w, (callFunc (ρ.f 284) args).run P w = .ok (.enter (ρ.f 284) args) w := Go.Proofs.enters_of L.f284 (by kernel_rfl) rfl
 have e285 : ∀ args w, (callFunc (ρ.f 285) args).run P w = .ok (.enter (ρ.f 285) args) w := Go.Proofs.enters_of L.f285 (by kernel_rfl) rfl
 obtain ⟨i0, hi, hz0, hz1, hz2⟩ := info_parts L.i5
 have hu1 : 1 <= u := by omega
 have hnd20 : Lib.nDigits u <= 20 := by have := Lib.numDigits_eq u hu1 hu64; split at this <;> omega
 have hal : P.arrayLen (ρ.t 171) = 24 := by simp [Program.arrayLen, L.t171]
 have hsl : ∀ W, (Instr.sliceAt (ρ.t 171) (.pointer (some ⟨w.heap.size, 0, none⟩)) none (some (.int .i64 (Lib.nDigits u : Int))) none).run P W = .ok (.slice (some ⟨w.heap.size, 0, none⟩) (Lib.nDigits u) 24) W := fun W => by
  rw [run_sliceAt_array_h W (ρ.t 171) ⟨w.heap.size, 0, none⟩ (by simp [Program.arrayLen, Program.elem, L.t171]) .i64 (Lib.nDigits u : Int) (by omega) (by rw [hal]; omega)]
  go_simp
 have hH0 := Lib.holds_zero0 w (ρ.t 171) (Lib.nDigits u) (by omega)
 have hfmt := Any.internal_strconv_formatBase10 { L with } w.heap.size 0 24 u (Array.replicate (Lib.nDigits u) 0) (w.alloc (.cells Lib.zeros24 (ρ.t 171))) hH0 (by rw [Array.size_replicate]; exact Lib.lt_pow_nDigits u) hu64 (by rw [Array.size_replicate]; omega)
 rw [Array.size_replicate] at hfmt
 have HH0 := Lib.hid hH0
 have iu : (100 : Int) <= (u : Int) := by omega
 clear hH0 hal
 go_enter L.f288, Body.n288_ntmps ρ
 go_wp2_with (first
  | (go_at_fn (ρ.f 284); refine (Any.internal_strconv_numDigits { L with } u hu1 hu64 _ (Lib.tabIs_alloc htab _)).mono ?_; rintro e w' ⟨rfl, rfl⟩))
 go_at_fn (ρ.f 285)
 refine hfmt.mono ?_
 rintro e w' ⟨rfl, k, v', dk, rfl, hF⟩
 have hcells : ∀ j u', (Lib.byteCells (Lib.decDigits u))[j]? = some u' → ((putRow (fun (b : UInt8) => Value.int .u8 (b.toNat : Int)) (w.alloc (.cells Lib.zeros24 (ρ.t 171))) w.heap.size 0 dk).drewN k).cell? ((⟨w.heap.size, 0, none⟩ : Addr).add j) = some u' := by
  intro j u' hj
  have hjl : j < (Lib.decDigits u).length := by
   have h5 := (List.getElem?_eq_some_iff.1 hj).1
   rwa [Lib.byteCells_length] at h5
  have e5 : (Lib.byteCells (Lib.decDigits u))[j]? = some (Value.int .u8 ((Lib.decDigits u)[j].toNat : Int)) := by simp [Lib.byteCells, hjl]
  rw [e5] at hj
  cases hj
  rw [Lib.row_is_numeral hF j hjl, Lib.add_plain, World.cell?_drewN]
  exact cell?_putRow (fun (b : UInt8) => Value.int .u8 (b.toNat : Int)) _ w.heap.size 0 _ dk HH0.out (by rw [hF.size, Array.size_replicate]) j (by rw [hF.size]; rw [Lib.decDigits_length] at hjl; exact hjl)
 obtain ⟨os, eo⟩ := Lib.fin_at w (.cells Lib.zeros24 (ρ.t 171)) dk k 0
 have hgr : Gr w ((putRow (fun (b : UInt8) => Value.int .u8 (b.toNat : Int)) (w.alloc (.cells Lib.zeros24 (ρ.t 171))) w.heap.size 0 dk).drewN k) := by rw [eo]; exact Gr.of_below (Lib.below_grow w.heap.size w (Nat.le_refl _) k os)
 generalize (putRow (fun (b : UInt8) => Value.int .u8 (b.toNat : Int)) (w.alloc (.cells Lib.zeros24 (ρ.t 171))) w.heap.size 0 dk).drewN k = W2 at hcells hgr ⊢
 clear eo HH0 hfmt
 have hdl := Lib.decDigits_length u
 go_wp2_with (at_builtin; refine YD (s1 := Lib.decDigits u) rfl _ _ (ρ.t 37) (ρ.t 37) (ρ.t 5) i0 rfl L.t37 hi hz0 hz1 hz2 _ _ rfl rfl (hown.grow hgr) (.inl ⟨_, L.t37⟩) (fun w' => by rw [hdl]; rfl) (LV hdl hcells) (by omega) ?_)
 intro v2 w3 hown' hW
 go_wp2
 go_ret
 exact ⟨v2, rfl, hown', (hgr.wd sv).trans hW⟩
theorem LW (L : LaysM.n288 P ρ) (u : Nat) (hu64 : u < 18446744073709551616) (sv : Value) (s : List UInt8) (w : World) (hown : wY w sv s) (hlim : s.length + 20 <= 140737488355328)
  (htab : Lib.TabIs P w "internal/strconv.uint64pow10" .u64 Lib.pow10Tab) :
  Calls P (ρ.f 288) #[sv, .int .u64 u, .int .i64 10] w fun e w' => ∃ v', e = .returned v' ∧ wY w' v' (s ++ Lib.decDigits u) ∧ Wd w w' sv v' := by
 by_cases h : u < 100
 ·exact Nv L u h sv s w hown hlim
 ·exact Di L u (by omega) hu64 sv s w hown hlim htab
set_option maxHeartbeats 6400000 in
set_option maxRecDepth 100000 in
theorem DX (L : LaysM.n249 P ρ) (i : Int) (h0 : -9223372036854775808 <= i) (h1 : i <= 9223372036854775807) (sv : Value) (s : List UInt8) (w : World) (hown : wY w sv s) (hlim : s.length + 21 <= 140737488355328)
  (htab : ∀ w' v', Wd w w' sv v' → Lib.TabIs P w' "internal/strconv.uint64pow10" .u64 Lib.pow10Tab) :
  Calls P (ρ.f 249) #[sv, .int .i64 i, .int .i64 10] w fun e w' => ∃ v', e = .returned v' ∧ wY w' v' (s ++ Lib.itoa i) ∧ Wd w w' sv v' := by
 have mixed := L.mixed
 have t5 := L.t5; have a5 := L.a5; have z5 := L.z5; have v5 := L.v5
 have t37 := L.t37; have u37 := run_underlying L.t37; have a37 := L.a37; have z37 := L.z37; have v37 := L.v37
 have t2 := L.t2; have a2 := L.a2; have z2 := L.z2; have v2 := L.v2
 have t3 := L.t3; have a3 := L.a3; have z3 := L.z3; have v3 := L.v3
 have t53 := L.t53; have a53 := L.a53; have z53 := L.z53; have v53 := L.v53
 have t4 := L.t4; have a4 := L.a4; have z4 := L.z4; have v4 := L.v4
 have e288 : ∀ args w, (callFunc (ρ.f 288) args).run P w = .ok (.enter (ρ.f 288) args) w := Go.Proofs.enters_of L.f288 (by kernel_rfl) rfl
 obtain ⟨i0, hi, hz0, hz1, hz2⟩ := info_parts L.i5
 by_cases hneg : i < 0
 ·obtain ⟨u, rfl⟩ : ∃ u : Nat, i = -(u : Int) := ⟨i.natAbs, by omega⟩
  have hu1 : 1 <= u := by omega
  have hu64 : u < 18446744073709551616 := by omega
  have hwr : IntKind.u64.wrap (-IntKind.u64.wrap (-(u : Int))) = (u : Int) := by rw [IntKind.wrap_u64, IntKind.wrap_u64]; omega
  rw [Lib.itoa_neg u hu1]
  have hga : ∀ o : Obj, Gr w (w.alloc o) := fun o => Gr.alloc w o
  go_enter L.f249, Body.n249_ntmps ρ
  go_wp2_with (at_builtin; refine YD (s1 := [45]) rfl _ _ (ρ.t 37) (ρ.t 37) (ρ.t 5) i0 rfl L.t37 hi hz0 hz1 hz2 _ _ rfl rfl (hown.grow (hga _)) (.inl ⟨_, L.t37⟩) (fun w' => rfl) (LV (b := w.heap.size) rfl (by intro j u' hj; match j, hj with | 0, hj => simp [Lib.byteCells] at hj; subst hj; simp [Addr.add])) (by simp only [List.length_cons, List.length_nil]; omega) ?_)
  intro v1 w1 hown1 hW1
  have hW0 := ((hga _).wd sv).trans hW1
  go_wp2_with (go_at_fn (ρ.f 288); refine (LW { L with } u hu64 v1 _ w1 hown1 (by simp only [List.length_append, List.length_cons, List.length_nil]; omega) (htab w1 v1 hW0)).mono ?_; rintro e w2 ⟨v2, rfl, hown2, hW2⟩)
  go_wp2
  go_ret
  exact ⟨v2, rfl, by rw [List.append_assoc] at hown2; exact hown2, hW0.trans hW2⟩
 ·obtain ⟨u, rfl⟩ : ∃ u : Nat, i = u := ⟨i.toNat, by omega⟩
  have hu64 : u < 18446744073709551616 := by omega
  rw [Lib.itoa_nonneg]
  go_enter L.f249, Body.n249_ntmps ρ
  go_wp2_with (go_at_fn (ρ.f 288); refine (LW { L with } u hu64 sv s w hown (by omega) (htab w sv (Wd.refl _ _))).mono ?_; rintro e w2 ⟨v2, rfl, hown2, hW2⟩)
  go_wp2
  first | go_ret | go_ret2
  exact ⟨v2, rfl, hown2, hW2⟩
set_option maxRecDepth 100000 in
theorem Dj (L : LaysM.n176 P ρ) (i : Int) (h0 : -9223372036854775808 <= i) (h1 : i <= 9223372036854775807) (sv : Value) (s : List UInt8) (w : World) (hown : wY w sv s) (hlim : s.length + 21 <= 140737488355328)
  (htab : ∀ w' v', Wd w w' sv v' → Lib.TabIs P w' "internal/strconv.uint64pow10" .u64 Lib.pow10Tab) :
  Calls P (ρ.f 176) #[sv, .int .i64 i, .int .i64 10] w fun e w' => ∃ v', e = .returned v' ∧ wY w' v' (s ++ Lib.itoa i) ∧ Wd w w' sv v' := by
 have mixed := L.mixed
 have t5 := L.t5; have a5 := L.a5; have z5 := L.z5; have v5 := L.v5
 have t37 := L.t37; have u37 := run_underlying L.t37; have a37 := L.a37; have z37 := L.z37; have v37 := L.v37
 have t2 := L.t2; have a2 := L.a2; have z2 := L.z2; have v2 := L.v2
 have t3 := L.t3; have a3 := L.a3; have z3 := L.z3; have v3 := L.v3
 have e249 : ∀ args w, (callFunc (ρ.f 249) args).run P w = .ok (.enter (ρ.f 249) args) w := Go.Proofs.enters_of L.f249 (by kernel_rfl) rfl
 go_enter L.f176, Body.n176_ntmps ρ
 go_wp2_with (go_at_fn (ρ.f 249); refine (DX { L with } i h0 h1 sv s w hown hlim htab).mono ?_; rintro e w2 ⟨v2, rfl, hown2, hW2⟩)
 go_wp2
 go_ret
 exact ⟨v2, rfl, hown2, hW2⟩
theorem Dk {w : World} {cls : Cls} {hdr : Hdr} (hgl : qW P w cls hdr) {g : Nat} (hg : P.globalNamed "internal/strconv.uint64pow10" = some g) : Lib.TabIs P w "internal/strconv.uint64pow10" .u64 Lib.pow10Tab ∧ g < w.heap.size ∧ cls g = none := by
 obtain ⟨h1, h2, h3, h4⟩ := hgl "internal/strconv.uint64pow10" ((List.range 20).map fun i => .int .u64 ((10 ^ i : Nat) : Int)) (by simp [vJ]) g hg
 refine ⟨?_, h1, h2⟩
 have hc : ∀ i, i < 20 → w.cell? ⟨g, i, none⟩ = some (.int .u64 ((10 ^ i : Nat) : Int)) := fun i hi => by
  obtain ⟨u, hu, hr⟩ := h3 i _ (by rw [List.getElem?_map, List.getElem?_range hi]; rfl)
  rw [hu, (show zf w cls hdr (fun _ => 0) [] u (.int .u64 ((10 ^ i : Nat) : Int)) from hr).int]
 unfold Lib.TabIs World.var? at *
 rw [hg] at h4 ⊢
 simp only [Option.bind_some] at h4 ⊢
 have c0 := hc 0 (by decide)
 unfold World.cell? at c0 hc
 simp only at c0 hc
 cases hh : w.heap[g]? with
 | none => rw [hh] at c0; simp at c0
 | some o =>
  rw [hh] at c0 hc h4
  cases o with
  | cells arr ty fz =>
   have hz : arr.size = 20 := by
    have := h4 arr rfl
    simpa using this
   simp only [Option.some.injEq]
   apply Array.ext
   ·simp [Lib.pow10Tab, hz]
   ·intro i h5 h6
    have := hc i (by omega)
    simp at this
    rw [Array.getElem?_eq_getElem h5] at this
    injection this with this
    rw [this]
    simp [Lib.pow10Tab]
  | _ => simp at c0
theorem Dl (L : LaysM.n176 P ρ) (henter : ∀ args w, (callFunc (ρ.f 176) args).run P w = .ok (.enter (ρ.f 176) args) w) {g : Nat} (hg : P.globalNamed "internal/strconv.uint64pow10" = some g)
  {st : List Entry} {xs : List V} {r : V × List Entry} (h : U1 st xs = some r) : xx P (ρ.f 176) st xs r := by
 intro w cls hdr vb us hgl hus hE hids hvars
 unfold U1 at h
 split at h
 ·rename_i i b
  split at h
  ·rename_i l
   obtain ⟨s, hs, h'⟩ := Option.bind_eq_some_iff.1 h
   clear h
   split at h'
   ·rename_i hc
    obtain ⟨rfl, h0, h1, h2⟩ := hc
    injection h' with h'
    subst h'
    obtain ⟨ul⟩ := us
    cases hus with
    | cons a0 hus => cases hus with
     | cons a1 hus => cases hus with
      | cons a2 hus => cases hus with
       | nil =>
        rename_i u0 u1 u2
        have e0 : u0 = hdr [0] := a0.one.2 _ rfl
        have e1 := a1.one.int
        have e2 := a2.one.int
        subst e0 e1 e2
        obtain ⟨hO, hcl⟩ := Hs hs (hE 0)
        obtain ⟨ht, hgs, hgc⟩ := Dk hgl hg
        have hlen : l.length = s.length := by rw [qI hs]; simp
        have hl : l = qH s := qI hs
        refine .inl ⟨henter _ _, (Dj L i h0 h1 (hdr [0]) s w hO (by omega) (fun w' v' hW => ?_)).mono fun e w' he => ?_⟩
        ·unfold Lib.TabIs at ht ⊢
         rw [U7 hg (hW.heap g hgs fun e => by rw [hcl g e] at hgc; cases hgc)]
         exact ht
        ·obtain ⟨v', rfl, hO', hW⟩ := he
         have hland : zX (.val false [.own 1 (l ++ qH (Lib.itoa i))], [.dead]) = (.val false [.ref 1], [.dead, .obj 1 (l ++ qH (Lib.itoa i))]) := rfl
         rw [hland]
         obtain ⟨cls', hdr', k1, k2, k3, k4⟩ := LU (vb := vb) (l := l) (l' := l ++ qH (Lib.itoa i)) (s := s) (s' := s ++ Lib.itoa i) (by rw [hl]; simp [qH]) hcl hO hO' hW
         exact ⟨cls', hdr', vb, k1, k2, k3, k4⟩
   ·cases h'
  ·cases h
 ·cases h
end Go.Am
