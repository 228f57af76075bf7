/- The functions of the program in plain Lean, and that the machine answers as they do; conditions at each theorem. -/
import Derived.Test.YtabecknjhcjpfaaGreatDoorTG4
set_option linter.unusedVariables false
set_option linter.unusedSimpArgs false
namespace Go.Am.Try
open Go.Am Go.Proofs
set_option linter.unusedVariables false
set_option maxRecDepth 20000
set_option maxHeartbeats 2000000
noncomputable section
def L_laws_markEntryS_l0 : Nat → Int → Int → (List GEntry) → Option (Int × Int × (List GEntry))
  | 0, _, _, _ => none
  | m + 1, a0, v1, e0 =>
    if v1 < ((e0.length : Nat) : Int) then
      (natO v1).bind fun i2 =>
      (e0[i2]?).bind fun x3 =>
      (S_laws_markByteS a0 x3.Addr).bind fun ⟨r4_0, r4_1⟩ =>
      ((e0.set i2 (GEntry.mk r4_1 x3.Val x3.Deps x3.Taint x3.Turned))[i2]?).bind fun x5 =>
      (((e0.set i2 (GEntry.mk r4_1 x3.Val x3.Deps x3.Taint x3.Turned)).set i2 (GEntry.mk x5.Addr (GValue.mk r4_0 x5.Val.N x5.Val.S x5.Val.K x5.Val.L) x5.Deps x5.Taint x5.Turned))[i2]?).bind fun x6 =>
      ((((e0.set i2 (GEntry.mk r4_1 x3.Val x3.Deps x3.Taint x3.Turned)).set i2 (GEntry.mk x5.Addr (GValue.mk r4_0 x5.Val.N x5.Val.S x5.Val.K x5.Val.L) x5.Deps x5.Taint x5.Turned)).set i2 (GEntry.mk x6.Addr (GValue.mk x6.Val.Kind (w64 (r4_0 + 1)) x6.Val.S x6.Val.K x6.Val.L) x6.Deps x6.Taint x6.Turned))[i2]?).bind fun x7 =>
      (S_laws_markByteS (w64 ((w64 (r4_0 + 1)) + 1)) x7.Val.S).bind fun ⟨r8_0, r8_1⟩ =>
      (((((e0.set i2 (GEntry.mk r4_1 x3.Val x3.Deps x3.Taint x3.Turned)).set i2 (GEntry.mk x5.Addr (GValue.mk r4_0 x5.Val.N x5.Val.S x5.Val.K x5.Val.L) x5.Deps x5.Taint x5.Turned)).set i2 (GEntry.mk x6.Addr (GValue.mk x6.Val.Kind (w64 (r4_0 + 1)) x6.Val.S x6.Val.K x6.Val.L) x6.Deps x6.Taint x6.Turned)).set i2 (GEntry.mk x7.Addr (GValue.mk x7.Val.Kind x7.Val.N r8_1 x7.Val.K x7.Val.L) x7.Deps x7.Taint x7.Turned))[i2]?).bind fun x9 =>
      (S_laws_markByteSS r8_0 x9.Val.K).bind fun ⟨r10_0, r10_1⟩ =>
      ((((((e0.set i2 (GEntry.mk r4_1 x3.Val x3.Deps x3.Taint x3.Turned)).set i2 (GEntry.mk x5.Addr (GValue.mk r4_0 x5.Val.N x5.Val.S x5.Val.K x5.Val.L) x5.Deps x5.Taint x5.Turned)).set i2 (GEntry.mk x6.Addr (GValue.mk x6.Val.Kind (w64 (r4_0 + 1)) x6.Val.S x6.Val.K x6.Val.L) x6.Deps x6.Taint x6.Turned)).set i2 (GEntry.mk x7.Addr (GValue.mk x7.Val.Kind x7.Val.N r8_1 x7.Val.K x7.Val.L) x7.Deps x7.Taint x7.Turned)).set i2 (GEntry.mk x9.Addr (GValue.mk x9.Val.Kind x9.Val.N x9.Val.S r10_1 x9.Val.L) x9.Deps x9.Taint x9.Turned))[i2]?).bind fun x11 =>
      (S_laws_markValueS r10_0 x11.Val.L).bind fun ⟨r12_0, r12_1⟩ =>
      (((((((e0.set i2 (GEntry.mk r4_1 x3.Val x3.Deps x3.Taint x3.Turned)).set i2 (GEntry.mk x5.Addr (GValue.mk r4_0 x5.Val.N x5.Val.S x5.Val.K x5.Val.L) x5.Deps x5.Taint x5.Turned)).set i2 (GEntry.mk x6.Addr (GValue.mk x6.Val.Kind (w64 (r4_0 + 1)) x6.Val.S x6.Val.K x6.Val.L) x6.Deps x6.Taint x6.Turned)).set i2 (GEntry.mk x7.Addr (GValue.mk x7.Val.Kind x7.Val.N r8_1 x7.Val.K x7.Val.L) x7.Deps x7.Taint x7.Turned)).set i2 (GEntry.mk x9.Addr (GValue.mk x9.Val.Kind x9.Val.N x9.Val.S r10_1 x9.Val.L) x9.Deps x9.Taint x9.Turned)).set i2 (GEntry.mk x11.Addr (GValue.mk x11.Val.Kind x11.Val.N x11.Val.S x11.Val.K r12_1) x11.Deps x11.Taint x11.Turned))[i2]?).bind fun x13 =>
      (S_laws_markByteSS r12_0 x13.Deps).bind fun ⟨r14_0, r14_1⟩ =>
      ((((((((e0.set i2 (GEntry.mk r4_1 x3.Val x3.Deps x3.Taint x3.Turned)).set i2 (GEntry.mk x5.Addr (GValue.mk r4_0 x5.Val.N x5.Val.S x5.Val.K x5.Val.L) x5.Deps x5.Taint x5.Turned)).set i2 (GEntry.mk x6.Addr (GValue.mk x6.Val.Kind (w64 (r4_0 + 1)) x6.Val.S x6.Val.K x6.Val.L) x6.Deps x6.Taint x6.Turned)).set i2 (GEntry.mk x7.Addr (GValue.mk x7.Val.Kind x7.Val.N r8_1 x7.Val.K x7.Val.L) x7.Deps x7.Taint x7.Turned)).set i2 (GEntry.mk x9.Addr (GValue.mk x9.Val.Kind x9.Val.N x9.Val.S r10_1 x9.Val.L) x9.Deps x9.Taint x9.Turned)).set i2 (GEntry.mk x11.Addr (GValue.mk x11.Val.Kind x11.Val.N x11.Val.S x11.Val.K r12_1) x11.Deps x11.Taint x11.Turned)).set i2 (GEntry.mk x13.Addr x13.Val r14_1 x13.Taint x13.Turned))[i2]?).bind fun x15 =>
      (((((((((e0.set i2 (GEntry.mk r4_1 x3.Val x3.Deps x3.Taint x3.Turned)).set i2 (GEntry.mk x5.Addr (GValue.mk r4_0 x5.Val.N x5.Val.S x5.Val.K x5.Val.L) x5.Deps x5.Taint x5.Turned)).set i2 (GEntry.mk x6.Addr (GValue.mk x6.Val.Kind (w64 (r4_0 + 1)) x6.Val.S x6.Val.K x6.Val.L) x6.Deps x6.Taint x6.Turned)).set i2 (GEntry.mk x7.Addr (GValue.mk x7.Val.Kind x7.Val.N r8_1 x7.Val.K x7.Val.L) x7.Deps x7.Taint x7.Turned)).set i2 (GEntry.mk x9.Addr (GValue.mk x9.Val.Kind x9.Val.N x9.Val.S r10_1 x9.Val.L) x9.Deps x9.Taint x9.Turned)).set i2 (GEntry.mk x11.Addr (GValue.mk x11.Val.Kind x11.Val.N x11.Val.S x11.Val.K r12_1) x11.Deps x11.Taint x11.Turned)).set i2 (GEntry.mk x13.Addr x13.Val r14_1 x13.Taint x13.Turned)).set i2 (GEntry.mk x15.Addr x15.Val x15.Deps (decide ((r14_0.tmod 3) = 0)) x15.Turned))[i2]?).bind fun x16 =>
      L_laws_markEntryS_l0 m (w64 ((w64 (r14_0 + 1)) + 1)) (w64 (v1 + 1)) (((((((((e0.set i2 (GEntry.mk r4_1 x3.Val x3.Deps x3.Taint x3.Turned)).set i2 (GEntry.mk x5.Addr (GValue.mk r4_0 x5.Val.N x5.Val.S x5.Val.K x5.Val.L) x5.Deps x5.Taint x5.Turned)).set i2 (GEntry.mk x6.Addr (GValue.mk x6.Val.Kind (w64 (r4_0 + 1)) x6.Val.S x6.Val.K x6.Val.L) x6.Deps x6.Taint x6.Turned)).set i2 (GEntry.mk x7.Addr (GValue.mk x7.Val.Kind x7.Val.N r8_1 x7.Val.K x7.Val.L) x7.Deps x7.Taint x7.Turned)).set i2 (GEntry.mk x9.Addr (GValue.mk x9.Val.Kind x9.Val.N x9.Val.S r10_1 x9.Val.L) x9.Deps x9.Taint x9.Turned)).set i2 (GEntry.mk x11.Addr (GValue.mk x11.Val.Kind x11.Val.N x11.Val.S x11.Val.K r12_1) x11.Deps x11.Taint x11.Turned)).set i2 (GEntry.mk x13.Addr x13.Val r14_1 x13.Taint x13.Turned)).set i2 (GEntry.mk x15.Addr x15.Val x15.Deps (decide ((r14_0.tmod 3) = 0)) x15.Turned)).set i2 (GEntry.mk x16.Addr x16.Val x16.Deps x16.Taint (w64 (r14_0 + 1))))
    else
      some (a0, v1, e0)
theorem gl_laws_markEntryS_l0 (m : Nat) : ∀ (a0 : Int) (v1 : Int) (e0 : (List GEntry)) (o : (Int × Int × (List GEntry))), L_laws_markEntryS_l0 m a0 v1 e0 = some o → (mach cfg).loop 69 (loopB Tryz.f69 0) ⟨[(0, .val false [.ref 0]), (1, .val false [.int .i64 a0]), (5, .val false [.int .i64 v1])], [.obj 9 (eL o_GEntry e0)], 1⟩ = some (match o with | ⟨o_0, o_1, o_2⟩ => (.exit 0, (⟨[(0, .val false [.ref 0]), (1, .val false [.int .i64 o_0]), (5, .val false [.int .i64 o_1]), (9, .val false [.bool false])], [.obj 9 (eL o_GEntry o_2)], 1⟩ : S))) := by
  induction m with
  | zero => intro a0 v1 e0 o h; cases h
  | succ m ih =>
    intro a0 v1 e0 o h
    rw [L_laws_markEntryS_l0] at h
    rcases ite_some h with ⟨c1, h⟩ | ⟨c1, h⟩
    ·obtain ⟨i2, hi2, h⟩ := bs h
     obtain ⟨x3, hx3, h⟩ := bs h
     obtain ⟨⟨r4_0, r4_1⟩, hr4, h⟩ := bs h
     try dsimp only at h
     obtain ⟨x5, hx5, h⟩ := bs h
     obtain ⟨x6, hx6, h⟩ := bs h
     obtain ⟨x7, hx7, h⟩ := bs h
     obtain ⟨⟨r8_0, r8_1⟩, hr8, h⟩ := bs h
     try dsimp only at h
     obtain ⟨x9, hx9, h⟩ := bs h
     obtain ⟨⟨r10_0, r10_1⟩, hr10, h⟩ := bs h
     try dsimp only at h
     obtain ⟨x11, hx11, h⟩ := bs h
     obtain ⟨⟨r12_0, r12_1⟩, hr12, h⟩ := bs h
     try dsimp only at h
     obtain ⟨x13, hx13, h⟩ := bs h
     obtain ⟨⟨r14_0, r14_1⟩, hr14, h⟩ := bs h
     try dsimp only at h
     obtain ⟨x15, hx15, h⟩ := bs h
     obtain ⟨x16, hx16, h⟩ := bs h
     exact loop_nQ [.le o_GEntry e0, .lT c1, .na hi2, .ix hx3 (oeq_GEntry x3), .ix hx3 (oeq_GEntry x3), .cl (ok_laws_markByteS a0 x3.Addr _ hr4), .ix hx3 (oeq_GEntry x3), ⟨.setL (eL o_GEntry e0) i2 [.own 1 (eL e_u8 r4_1), .int .i64 x3.Val.Kind, .int .i64 x3.Val.N, .own 1 (eL e_u8 x3.Val.S), .own 1 (eL (o_sl 1 e_u8) x3.Val.K), .own 5 (eL o_GValue x3.Val.L), .own 1 (eL (o_sl 1 e_u8) x3.Deps), .bool x3.Taint, .int .i64 x3.Turned], .l (eL o_GEntry (e0.set i2 (GEntry.mk r4_1 x3.Val x3.Deps x3.Taint x3.Turned))), (A.setL (oeq_GEntry (GEntry.mk r4_1 x3.Val x3.Deps x3.Taint x3.Turned)))⟩, .na hi2, .ix hx5 (oeq_GEntry x5), .ix hx5 (oeq_GEntry x5), ⟨.setL (eL o_GEntry (e0.set i2 (GEntry.mk r4_1 x3.Val x3.Deps x3.Taint x3.Turned))) i2 [.own 1 (eL e_u8 x5.Addr), .int .i64 r4_0, .int .i64 x5.Val.N, .own 1 (eL e_u8 x5.Val.S), .own 1 (eL (o_sl 1 e_u8) x5.Val.K), .own 5 (eL o_GValue x5.Val.L), .own 1 (eL (o_sl 1 e_u8) x5.Deps), .bool x5.Taint, .int .i64 x5.Turned], .l (eL o_GEntry ((e0.set i2 (GEntry.mk r4_1 x3.Val x3.Deps x3.Taint x3.Turned)).set i2 (GEntry.mk x5.Addr (GValue.mk r4_0 x5.Val.N x5.Val.S x5.Val.K x5.Val.L) x5.Deps x5.Taint x5.Turned))), (A.setL (oeq_GEntry (GEntry.mk x5.Addr (GValue.mk r4_0 x5.Val.N x5.Val.S x5.Val.K x5.Val.L) x5.Deps x5.Taint x5.Turned)))⟩, .ad r4_0 1, .na hi2, .ix hx6 (oeq_GEntry x6), .ix hx6 (oeq_GEntry x6), ⟨.setL (eL o_GEntry ((e0.set i2 (GEntry.mk r4_1 x3.Val x3.Deps x3.Taint x3.Turned)).set i2 (GEntry.mk x5.Addr (GValue.mk r4_0 x5.Val.N x5.Val.S x5.Val.K x5.Val.L) x5.Deps x5.Taint x5.Turned))) i2 [.own 1 (eL e_u8 x6.Addr), .int .i64 x6.Val.Kind, .int .i64 (w64 (r4_0 + 1)), .own 1 (eL e_u8 x6.Val.S), .own 1 (eL (o_sl 1 e_u8) x6.Val.K), .own 5 (eL o_GValue x6.Val.L), .own 1 (eL (o_sl 1 e_u8) x6.Deps), .bool x6.Taint, .int .i64 x6.Turned], .l (eL o_GEntry (((e0.set i2 (GEntry.mk r4_1 x3.Val x3.Deps x3.Taint x3.Turned)).set i2 (GEntry.mk x5.Addr (GValue.mk r4_0 x5.Val.N x5.Val.S x5.Val.K x5.Val.L) x5.Deps x5.Taint x5.Turned)).set i2 (GEntry.mk x6.Addr (GValue.mk x6.Val.Kind (w64 (r4_0 + 1)) x6.Val.S x6.Val.K x6.Val.L) x6.Deps x6.Taint x6.Turned))), (A.setL (oeq_GEntry (GEntry.mk x6.Addr (GValue.mk x6.Val.Kind (w64 (r4_0 + 1)) x6.Val.S x6.Val.K x6.Val.L) x6.Deps x6.Taint x6.Turned)))⟩, .ad (w64 (r4_0 + 1)) 1, .na hi2, .ix hx7 (oeq_GEntry x7), .ix hx7 (oeq_GEntry x7), .cl (ok_laws_markByteS (w64 ((w64 (r4_0 + 1)) + 1)) x7.Val.S _ hr8), .ix hx7 (oeq_GEntry x7), ⟨.setL (eL o_GEntry (((e0.set i2 (GEntry.mk r4_1 x3.Val x3.Deps x3.Taint x3.Turned)).set i2 (GEntry.mk x5.Addr (GValue.mk r4_0 x5.Val.N x5.Val.S x5.Val.K x5.Val.L) x5.Deps x5.Taint x5.Turned)).set i2 (GEntry.mk x6.Addr (GValue.mk x6.Val.Kind (w64 (r4_0 + 1)) x6.Val.S x6.Val.K x6.Val.L) x6.Deps x6.Taint x6.Turned))) i2 [.own 1 (eL e_u8 x7.Addr), .int .i64 x7.Val.Kind, .int .i64 x7.Val.N, .own 1 (eL e_u8 r8_1), .own 1 (eL (o_sl 1 e_u8) x7.Val.K), .own 5 (eL o_GValue x7.Val.L), .own 1 (eL (o_sl 1 e_u8) x7.Deps), .bool x7.Taint, .int .i64 x7.Turned], .l (eL o_GEntry ((((e0.set i2 (GEntry.mk r4_1 x3.Val x3.Deps x3.Taint x3.Turned)).set i2 (GEntry.mk x5.Addr (GValue.mk r4_0 x5.Val.N x5.Val.S x5.Val.K x5.Val.L) x5.Deps x5.Taint x5.Turned)).set i2 (GEntry.mk x6.Addr (GValue.mk x6.Val.Kind (w64 (r4_0 + 1)) x6.Val.S x6.Val.K x6.Val.L) x6.Deps x6.Taint x6.Turned)).set i2 (GEntry.mk x7.Addr (GValue.mk x7.Val.Kind x7.Val.N r8_1 x7.Val.K x7.Val.L) x7.Deps x7.Taint x7.Turned))), (A.setL (oeq_GEntry (GEntry.mk x7.Addr (GValue.mk x7.Val.Kind x7.Val.N r8_1 x7.Val.K x7.Val.L) x7.Deps x7.Taint x7.Turned)))⟩, .na hi2, .ix hx9 (oeq_GEntry x9), .ix hx9 (oeq_GEntry x9), .cl (ok_laws_markByteSS r8_0 x9.Val.K _ hr10), .ix hx9 (oeq_GEntry x9), ⟨.setL (eL o_GEntry ((((e0.set i2 (GEntry.mk r4_1 x3.Val x3.Deps x3.Taint x3.Turned)).set i2 (GEntry.mk x5.Addr (GValue.mk r4_0 x5.Val.N x5.Val.S x5.Val.K x5.Val.L) x5.Deps x5.Taint x5.Turned)).set i2 (GEntry.mk x6.Addr (GValue.mk x6.Val.Kind (w64 (r4_0 + 1)) x6.Val.S x6.Val.K x6.Val.L) x6.Deps x6.Taint x6.Turned)).set i2 (GEntry.mk x7.Addr (GValue.mk x7.Val.Kind x7.Val.N r8_1 x7.Val.K x7.Val.L) x7.Deps x7.Taint x7.Turned))) i2 [.own 1 (eL e_u8 x9.Addr), .int .i64 x9.Val.Kind, .int .i64 x9.Val.N, .own 1 (eL e_u8 x9.Val.S), .own 1 (eL (o_sl 1 e_u8) r10_1), .own 5 (eL o_GValue x9.Val.L), .own 1 (eL (o_sl 1 e_u8) x9.Deps), .bool x9.Taint, .int .i64 x9.Turned], .l (eL o_GEntry (((((e0.set i2 (GEntry.mk r4_1 x3.Val x3.Deps x3.Taint x3.Turned)).set i2 (GEntry.mk x5.Addr (GValue.mk r4_0 x5.Val.N x5.Val.S x5.Val.K x5.Val.L) x5.Deps x5.Taint x5.Turned)).set i2 (GEntry.mk x6.Addr (GValue.mk x6.Val.Kind (w64 (r4_0 + 1)) x6.Val.S x6.Val.K x6.Val.L) x6.Deps x6.Taint x6.Turned)).set i2 (GEntry.mk x7.Addr (GValue.mk x7.Val.Kind x7.Val.N r8_1 x7.Val.K x7.Val.L) x7.Deps x7.Taint x7.Turned)).set i2 (GEntry.mk x9.Addr (GValue.mk x9.Val.Kind x9.Val.N x9.Val.S r10_1 x9.Val.L) x9.Deps x9.Taint x9.Turned))), (A.setL (oeq_GEntry (GEntry.mk x9.Addr (GValue.mk x9.Val.Kind x9.Val.N x9.Val.S r10_1 x9.Val.L) x9.Deps x9.Taint x9.Turned)))⟩, .na hi2, .ix hx11 (oeq_GEntry x11), .ix hx11 (oeq_GEntry x11), .cl (ok_laws_markValueS r10_0 x11.Val.L _ hr12), .ix hx11 (oeq_GEntry x11), ⟨.setL (eL o_GEntry (((((e0.set i2 (GEntry.mk r4_1 x3.Val x3.Deps x3.Taint x3.Turned)).set i2 (GEntry.mk x5.Addr (GValue.mk r4_0 x5.Val.N x5.Val.S x5.Val.K x5.Val.L) x5.Deps x5.Taint x5.Turned)).set i2 (GEntry.mk x6.Addr (GValue.mk x6.Val.Kind (w64 (r4_0 + 1)) x6.Val.S x6.Val.K x6.Val.L) x6.Deps x6.Taint x6.Turned)).set i2 (GEntry.mk x7.Addr (GValue.mk x7.Val.Kind x7.Val.N r8_1 x7.Val.K x7.Val.L) x7.Deps x7.Taint x7.Turned)).set i2 (GEntry.mk x9.Addr (GValue.mk x9.Val.Kind x9.Val.N x9.Val.S r10_1 x9.Val.L) x9.Deps x9.Taint x9.Turned))) i2 [.own 1 (eL e_u8 x11.Addr), .int .i64 x11.Val.Kind, .int .i64 x11.Val.N, .own 1 (eL e_u8 x11.Val.S), .own 1 (eL (o_sl 1 e_u8) x11.Val.K), .own 5 (eL o_GValue r12_1), .own 1 (eL (o_sl 1 e_u8) x11.Deps), .bool x11.Taint, .int .i64 x11.Turned], .l (eL o_GEntry ((((((e0.set i2 (GEntry.mk r4_1 x3.Val x3.Deps x3.Taint x3.Turned)).set i2 (GEntry.mk x5.Addr (GValue.mk r4_0 x5.Val.N x5.Val.S x5.Val.K x5.Val.L) x5.Deps x5.Taint x5.Turned)).set i2 (GEntry.mk x6.Addr (GValue.mk x6.Val.Kind (w64 (r4_0 + 1)) x6.Val.S x6.Val.K x6.Val.L) x6.Deps x6.Taint x6.Turned)).set i2 (GEntry.mk x7.Addr (GValue.mk x7.Val.Kind x7.Val.N r8_1 x7.Val.K x7.Val.L) x7.Deps x7.Taint x7.Turned)).set i2 (GEntry.mk x9.Addr (GValue.mk x9.Val.Kind x9.Val.N x9.Val.S r10_1 x9.Val.L) x9.Deps x9.Taint x9.Turned)).set i2 (GEntry.mk x11.Addr (GValue.mk x11.Val.Kind x11.Val.N x11.Val.S x11.Val.K r12_1) x11.Deps x11.Taint x11.Turned))), (A.setL (oeq_GEntry (GEntry.mk x11.Addr (GValue.mk x11.Val.Kind x11.Val.N x11.Val.S x11.Val.K r12_1) x11.Deps x11.Taint x11.Turned)))⟩, .na hi2, .ix hx13 (oeq_GEntry x13), .ix hx13 (oeq_GEntry x13), .cl (ok_laws_markByteSS r12_0 x13.Deps _ hr14), .ix hx13 (oeq_GEntry x13), ⟨.setL (eL o_GEntry ((((((e0.set i2 (GEntry.mk r4_1 x3.Val x3.Deps x3.Taint x3.Turned)).set i2 (GEntry.mk x5.Addr (GValue.mk r4_0 x5.Val.N x5.Val.S x5.Val.K x5.Val.L) x5.Deps x5.Taint x5.Turned)).set i2 (GEntry.mk x6.Addr (GValue.mk x6.Val.Kind (w64 (r4_0 + 1)) x6.Val.S x6.Val.K x6.Val.L) x6.Deps x6.Taint x6.Turned)).set i2 (GEntry.mk x7.Addr (GValue.mk x7.Val.Kind x7.Val.N r8_1 x7.Val.K x7.Val.L) x7.Deps x7.Taint x7.Turned)).set i2 (GEntry.mk x9.Addr (GValue.mk x9.Val.Kind x9.Val.N x9.Val.S r10_1 x9.Val.L) x9.Deps x9.Taint x9.Turned)).set i2 (GEntry.mk x11.Addr (GValue.mk x11.Val.Kind x11.Val.N x11.Val.S x11.Val.K r12_1) x11.Deps x11.Taint x11.Turned))) i2 [.own 1 (eL e_u8 x13.Addr), .int .i64 x13.Val.Kind, .int .i64 x13.Val.N, .own 1 (eL e_u8 x13.Val.S), .own 1 (eL (o_sl 1 e_u8) x13.Val.K), .own 5 (eL o_GValue x13.Val.L), .own 1 (eL (o_sl 1 e_u8) r14_1), .bool x13.Taint, .int .i64 x13.Turned], .l (eL o_GEntry (((((((e0.set i2 (GEntry.mk r4_1 x3.Val x3.Deps x3.Taint x3.Turned)).set i2 (GEntry.mk x5.Addr (GValue.mk r4_0 x5.Val.N x5.Val.S x5.Val.K x5.Val.L) x5.Deps x5.Taint x5.Turned)).set i2 (GEntry.mk x6.Addr (GValue.mk x6.Val.Kind (w64 (r4_0 + 1)) x6.Val.S x6.Val.K x6.Val.L) x6.Deps x6.Taint x6.Turned)).set i2 (GEntry.mk x7.Addr (GValue.mk x7.Val.Kind x7.Val.N r8_1 x7.Val.K x7.Val.L) x7.Deps x7.Taint x7.Turned)).set i2 (GEntry.mk x9.Addr (GValue.mk x9.Val.Kind x9.Val.N x9.Val.S r10_1 x9.Val.L) x9.Deps x9.Taint x9.Turned)).set i2 (GEntry.mk x11.Addr (GValue.mk x11.Val.Kind x11.Val.N x11.Val.S x11.Val.K r12_1) x11.Deps x11.Taint x11.Turned)).set i2 (GEntry.mk x13.Addr x13.Val r14_1 x13.Taint x13.Turned))), (A.setL (oeq_GEntry (GEntry.mk x13.Addr x13.Val r14_1 x13.Taint x13.Turned)))⟩, ⟨.nz 3, .b true, rfl⟩, ⟨.rem r14_0 3, .i (r14_0.tmod 3), rfl⟩, .eD (r14_0.tmod 3) 0, .na hi2, .ix hx15 (oeq_GEntry x15), .ix hx15 (oeq_GEntry x15), ⟨.setL (eL o_GEntry (((((((e0.set i2 (GEntry.mk r4_1 x3.Val x3.Deps x3.Taint x3.Turned)).set i2 (GEntry.mk x5.Addr (GValue.mk r4_0 x5.Val.N x5.Val.S x5.Val.K x5.Val.L) x5.Deps x5.Taint x5.Turned)).set i2 (GEntry.mk x6.Addr (GValue.mk x6.Val.Kind (w64 (r4_0 + 1)) x6.Val.S x6.Val.K x6.Val.L) x6.Deps x6.Taint x6.Turned)).set i2 (GEntry.mk x7.Addr (GValue.mk x7.Val.Kind x7.Val.N r8_1 x7.Val.K x7.Val.L) x7.Deps x7.Taint x7.Turned)).set i2 (GEntry.mk x9.Addr (GValue.mk x9.Val.Kind x9.Val.N x9.Val.S r10_1 x9.Val.L) x9.Deps x9.Taint x9.Turned)).set i2 (GEntry.mk x11.Addr (GValue.mk x11.Val.Kind x11.Val.N x11.Val.S x11.Val.K r12_1) x11.Deps x11.Taint x11.Turned)).set i2 (GEntry.mk x13.Addr x13.Val r14_1 x13.Taint x13.Turned))) i2 [.own 1 (eL e_u8 x15.Addr), .int .i64 x15.Val.Kind, .int .i64 x15.Val.N, .own 1 (eL e_u8 x15.Val.S), .own 1 (eL (o_sl 1 e_u8) x15.Val.K), .own 5 (eL o_GValue x15.Val.L), .own 1 (eL (o_sl 1 e_u8) x15.Deps), .bool (decide ((r14_0.tmod 3) = 0)), .int .i64 x15.Turned], .l (eL o_GEntry ((((((((e0.set i2 (GEntry.mk r4_1 x3.Val x3.Deps x3.Taint x3.Turned)).set i2 (GEntry.mk x5.Addr (GValue.mk r4_0 x5.Val.N x5.Val.S x5.Val.K x5.Val.L) x5.Deps x5.Taint x5.Turned)).set i2 (GEntry.mk x6.Addr (GValue.mk x6.Val.Kind (w64 (r4_0 + 1)) x6.Val.S x6.Val.K x6.Val.L) x6.Deps x6.Taint x6.Turned)).set i2 (GEntry.mk x7.Addr (GValue.mk x7.Val.Kind x7.Val.N r8_1 x7.Val.K x7.Val.L) x7.Deps x7.Taint x7.Turned)).set i2 (GEntry.mk x9.Addr (GValue.mk x9.Val.Kind x9.Val.N x9.Val.S r10_1 x9.Val.L) x9.Deps x9.Taint x9.Turned)).set i2 (GEntry.mk x11.Addr (GValue.mk x11.Val.Kind x11.Val.N x11.Val.S x11.Val.K r12_1) x11.Deps x11.Taint x11.Turned)).set i2 (GEntry.mk x13.Addr x13.Val r14_1 x13.Taint x13.Turned)).set i2 (GEntry.mk x15.Addr x15.Val x15.Deps (decide ((r14_0.tmod 3) = 0)) x15.Turned))), (A.setL (oeq_GEntry (GEntry.mk x15.Addr x15.Val x15.Deps (decide ((r14_0.tmod 3) = 0)) x15.Turned)))⟩, .ad r14_0 1, .na hi2, .ix hx16 (oeq_GEntry x16), .ix hx16 (oeq_GEntry x16), ⟨.setL (eL o_GEntry ((((((((e0.set i2 (GEntry.mk r4_1 x3.Val x3.Deps x3.Taint x3.Turned)).set i2 (GEntry.mk x5.Addr (GValue.mk r4_0 x5.Val.N x5.Val.S x5.Val.K x5.Val.L) x5.Deps x5.Taint x5.Turned)).set i2 (GEntry.mk x6.Addr (GValue.mk x6.Val.Kind (w64 (r4_0 + 1)) x6.Val.S x6.Val.K x6.Val.L) x6.Deps x6.Taint x6.Turned)).set i2 (GEntry.mk x7.Addr (GValue.mk x7.Val.Kind x7.Val.N r8_1 x7.Val.K x7.Val.L) x7.Deps x7.Taint x7.Turned)).set i2 (GEntry.mk x9.Addr (GValue.mk x9.Val.Kind x9.Val.N x9.Val.S r10_1 x9.Val.L) x9.Deps x9.Taint x9.Turned)).set i2 (GEntry.mk x11.Addr (GValue.mk x11.Val.Kind x11.Val.N x11.Val.S x11.Val.K r12_1) x11.Deps x11.Taint x11.Turned)).set i2 (GEntry.mk x13.Addr x13.Val r14_1 x13.Taint x13.Turned)).set i2 (GEntry.mk x15.Addr x15.Val x15.Deps (decide ((r14_0.tmod 3) = 0)) x15.Turned))) i2 [.own 1 (eL e_u8 x16.Addr), .int .i64 x16.Val.Kind, .int .i64 x16.Val.N, .own 1 (eL e_u8 x16.Val.S), .own 1 (eL (o_sl 1 e_u8) x16.Val.K), .own 5 (eL o_GValue x16.Val.L), .own 1 (eL (o_sl 1 e_u8) x16.Deps), .bool x16.Taint, .int .i64 (w64 (r14_0 + 1))], .l (eL o_GEntry (((((((((e0.set i2 (GEntry.mk r4_1 x3.Val x3.Deps x3.Taint x3.Turned)).set i2 (GEntry.mk x5.Addr (GValue.mk r4_0 x5.Val.N x5.Val.S x5.Val.K x5.Val.L) x5.Deps x5.Taint x5.Turned)).set i2 (GEntry.mk x6.Addr (GValue.mk x6.Val.Kind (w64 (r4_0 + 1)) x6.Val.S x6.Val.K x6.Val.L) x6.Deps x6.Taint x6.Turned)).set i2 (GEntry.mk x7.Addr (GValue.mk x7.Val.Kind x7.Val.N r8_1 x7.Val.K x7.Val.L) x7.Deps x7.Taint x7.Turned)).set i2 (GEntry.mk x9.Addr (GValue.mk x9.Val.Kind x9.Val.N x9.Val.S r10_1 x9.Val.L) x9.Deps x9.Taint x9.Turned)).set i2 (GEntry.mk x11.Addr (GValue.mk x11.Val.Kind x11.Val.N x11.Val.S x11.Val.K r12_1) x11.Deps x11.Taint x11.Turned)).set i2 (GEntry.mk x13.Addr x13.Val r14_1 x13.Taint x13.Turned)).set i2 (GEntry.mk x15.Addr x15.Val x15.Deps (decide ((r14_0.tmod 3) = 0)) x15.Turned)).set i2 (GEntry.mk x16.Addr x16.Val x16.Deps x16.Taint (w64 (r14_0 + 1))))), (A.setL (oeq_GEntry (GEntry.mk x16.Addr x16.Val x16.Deps x16.Taint (w64 (r14_0 + 1)))))⟩, .ad (w64 (r14_0 + 1)) 1, .ad v1 1] (by kernel_rfl) (ih (w64 ((w64 (r14_0 + 1)) + 1)) (w64 (v1 + 1)) (((((((((e0.set i2 (GEntry.mk r4_1 x3.Val x3.Deps x3.Taint x3.Turned)).set i2 (GEntry.mk x5.Addr (GValue.mk r4_0 x5.Val.N x5.Val.S x5.Val.K x5.Val.L) x5.Deps x5.Taint x5.Turned)).set i2 (GEntry.mk x6.Addr (GValue.mk x6.Val.Kind (w64 (r4_0 + 1)) x6.Val.S x6.Val.K x6.Val.L) x6.Deps x6.Taint x6.Turned)).set i2 (GEntry.mk x7.Addr (GValue.mk x7.Val.Kind x7.Val.N r8_1 x7.Val.K x7.Val.L) x7.Deps x7.Taint x7.Turned)).set i2 (GEntry.mk x9.Addr (GValue.mk x9.Val.Kind x9.Val.N x9.Val.S r10_1 x9.Val.L) x9.Deps x9.Taint x9.Turned)).set i2 (GEntry.mk x11.Addr (GValue.mk x11.Val.Kind x11.Val.N x11.Val.S x11.Val.K r12_1) x11.Deps x11.Taint x11.Turned)).set i2 (GEntry.mk x13.Addr x13.Val r14_1 x13.Taint x13.Turned)).set i2 (GEntry.mk x15.Addr x15.Val x15.Deps (decide ((r14_0.tmod 3) = 0)) x15.Turned)).set i2 (GEntry.mk x16.Addr x16.Val x16.Deps x16.Taint (w64 (r14_0 + 1)))) o h)
    ·obtain rfl := Option.some.inj h
     exact loop_eQ [.le o_GEntry e0, .lF c1] (by kernel_rfl) (by intro h; cases h)
def T_laws_markEntryS (n : Nat) (a0 : Int) (e0 : (List GEntry)) : Option (Int × (List GEntry)) :=
  (L_laws_markEntryS_l0 n a0 0 e0).bind fun ⟨o1_0, o1_1, o1_2⟩ =>
  some (o1_0, o1_2)
set_option maxRecDepth 100000 in
theorem fd_69 : cfg.funcs 69 = some (bodyOf Tryz.f69, Tryz.f69.ntmps, Tryz.f69.results.toList) := fn_of Tryz.func69 (by kernel_rfl) (by kernel_rfl)
theorem g_laws_markEntryS (n : Nat) (a0 : Int) (e0 : (List GEntry)) (r : (Int × (List GEntry))) (h : T_laws_markEntryS n a0 e0 = some r) : (mach cfg).call 69 [.obj 9 (eL o_GEntry e0)] [.val false [.ref 0], .val false [.int .i64 a0]] = some (.val false [.int .i64 r.1], [.obj 9 (eL o_GEntry r.2)]) := by
  unfold T_laws_markEntryS at h
  obtain ⟨⟨o1_0, o1_1, o1_2⟩, ho1, h⟩ := bs h
  try dsimp only at h
  obtain rfl := Option.some.inj h
  exact call_wQ [.lp (gl_laws_markEntryS_l0 _ a0 0 e0 _ ho1)] rfl fd_69 (by kernel_rfl)
theorem markEntryS_loop : ∀ (l p : List GEntry) (k : Int) (m : Nat), 0 <= k → k + 4 * eszs l <= 2 ^ 40 → p.length + l.length <= 2 ^ 40 → l.length < m → ∃ z, L_laws_markEntryS_l0 m k ((p.length : Nat) : Int) (p ++ l) = some (k + cEs l, z, p ++ mEs k l) := by
  intro l
  induction l with
  | nil =>
    intro p k m _ _ _ hm
    obtain ⟨m, rfl, _⟩ := fuel hm
    exact ⟨_, by rw [L_laws_markEntryS_l0, if_neg (nlt_end p)]; simp [mEs, cEs]; rfl⟩
  | cons x l ih =>
    intro p k m h0 h1 h2 hm
    obtain ⟨m, rfl, hm'⟩ := fuel hm
    simp only [List.length_cons] at h2 hm'
    have hc := cE_le x
    simp only [eszs] at h1
    obtain ⟨z, hz⟩ := ih (p ++ [mE k x]) (k + cE x) m (by omega) (by omega) (by simp; omega) (by omega)
    have hcv := cV_le x.Val
    have hcd := bsz_cB x.Deps
    have hve := vsz_eq x.Val
    have hcq := cV_eq x.Val
    have hmq := mV_eq (k + x.Addr.length) x.Val
    have hb := bsz_cB x.Val.K
    have hd := cVs_le x.Val.L
    have hmE : mE k x = .mk (mB k x.Addr) (mV (k + x.Addr.length) x.Val) (mBB (k + x.Addr.length + cV x.Val) x.Deps) (decide ((k + x.Addr.length + cV x.Val + cB x.Deps).tmod 3 = 0)) (k + x.Addr.length + cV x.Val + cB x.Deps + 1) := rfl
    have hcE : cE x = x.Addr.length + cV x.Val + cB x.Deps + 2 := rfl
    unfold esz at h1 hc
    obtain ⟨ad, v, dp, ta, tu⟩ := x
    obtain ⟨kd, n, s, kk, ks⟩ := v
    simp only [GEntry.Addr, GEntry.Val, GEntry.Deps, GValue.S, GValue.K, GValue.L] at *
    rw [L_laws_markEntryS_l0, if_pos (lt_mid p _ l), natO_nat, Option.bind_some, get_mid, Option.bind_some]
    simp only [GEntry.Addr, GEntry.Val, GEntry.Deps, GEntry.Taint, GEntry.Turned]
    rw [markByteS_eq (by omega) (by omega)]
    simp only [Option.bind_some, set_mid, get_mid, GValue.Kind, GValue.N, GValue.S, GValue.K, GValue.L, GEntry.Addr, GEntry.Val, GEntry.Deps, GEntry.Taint, GEntry.Turned]
    rw [w64_id (x := k + (ad.length : Int) + 1) (by omega) (by omega), w64_id (x := k + (ad.length : Int) + 1 + 1) (by omega) (by omega), markByteS_eq (by omega) (by omega)]
    simp only [Option.bind_some, set_mid, get_mid, GValue.Kind, GValue.N, GValue.S, GValue.K, GValue.L, GEntry.Addr, GEntry.Val, GEntry.Deps, GEntry.Taint, GEntry.Turned]
    rw [markByteSS_eq (by omega) (by omega)]
    simp only [Option.bind_some, set_mid, get_mid, GValue.Kind, GValue.N, GValue.S, GValue.K, GValue.L, GEntry.Addr, GEntry.Val, GEntry.Deps, GEntry.Taint, GEntry.Turned]
    rw [markValueS_eq (by omega) (by omega)]
    simp only [Option.bind_some, set_mid, get_mid, GValue.Kind, GValue.N, GValue.S, GValue.K, GValue.L, GEntry.Addr, GEntry.Val, GEntry.Deps, GEntry.Taint, GEntry.Turned]
    have e1 : k + (ad.length : Int) + 1 + 1 + (s.length : Int) + (cB kk : Int) + (cVs ks : Int) = k + (ad.length : Int) + (cV (.mk kd n s kk ks) : Int) := by omega
    rw [e1, markByteSS_eq (by omega) (by omega)]
    simp only [Option.bind_some, set_mid, get_mid, GValue.Kind, GValue.N, GValue.S, GValue.K, GValue.L, GEntry.Addr, GEntry.Val, GEntry.Deps, GEntry.Taint, GEntry.Turned]
    rw [w64_id (x := k + (ad.length : Int) + (cV (.mk kd n s kk ks) : Int) + (cB dp : Int) + 1) (by omega) (by omega), w64_id (x := k + (ad.length : Int) + (cV (.mk kd n s kk ks) : Int) + (cB dp : Int) + 1 + 1) (by omega) (by omega), <- hmq]
    refine ⟨z, Eq.trans ?_ (Eq.trans hz ?_)⟩
    · congr 1
      · omega
      · exact w64_len p (mE k _) (by omega)
      · rw [List.append_assoc, List.singleton_append, hmE]; congr
    simp only [mEs, cEs, List.append_assoc, List.singleton_append]
    rw [show k + ((cE (.mk ad (.mk kd n s kk ks) dp ta tu) : Nat) : Int) + (cEs l : Int) = k + ((cE (.mk ad (.mk kd n s kk ks) dp ta tu) + cEs l : Nat) : Int) by omega]
def S_laws_markEntryS (a0 : Int) (e0 : (List GEntry)) : Option (Int × (List GEntry)) := if 0 <= a0 ∧ a0 + 4 * eszs e0 <= 2 ^ 40 then some (a0 + cEs e0, mEs a0 e0) else none
theorem markEntryS_eq {a : Int} {s : List GEntry} (h0 : 0 <= a) (h1 : a + 4 * eszs s <= 2 ^ 40) : S_laws_markEntryS a s = some (a + cEs s, mEs a s) := if_pos ⟨h0, h1⟩
theorem spec_laws_markEntryS (a0 : Int) (e0 : (List GEntry)) (r : (Int × (List GEntry))) (h : S_laws_markEntryS a0 e0 = some r) : ∃ n, T_laws_markEntryS n a0 e0 = some r := by
  unfold S_laws_markEntryS at h
  obtain ⟨⟨h0, h1⟩, h⟩ := need_c h
  have := eszs_len e0
  obtain ⟨z, hz⟩ := markEntryS_loop e0 [] a0 (e0.length + 1) h0 h1 (by simp; omega) (by omega)
  refine ⟨e0.length + 1, ?_⟩
  unfold T_laws_markEntryS
  simp only [List.nil_append, List.length_nil, Int.natCast_zero] at hz
  rw [hz]
  exact h
theorem ok_laws_markEntryS (a0 : Int) (e0 : (List GEntry)) (r : (Int × (List GEntry))) (h : S_laws_markEntryS a0 e0 = some r) : (mach cfg).call 69 [.obj 9 (eL o_GEntry e0)] [.val false [.ref 0], .val false [.int .i64 a0]] = some (.val false [.int .i64 r.1], [.obj 9 (eL o_GEntry r.2)]) := by
  obtain ⟨n, hn⟩ := spec_laws_markEntryS a0 e0 r h
  exact g_laws_markEntryS n a0 e0 r hn
def S_laws_markState (a0_0 : Int) (a0_1 : Bool) (a0_3 : Int) (a1 : Int) (e0 : (List UInt8)) (e1 : (List GEntry)) : Option (Int × (List UInt8) × (List GEntry)) :=
  (S_laws_markByteS a1 e0).bind fun ⟨r1_0, r1_1⟩ =>
  (S_laws_markEntryS r1_0 e1).bind fun ⟨r2_0, r2_1⟩ =>
  some (r2_0, r1_1, r2_1)
set_option maxRecDepth 100000 in
theorem fd_21 : cfg.funcs 21 = some (bodyOf Tryz.f21, Tryz.f21.ntmps, Tryz.f21.results.toList) := fn_of Tryz.func21 (by kernel_rfl) (by kernel_rfl)
theorem ok_laws_markState (a0_0 : Int) (a0_1 : Bool) (a0_3 : Int) (a1 : Int) (e0 : (List UInt8)) (e1 : (List GEntry)) (r : (Int × (List UInt8) × (List GEntry))) (h : S_laws_markState a0_0 a0_1 a0_3 a1 e0 e1 = some r) : (mach cfg).call 21 [.obj 1 (eL e_u8 e0), .obj 9 (eL o_GEntry e1)] [.val true [.int .i64 a0_0, .bool a0_1, .ref 0, .int .i64 a0_3, .ref 1], .val false [.int .i64 a1]] = some (.val false [.int .i64 r.1], [.obj 1 (eL e_u8 r.2.1), .obj 9 (eL o_GEntry r.2.2)]) := by
  unfold S_laws_markState at h
  obtain ⟨⟨r1_0, r1_1⟩, hr1, h⟩ := bs h
  try dsimp only at h
  obtain ⟨⟨r2_0, r2_1⟩, hr2, h⟩ := bs h
  try dsimp only at h
  obtain rfl := Option.some.inj h
  exact call_wQ [.cl (ok_laws_markByteS a1 e0 _ hr1), .cl (ok_laws_markEntryS r1_0 e1 _ hr2)] rfl fd_21 (by kernel_rfl)
def L_laws_heldByteS_l0 (a0 : (List UInt8)) : Nat → Int → Int → Option (Int ⊕ (Int × Int))
  | 0, _, _ => none
  | m + 1, a1, v2 =>
    if v2 < ((a0.length : Nat) : Int) then
      (natO v2).bind fun i2 =>
      (a0[i2]?).bind fun x3 =>
      if ((x3.toNat : Nat) : Int) = (((b8 a1).toNat : Nat) : Int) then
        L_laws_heldByteS_l0 a0 m (w64 (a1 + 1)) (w64 (v2 + 1))
      else
        some (.inl (-1))
    else
      some (.inr (a1, v2))
theorem gl_laws_heldByteS_l0 (a0 : (List UInt8)) (m : Nat) : ∀ (a1 : Int) (v2 : Int) (o : (Int ⊕ (Int × Int))), L_laws_heldByteS_l0 a0 m a1 v2 = some o → (mach cfg).loop 40 (loopB Tryz.f40 0) ⟨[(0, .val false [.seq (eL e_u8 a0)]), (1, .val false [.int .i64 a1]), (5, .val false [.int .i64 v2])], [], 0⟩ = some (match o with | .inl o_0 => (.ret, (⟨[(4, .val false [.int .i64 o_0])], [], 0⟩ : S)) | .inr (⟨o_1_0, o_1_1⟩) => (.exit 0, (⟨[(0, .val false [.seq (eL e_u8 a0)]), (1, .val false [.int .i64 o_1_0]), (5, .val false [.int .i64 o_1_1]), (9, .val false [.bool false])], [], 0⟩ : S))) := by
  induction m with
  | zero => intro a1 v2 o h; cases h
  | succ m ih =>
    intro a1 v2 o h
    rw [L_laws_heldByteS_l0] at h
    rcases ite_some h with ⟨c1, h⟩ | ⟨c1, h⟩
    ·obtain ⟨i2, hi2, h⟩ := bs h
     obtain ⟨x3, hx3, h⟩ := bs h
     rcases ite_some h with ⟨c4, h⟩ | ⟨c4, h⟩
     ·exact loop_nQ [.le e_u8 a0, .lT c1, .na hi2, .ix0 e_u8 hx3, ⟨.conv .u8 a1, .i (((b8 a1).toNat : Nat) : Int), A.conv8⟩, .eT c4, .nt true, .ad a1 1, .ad v2 1] (by kernel_rfl) (ih (w64 (a1 + 1)) (w64 (v2 + 1)) o h)
     ·obtain rfl := Option.some.inj h
      exact loop_eQ [.le e_u8 a0, .lT c1, .na hi2, .ix0 e_u8 hx3, ⟨.conv .u8 a1, .i (((b8 a1).toNat : Nat) : Int), A.conv8⟩, .eF c4, .nt false] (by kernel_rfl) (by intro h; cases h)
    ·obtain rfl := Option.some.inj h
     exact loop_eQ [.le e_u8 a0, .lF c1] (by kernel_rfl) (by intro h; cases h)
def T_laws_heldByteS (n : Nat) (a0 : (List UInt8)) (a1 : Int) : Option Int :=
  (L_laws_heldByteS_l0 a0 n a1 0).bind fun o1 =>
  match o1 with
  | .inl o1_0 =>
    some o1_0
  | .inr (⟨o1_1_0, o1_1_1⟩) =>
    some o1_1_0
set_option maxRecDepth 100000 in
theorem fd_40 : cfg.funcs 40 = some (bodyOf Tryz.f40, Tryz.f40.ntmps, Tryz.f40.results.toList) := fn_of Tryz.func40 (by kernel_rfl) (by kernel_rfl)
theorem g_laws_heldByteS (n : Nat) (a0 : (List UInt8)) (a1 : Int) (r : Int) (h : T_laws_heldByteS n a0 a1 = some r) : (mach cfg).call 40 [] [.val false [.seq (eL e_u8 a0)], .val false [.int .i64 a1]] = some (.val false [.int .i64 r], []) := by
  unfold T_laws_heldByteS at h
  obtain ⟨o1, ho1, h⟩ := bs h
  rcases o1 with o1_0 | ⟨o1_1_0, o1_1_1⟩
  · try dsimp only at h
    obtain rfl := Option.some.inj h
    exact call_wQ [.lp (gl_laws_heldByteS_l0 a0 _ a1 0 _ ho1)] rfl fd_40 (by kernel_rfl)
  · try dsimp only at h
    obtain rfl := Option.some.inj h
    exact call_wQ [.lp (gl_laws_heldByteS_l0 a0 _ a1 0 _ ho1)] rfl fd_40 (by kernel_rfl)
theorem heldByteS_loop {a : List UInt8} : ∀ (l p : List UInt8) (k : Int) (m : Nat), a = p ++ l → mB k l = l → 0 <= k → k + 2 * l.length <= 2 ^ 41 → p.length + l.length <= 2 ^ 41 → l.length < m → ∃ z, L_laws_heldByteS_l0 a m k ((p.length : Nat) : Int) = some (.inr (k + l.length, z)) := by
  intro l
  induction l with
  | nil =>
    intro p k m ha _ _ _ _ hm
    subst ha
    obtain ⟨m, rfl, _⟩ := fuel hm
    exact ⟨_, by rw [L_laws_heldByteS_l0, if_neg (nlt_end p)]; simp; rfl⟩
  | cons x l ih =>
    intro p k m ha hm0 h0 h1 h2 hm
    obtain ⟨m, rfl, hm'⟩ := fuel hm
    simp only [List.length_cons] at h1 h2 hm'
    rw [mB] at hm0
    obtain ⟨e1, e2⟩ := List.cons.inj hm0
    obtain ⟨z, hz⟩ := ih (p ++ [x]) (k + 1) m (by rw [ha]; simp) e2 (by omega) (by omega) (by simp; omega) (by omega)
    refine ⟨z, ?_⟩
    rw [L_laws_heldByteS_l0, if_pos (by rw [ha]; exact lt_mid p x l), natO_nat, Option.bind_some, show a[p.length]? = some x by rw [ha]; exact get_mid p x l, Option.bind_some, if_pos (by rw [e1]), w64_len p x (by omega), w64_id (x := k + 1) (by omega) (by omega), hz]
    simp only [List.length_cons]
    rw [show k + 1 + (l.length : Int) = k + ((l.length + 1 : Nat) : Int) by omega]
def S_laws_heldByteS (a0 : (List UInt8)) (a1 : Int) : Option Int := if mB a1 a0 = a0 ∧ 0 <= a1 ∧ a1 + 2 * a0.length <= 2 ^ 41 then some (a1 + a0.length) else none
theorem heldByteS_eq {a : Int} {s : List UInt8} (h : mB a s = s) (h0 : 0 <= a) (h1 : a + 2 * s.length <= 2 ^ 41) : S_laws_heldByteS s a = some (a + s.length) := if_pos ⟨h, h0, h1⟩
theorem spec_laws_heldByteS (a0 : (List UInt8)) (a1 : Int) (r : Int) (h : S_laws_heldByteS a0 a1 = some r) : ∃ n, T_laws_heldByteS n a0 a1 = some r := by
  unfold S_laws_heldByteS at h
  obtain ⟨⟨he, h0, h1⟩, h⟩ := need_c h
  obtain ⟨z, hz⟩ := heldByteS_loop (a := a0) a0 [] a1 (a0.length + 1) rfl he h0 h1 (by simp; omega) (by omega)
  refine ⟨a0.length + 1, ?_⟩
  unfold T_laws_heldByteS
  simp only [List.length_nil, Int.natCast_zero] at hz
  rw [hz]
  exact h
theorem ok_laws_heldByteS (a0 : (List UInt8)) (a1 : Int) (r : Int) (h : S_laws_heldByteS a0 a1 = some r) : (mach cfg).call 40 [] [.val false [.seq (eL e_u8 a0)], .val false [.int .i64 a1]] = some (.val false [.int .i64 r], []) := by
  obtain ⟨n, hn⟩ := spec_laws_heldByteS a0 a1 r h
  exact g_laws_heldByteS n a0 a1 r hn
def L_laws_heldByteSS_l0 (a0 : (List (List UInt8))) : Nat → Int → Int → Option (Int ⊕ (Int × Int))
  | 0, _, _ => none
  | m + 1, a1, v2 =>
    if v2 < ((a0.length : Nat) : Int) then
      (natO v2).bind fun i2 =>
      (a0[i2]?).bind fun x3 =>
      (S_laws_heldByteS x3 a1).bind fun r4 =>
      if r4 < 0 then
        some (.inl (-1))
      else
        L_laws_heldByteSS_l0 a0 m r4 (w64 (v2 + 1))
    else
      some (.inr (a1, v2))
theorem gl_laws_heldByteSS_l0 (a0 : (List (List UInt8))) (m : Nat) : ∀ (a1 : Int) (v2 : Int) (o : (Int ⊕ (Int × Int))), L_laws_heldByteSS_l0 a0 m a1 v2 = some o → (mach cfg).loop 23 (loopB Tryz.f23 0) ⟨[(0, .val false [.seq (eL (e_sl e_u8) a0)]), (1, .val false [.int .i64 a1]), (5, .val false [.int .i64 v2])], [], 0⟩ = some (match o with | .inl o_0 => (.ret, (⟨[(4, .val false [.int .i64 o_0])], [], 0⟩ : S)) | .inr (⟨o_1_0, o_1_1⟩) => (.exit 0, (⟨[(0, .val false [.seq (eL (e_sl e_u8) a0)]), (1, .val false [.int .i64 o_1_0]), (5, .val false [.int .i64 o_1_1]), (9, .val false [.bool false])], [], 0⟩ : S))) := by
  induction m with
  | zero => intro a1 v2 o h; cases h
  | succ m ih =>
    intro a1 v2 o h
    rw [L_laws_heldByteSS_l0] at h
    rcases ite_some h with ⟨c1, h⟩ | ⟨c1, h⟩
    ·obtain ⟨i2, hi2, h⟩ := bs h
     obtain ⟨x3, hx3, h⟩ := bs h
     obtain ⟨r4, hr4, h⟩ := bs h
     rcases ite_some h with ⟨c5, h⟩ | ⟨c5, h⟩
     ·obtain rfl := Option.some.inj h
      exact loop_eQ [.le (e_sl e_u8) a0, .lT c1, .na hi2, .ix0 (e_sl e_u8) hx3, .cl (ok_laws_heldByteS x3 a1 _ hr4), .lT c5] (by kernel_rfl) (by intro h; cases h)
     ·exact loop_nQ [.le (e_sl e_u8) a0, .lT c1, .na hi2, .ix0 (e_sl e_u8) hx3, .cl (ok_laws_heldByteS x3 a1 _ hr4), .lF c5, .ad v2 1] (by kernel_rfl) (ih r4 (w64 (v2 + 1)) o h)
    ·obtain rfl := Option.some.inj h
     exact loop_eQ [.le (e_sl e_u8) a0, .lF c1] (by kernel_rfl) (by intro h; cases h)
def T_laws_heldByteSS (n : Nat) (a0 : (List (List UInt8))) (a1 : Int) : Option Int :=
  (L_laws_heldByteSS_l0 a0 n a1 0).bind fun o1 =>
  match o1 with
  | .inl o1_0 =>
    some o1_0
  | .inr (⟨o1_1_0, o1_1_1⟩) =>
    some o1_1_0
set_option maxRecDepth 100000 in
theorem fd_23 : cfg.funcs 23 = some (bodyOf Tryz.f23, Tryz.f23.ntmps, Tryz.f23.results.toList) := fn_of Tryz.func23 (by kernel_rfl) (by kernel_rfl)
theorem g_laws_heldByteSS (n : Nat) (a0 : (List (List UInt8))) (a1 : Int) (r : Int) (h : T_laws_heldByteSS n a0 a1 = some r) : (mach cfg).call 23 [] [.val false [.seq (eL (e_sl e_u8) a0)], .val false [.int .i64 a1]] = some (.val false [.int .i64 r], []) := by
  unfold T_laws_heldByteSS at h
  obtain ⟨o1, ho1, h⟩ := bs h
  rcases o1 with o1_0 | ⟨o1_1_0, o1_1_1⟩
  · try dsimp only at h
    obtain rfl := Option.some.inj h
    exact call_wQ [.lp (gl_laws_heldByteSS_l0 a0 _ a1 0 _ ho1)] rfl fd_23 (by kernel_rfl)
  · try dsimp only at h
    obtain rfl := Option.some.inj h
    exact call_wQ [.lp (gl_laws_heldByteSS_l0 a0 _ a1 0 _ ho1)] rfl fd_23 (by kernel_rfl)
theorem heldByteSS_loop {a : List (List UInt8)} : ∀ (l p : List (List UInt8)) (k : Int) (m : Nat), a = p ++ l → mBB k l = l → 0 <= k → k + 2 * bsz l <= 2 ^ 41 → p.length + l.length <= 2 ^ 41 → l.length < m → ∃ z, L_laws_heldByteSS_l0 a m k ((p.length : Nat) : Int) = some (.inr (k + cB l, z)) := by
  intro l
  induction l with
  | nil =>
    intro p k m ha _ _ _ _ hm
    subst ha
    obtain ⟨m, rfl, _⟩ := fuel hm
    exact ⟨_, by rw [L_laws_heldByteSS_l0, if_neg (nlt_end p)]; simp [cB]; rfl⟩
  | cons x l ih =>
    intro p k m ha hm0 h0 h1 h2 hm
    obtain ⟨m, rfl, hm'⟩ := fuel hm
    rw [bsz_cons] at h1
    simp only [List.length_cons] at h2 hm'
    rw [mBB] at hm0
    obtain ⟨e1, e2⟩ := List.cons.inj hm0
    obtain ⟨z, hz⟩ := ih (p ++ [x]) (k + x.length) m (by rw [ha]; simp) e2 (by omega) (by omega) (by simp; omega) (by omega)
    refine ⟨z, ?_⟩
    rw [L_laws_heldByteSS_l0, if_pos (by rw [ha]; exact lt_mid p x l), natO_nat, Option.bind_some, show a[p.length]? = some x by rw [ha]; exact get_mid p x l, Option.bind_some, heldByteS_eq e1 (by omega) (by omega), Option.bind_some, if_neg (by omega), w64_len p x (by omega), hz, cB_cons]
    rw [show k + (x.length : Int) + (cB l : Int) = k + ((x.length + cB l : Nat) : Int) by omega]
def S_laws_heldByteSS (a0 : (List (List UInt8))) (a1 : Int) : Option Int := if mBB a1 a0 = a0 ∧ 0 <= a1 ∧ a1 + 2 * bsz a0 <= 2 ^ 41 then some (a1 + cB a0) else none
theorem heldByteSS_eq {a : Int} {s : List (List UInt8)} (h : mBB a s = s) (h0 : 0 <= a) (h1 : a + 2 * bsz s <= 2 ^ 41) : S_laws_heldByteSS s a = some (a + cB s) := if_pos ⟨h, h0, h1⟩
theorem spec_laws_heldByteSS (a0 : (List (List UInt8))) (a1 : Int) (r : Int) (h : S_laws_heldByteSS a0 a1 = some r) : ∃ n, T_laws_heldByteSS n a0 a1 = some r := by
  unfold S_laws_heldByteSS at h
  obtain ⟨⟨he, h0, h1⟩, h⟩ := need_c h
  have := bsz_len a0
  obtain ⟨z, hz⟩ := heldByteSS_loop (a := a0) a0 [] a1 (a0.length + 1) rfl he h0 h1 (by simp; omega) (by omega)
  refine ⟨a0.length + 1, ?_⟩
  unfold T_laws_heldByteSS
  simp only [List.length_nil, Int.natCast_zero] at hz
  rw [hz]
  exact h
theorem ok_laws_heldByteSS (a0 : (List (List UInt8))) (a1 : Int) (r : Int) (h : S_laws_heldByteSS a0 a1 = some r) : (mach cfg).call 23 [] [.val false [.seq (eL (e_sl e_u8) a0)], .val false [.int .i64 a1]] = some (.val false [.int .i64 r], []) := by
  obtain ⟨n, hn⟩ := spec_laws_heldByteSS a0 a1 r h
  exact g_laws_heldByteSS n a0 a1 r hn
def S_laws_FnExactTainted (a0 : GState) : Option Bool :=
  (S_laws_szState a0 1048576).bind fun r1 =>
  if r1 < 0 then
    some true
  else
    (S_laws_toState a0).bind fun r3 =>
    (S_spec_Tainted r3).bind fun r4 =>
    (S_impl_Tainted r3).bind fun r5 =>
    (S_laws_eqByteSS r5 r4).bind fun r6 =>
    match r6 with
    | true =>
      (S_laws_eqState r3 r3).bind fun r8 =>
      match r8 with
      | true =>
        (S_laws_markState r3.Serial r3.Open r3.Act 1 r3.Pending r3.Entries).bind fun ⟨r10_0, r10_1, r10_2⟩ =>
        if r10_0 < 0 then
          some false
        else
          (S_laws_markByteSS 1 r5).bind fun ⟨r12_0, r12_1⟩ =>
          (S_laws_heldByteSS r12_1 1).bind fun r13 =>
          if r13 < 0 then
            some false
          else
            if r13 = r12_0 then
              some true
            else
              some false
      | false =>
        some false
    | false =>
      some false
set_option maxRecDepth 100000 in
theorem fd_4 : cfg.funcs 4 = some (bodyOf Tryz.f4, Tryz.f4.ntmps, Tryz.f4.results.toList) := fn_of Tryz.func4 (by kernel_rfl) (by kernel_rfl)
theorem ok_laws_FnExactTainted (a0 : GState) (r : Bool) (h : S_laws_FnExactTainted a0 = some r) : (mach cfg).call 4 [] [.val true [.int .i64 a0.Serial, .bool a0.Open, .seq (eL e_u8 a0.Pending), .int .i64 a0.Act, .seq (eL e_GEntry a0.Entries)]] = some (.val false [.bool r], []) := by
  unfold S_laws_FnExactTainted at h
  obtain ⟨r1, hr1, h⟩ := bs h
  rcases ite_some h with ⟨c2, h⟩ | ⟨c2, h⟩
  ·obtain rfl := Option.some.inj h
   exact call_wQ [.cl (ok_laws_szState a0 1048576 _ hr1), .lT c2] rfl fd_4 (by kernel_rfl)
  ·obtain ⟨r3, hr3, h⟩ := bs h
   obtain ⟨r4, hr4, h⟩ := bs h
   obtain ⟨r5, hr5, h⟩ := bs h
   obtain ⟨r6, hr6, h⟩ := bs h
   cases r6 with
   | true =>
    try dsimp only at h
    obtain ⟨r8, hr8, h⟩ := bs h
    cases r8 with
    | true =>
     try dsimp only at h
     obtain ⟨⟨r10_0, r10_1, r10_2⟩, hr10, h⟩ := bs h
     try dsimp only at h
     rcases ite_some h with ⟨c11, h⟩ | ⟨c11, h⟩
     ·obtain rfl := Option.some.inj h
      exact call_wQ [.cl (ok_laws_szState a0 1048576 _ hr1), .lF c2, .cl (ok_laws_toState a0 _ hr3), ⟨.view (eL e_u8 r3.Pending), .l (eL e_u8 r3.Pending), (A.view E_u8)⟩, ⟨.view (eL o_GEntry r3.Entries), .l (eL e_GEntry r3.Entries), (A.viewO O_GEntry)⟩, .cl (ok_spec_Tainted r3 _ hr4), ⟨.cln (eL (o_sl 1 e_u8) r4), .b true, (A.cln (O_sl 1 O_u8))⟩, .cl (ok_laws_toState a0 _ hr3), ⟨.view (eL e_u8 r3.Pending), .l (eL e_u8 r3.Pending), (A.view E_u8)⟩, ⟨.view (eL o_GEntry r3.Entries), .l (eL e_GEntry r3.Entries), (A.viewO O_GEntry)⟩, .cl (ok_impl_Tainted r3 _ hr5), ⟨.cln (eL (o_sl 1 e_u8) r5), .b true, (A.cln (O_sl 1 O_u8))⟩, ⟨.view (eL (o_sl 1 e_u8) r5), .l (eL (e_sl e_u8) r5), (A.viewO (O_sl 1 O_u8))⟩, ⟨.view (eL (o_sl 1 e_u8) r4), .l (eL (e_sl e_u8) r4), (A.viewO (O_sl 1 O_u8))⟩, .cl (ok_laws_eqByteSS r5 r4 _ hr6), .nt true, .cl (ok_laws_toState a0 _ hr3), ⟨.view (eL e_u8 r3.Pending), .l (eL e_u8 r3.Pending), (A.view E_u8)⟩, ⟨.view (eL o_GEntry r3.Entries), .l (eL e_GEntry r3.Entries), (A.viewO O_GEntry)⟩, ⟨.view (eL e_u8 r3.Pending), .l (eL e_u8 r3.Pending), (A.view E_u8)⟩, ⟨.view (eL o_GEntry r3.Entries), .l (eL e_GEntry r3.Entries), (A.viewO O_GEntry)⟩, .cl (ok_laws_eqState r3 r3 _ hr8), .nt true, .cl (ok_laws_markState r3.Serial r3.Open r3.Act 1 r3.Pending r3.Entries _ hr10), .lT c11] rfl fd_4 (by kernel_rfl)
     ·obtain ⟨⟨r12_0, r12_1⟩, hr12, h⟩ := bs h
      try dsimp only at h
      obtain ⟨r13, hr13, h⟩ := bs h
      rcases ite_some h with ⟨c14, h⟩ | ⟨c14, h⟩
      ·obtain rfl := Option.some.inj h
       exact call_wQ [.cl (ok_laws_szState a0 1048576 _ hr1), .lF c2, .cl (ok_laws_toState a0 _ hr3), ⟨.view (eL e_u8 r3.Pending), .l (eL e_u8 r3.Pending), (A.view E_u8)⟩, ⟨.view (eL o_GEntry r3.Entries), .l (eL e_GEntry r3.Entries), (A.viewO O_GEntry)⟩, .cl (ok_spec_Tainted r3 _ hr4), ⟨.cln (eL (o_sl 1 e_u8) r4), .b true, (A.cln (O_sl 1 O_u8))⟩, .cl (ok_laws_toState a0 _ hr3), ⟨.view (eL e_u8 r3.Pending), .l (eL e_u8 r3.Pending), (A.view E_u8)⟩, ⟨.view (eL o_GEntry r3.Entries), .l (eL e_GEntry r3.Entries), (A.viewO O_GEntry)⟩, .cl (ok_impl_Tainted r3 _ hr5), ⟨.cln (eL (o_sl 1 e_u8) r5), .b true, (A.cln (O_sl 1 O_u8))⟩, ⟨.view (eL (o_sl 1 e_u8) r5), .l (eL (e_sl e_u8) r5), (A.viewO (O_sl 1 O_u8))⟩, ⟨.view (eL (o_sl 1 e_u8) r4), .l (eL (e_sl e_u8) r4), (A.viewO (O_sl 1 O_u8))⟩, .cl (ok_laws_eqByteSS r5 r4 _ hr6), .nt true, .cl (ok_laws_toState a0 _ hr3), ⟨.view (eL e_u8 r3.Pending), .l (eL e_u8 r3.Pending), (A.view E_u8)⟩, ⟨.view (eL o_GEntry r3.Entries), .l (eL e_GEntry r3.Entries), (A.viewO O_GEntry)⟩, ⟨.view (eL e_u8 r3.Pending), .l (eL e_u8 r3.Pending), (A.view E_u8)⟩, ⟨.view (eL o_GEntry r3.Entries), .l (eL e_GEntry r3.Entries), (A.viewO O_GEntry)⟩, .cl (ok_laws_eqState r3 r3 _ hr8), .nt true, .cl (ok_laws_markState r3.Serial r3.Open r3.Act 1 r3.Pending r3.Entries _ hr10), .lF c11, ⟨.view (eL (o_sl 1 e_u8) r5), .l (eL (e_sl e_u8) r5), (A.viewO (O_sl 1 O_u8))⟩, ⟨.view (eL (o_sl 1 e_u8) r4), .l (eL (e_sl e_u8) r4), (A.viewO (O_sl 1 O_u8))⟩, .cl (ok_laws_eqByteSS r5 r4 _ hr6), .nt true, .cl (ok_laws_markByteSS 1 r5 _ hr12), ⟨.view (eL (o_sl 1 e_u8) r12_1), .l (eL (e_sl e_u8) r12_1), (A.viewO (O_sl 1 O_u8))⟩, .cl (ok_laws_heldByteSS r12_1 1 _ hr13), .lT c14] rfl fd_4 (by kernel_rfl)
      ·rcases ite_some h with ⟨c15, h⟩ | ⟨c15, h⟩
       ·obtain rfl := Option.some.inj h
        exact call_wQ [.cl (ok_laws_szState a0 1048576 _ hr1), .lF c2, .cl (ok_laws_toState a0 _ hr3), ⟨.view (eL e_u8 r3.Pending), .l (eL e_u8 r3.Pending), (A.view E_u8)⟩, ⟨.view (eL o_GEntry r3.Entries), .l (eL e_GEntry r3.Entries), (A.viewO O_GEntry)⟩, .cl (ok_spec_Tainted r3 _ hr4), ⟨.cln (eL (o_sl 1 e_u8) r4), .b true, (A.cln (O_sl 1 O_u8))⟩, .cl (ok_laws_toState a0 _ hr3), ⟨.view (eL e_u8 r3.Pending), .l (eL e_u8 r3.Pending), (A.view E_u8)⟩, ⟨.view (eL o_GEntry r3.Entries), .l (eL e_GEntry r3.Entries), (A.viewO O_GEntry)⟩, .cl (ok_impl_Tainted r3 _ hr5), ⟨.cln (eL (o_sl 1 e_u8) r5), .b true, (A.cln (O_sl 1 O_u8))⟩, ⟨.view (eL (o_sl 1 e_u8) r5), .l (eL (e_sl e_u8) r5), (A.viewO (O_sl 1 O_u8))⟩, ⟨.view (eL (o_sl 1 e_u8) r4), .l (eL (e_sl e_u8) r4), (A.viewO (O_sl 1 O_u8))⟩, .cl (ok_laws_eqByteSS r5 r4 _ hr6), .nt true, .cl (ok_laws_toState a0 _ hr3), ⟨.view (eL e_u8 r3.Pending), .l (eL e_u8 r3.Pending), (A.view E_u8)⟩, ⟨.view (eL o_GEntry r3.Entries), .l (eL e_GEntry r3.Entries), (A.viewO O_GEntry)⟩, ⟨.view (eL e_u8 r3.Pending), .l (eL e_u8 r3.Pending), (A.view E_u8)⟩, ⟨.view (eL o_GEntry r3.Entries), .l (eL e_GEntry r3.Entries), (A.viewO O_GEntry)⟩, .cl (ok_laws_eqState r3 r3 _ hr8), .nt true, .cl (ok_laws_markState r3.Serial r3.Open r3.Act 1 r3.Pending r3.Entries _ hr10), .lF c11, ⟨.view (eL (o_sl 1 e_u8) r5), .l (eL (e_sl e_u8) r5), (A.viewO (O_sl 1 O_u8))⟩, ⟨.view (eL (o_sl 1 e_u8) r4), .l (eL (e_sl e_u8) r4), (A.viewO (O_sl 1 O_u8))⟩, .cl (ok_laws_eqByteSS r5 r4 _ hr6), .nt true, .cl (ok_laws_markByteSS 1 r5 _ hr12), ⟨.view (eL (o_sl 1 e_u8) r12_1), .l (eL (e_sl e_u8) r12_1), (A.viewO (O_sl 1 O_u8))⟩, .cl (ok_laws_heldByteSS r12_1 1 _ hr13), .lF c14, .eT c15, .nt true, .cl (ok_laws_toState a0 _ hr3), ⟨.view (eL e_u8 r3.Pending), .l (eL e_u8 r3.Pending), (A.view E_u8)⟩, ⟨.view (eL o_GEntry r3.Entries), .l (eL e_GEntry r3.Entries), (A.viewO O_GEntry)⟩, .cl (ok_impl_Tainted r3 _ hr5), ⟨.cln (eL (o_sl 1 e_u8) r5), .b true, (A.cln (O_sl 1 O_u8))⟩, ⟨.view (eL (o_sl 1 e_u8) r5), .l (eL (e_sl e_u8) r5), (A.viewO (O_sl 1 O_u8))⟩, ⟨.view (eL (o_sl 1 e_u8) r4), .l (eL (e_sl e_u8) r4), (A.viewO (O_sl 1 O_u8))⟩, .cl (ok_laws_eqByteSS r5 r4 _ hr6), .nt true, ⟨.view (eL (o_sl 1 e_u8) r12_1), .l (eL (e_sl e_u8) r12_1), (A.viewO (O_sl 1 O_u8))⟩, .cl (ok_laws_heldByteSS r12_1 1 _ hr13), .lF c14, .eT c15, .nt true] rfl fd_4 (by kernel_rfl)
       ·obtain rfl := Option.some.inj h
        exact call_wQ [.cl (ok_laws_szState a0 1048576 _ hr1), .lF c2, .cl (ok_laws_toState a0 _ hr3), ⟨.view (eL e_u8 r3.Pending), .l (eL e_u8 r3.Pending), (A.view E_u8)⟩, ⟨.view (eL o_GEntry r3.Entries), .l (eL e_GEntry r3.Entries), (A.viewO O_GEntry)⟩, .cl (ok_spec_Tainted r3 _ hr4), ⟨.cln (eL (o_sl 1 e_u8) r4), .b true, (A.cln (O_sl 1 O_u8))⟩, .cl (ok_laws_toState a0 _ hr3), ⟨.view (eL e_u8 r3.Pending), .l (eL e_u8 r3.Pending), (A.view E_u8)⟩, ⟨.view (eL o_GEntry r3.Entries), .l (eL e_GEntry r3.Entries), (A.viewO O_GEntry)⟩, .cl (ok_impl_Tainted r3 _ hr5), ⟨.cln (eL (o_sl 1 e_u8) r5), .b true, (A.cln (O_sl 1 O_u8))⟩, ⟨.view (eL (o_sl 1 e_u8) r5), .l (eL (e_sl e_u8) r5), (A.viewO (O_sl 1 O_u8))⟩, ⟨.view (eL (o_sl 1 e_u8) r4), .l (eL (e_sl e_u8) r4), (A.viewO (O_sl 1 O_u8))⟩, .cl (ok_laws_eqByteSS r5 r4 _ hr6), .nt true, .cl (ok_laws_toState a0 _ hr3), ⟨.view (eL e_u8 r3.Pending), .l (eL e_u8 r3.Pending), (A.view E_u8)⟩, ⟨.view (eL o_GEntry r3.Entries), .l (eL e_GEntry r3.Entries), (A.viewO O_GEntry)⟩, ⟨.view (eL e_u8 r3.Pending), .l (eL e_u8 r3.Pending), (A.view E_u8)⟩, ⟨.view (eL o_GEntry r3.Entries), .l (eL e_GEntry r3.Entries), (A.viewO O_GEntry)⟩, .cl (ok_laws_eqState r3 r3 _ hr8), .nt true, .cl (ok_laws_markState r3.Serial r3.Open r3.Act 1 r3.Pending r3.Entries _ hr10), .lF c11, ⟨.view (eL (o_sl 1 e_u8) r5), .l (eL (e_sl e_u8) r5), (A.viewO (O_sl 1 O_u8))⟩, ⟨.view (eL (o_sl 1 e_u8) r4), .l (eL (e_sl e_u8) r4), (A.viewO (O_sl 1 O_u8))⟩, .cl (ok_laws_eqByteSS r5 r4 _ hr6), .nt true, .cl (ok_laws_markByteSS 1 r5 _ hr12), ⟨.view (eL (o_sl 1 e_u8) r12_1), .l (eL (e_sl e_u8) r12_1), (A.viewO (O_sl 1 O_u8))⟩, .cl (ok_laws_heldByteSS r12_1 1 _ hr13), .lF c14, .eF c15, .nt false] rfl fd_4 (by kernel_rfl)
    | false =>
     try dsimp only at h
     obtain rfl := Option.some.inj h
     exact call_wQ [.cl (ok_laws_szState a0 1048576 _ hr1), .lF c2, .cl (ok_laws_toState a0 _ hr3), ⟨.view (eL e_u8 r3.Pending), .l (eL e_u8 r3.Pending), (A.view E_u8)⟩, ⟨.view (eL o_GEntry r3.Entries), .l (eL e_GEntry r3.Entries), (A.viewO O_GEntry)⟩, .cl (ok_spec_Tainted r3 _ hr4), ⟨.cln (eL (o_sl 1 e_u8) r4), .b true, (A.cln (O_sl 1 O_u8))⟩, .cl (ok_laws_toState a0 _ hr3), ⟨.view (eL e_u8 r3.Pending), .l (eL e_u8 r3.Pending), (A.view E_u8)⟩, ⟨.view (eL o_GEntry r3.Entries), .l (eL e_GEntry r3.Entries), (A.viewO O_GEntry)⟩, .cl (ok_impl_Tainted r3 _ hr5), ⟨.cln (eL (o_sl 1 e_u8) r5), .b true, (A.cln (O_sl 1 O_u8))⟩, ⟨.view (eL (o_sl 1 e_u8) r5), .l (eL (e_sl e_u8) r5), (A.viewO (O_sl 1 O_u8))⟩, ⟨.view (eL (o_sl 1 e_u8) r4), .l (eL (e_sl e_u8) r4), (A.viewO (O_sl 1 O_u8))⟩, .cl (ok_laws_eqByteSS r5 r4 _ hr6), .nt true, .cl (ok_laws_toState a0 _ hr3), ⟨.view (eL e_u8 r3.Pending), .l (eL e_u8 r3.Pending), (A.view E_u8)⟩, ⟨.view (eL o_GEntry r3.Entries), .l (eL e_GEntry r3.Entries), (A.viewO O_GEntry)⟩, ⟨.view (eL e_u8 r3.Pending), .l (eL e_u8 r3.Pending), (A.view E_u8)⟩, ⟨.view (eL o_GEntry r3.Entries), .l (eL e_GEntry r3.Entries), (A.viewO O_GEntry)⟩, .cl (ok_laws_eqState r3 r3 _ hr8), .nt false] rfl fd_4 (by kernel_rfl)
   | false =>
    try dsimp only at h
    obtain rfl := Option.some.inj h
    exact call_wQ [.cl (ok_laws_szState a0 1048576 _ hr1), .lF c2, .cl (ok_laws_toState a0 _ hr3), ⟨.view (eL e_u8 r3.Pending), .l (eL e_u8 r3.Pending), (A.view E_u8)⟩, ⟨.view (eL o_GEntry r3.Entries), .l (eL e_GEntry r3.Entries), (A.viewO O_GEntry)⟩, .cl (ok_spec_Tainted r3 _ hr4), ⟨.cln (eL (o_sl 1 e_u8) r4), .b true, (A.cln (O_sl 1 O_u8))⟩, .cl (ok_laws_toState a0 _ hr3), ⟨.view (eL e_u8 r3.Pending), .l (eL e_u8 r3.Pending), (A.view E_u8)⟩, ⟨.view (eL o_GEntry r3.Entries), .l (eL e_GEntry r3.Entries), (A.viewO O_GEntry)⟩, .cl (ok_impl_Tainted r3 _ hr5), ⟨.cln (eL (o_sl 1 e_u8) r5), .b true, (A.cln (O_sl 1 O_u8))⟩, ⟨.view (eL (o_sl 1 e_u8) r5), .l (eL (e_sl e_u8) r5), (A.viewO (O_sl 1 O_u8))⟩, ⟨.view (eL (o_sl 1 e_u8) r4), .l (eL (e_sl e_u8) r4), (A.viewO (O_sl 1 O_u8))⟩, .cl (ok_laws_eqByteSS r5 r4 _ hr6), .nt false] rfl fd_4 (by kernel_rfl)
end
end Go.Am.Try
