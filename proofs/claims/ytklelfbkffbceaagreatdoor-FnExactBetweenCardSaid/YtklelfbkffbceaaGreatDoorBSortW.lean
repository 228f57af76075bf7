
/- The functions of the program in plain Lean, and that the machine answers as they do; conditions at each theorem. -/
import Derived.Test.YtklelfbkffbceaaGreatDoorBSortL
import Derived.Test.YtklelfbkffbceaaGreatDoorBSrt
set_option linter.unusedVariables false
set_option linter.unusedSimpArgs false
set_option linter.unusedVariables false
set_option linter.unusedSimpArgs false
namespace Go.Am
open Go.Proofs Go.Shelf Go.RowKit Go.Lib Go.Sort
set_option maxHeartbeats 1000000 in
set_option maxRecDepth 100000 in
theorem zcj (u1 u2:Value) (x y:List UInt8) (w:World)
 (h1:∃r:ByteArray,(Extern.Bytes.bytesOf u1).run Tryz.prog w= .ok r w∧r.data.toList=x) (h2:∃r:ByteArray,(Extern.Bytes.bytesOf u2).run Tryz.prog w= .ok r w∧r.data.toList=y):
 Calls Tryz.prog 94 #[u1,u2] w fun e w'=>e= .returned (.int .i64 (compareBytes x y))∧w'=w:=by
 obtain⟨r1,e1,d1⟩:=h1
 obtain⟨r2,e2,d2⟩:=h2
 have hc:∀u1 u2:Value,Extern.BytealgCompare.compare #[u1,u2]=(do pure (goInt (Extern.BytealgCompare.cmp (<-Extern.Bytes.bytesOf u1) (<-Extern.Bytes.bytesOf u2)))):=fun _ _=>rfl
 go_enter Tryz.func94,(rfl:_=_)
 go_wp2
 rw[run_callFunc_extern Tryz.func148 (by kernel_rfl) (by kernel_rfl) (by kernel_rfl) (e:=Extern.BytealgCompare.compare) (by kernel_rfl),hc]
 simp only[Sem.run_bind,e1,e2,Result.andThen_ok,Sem.run_pure,Lib.cmp_eq,d1,d2,goInt,Result.andThen]
 rw[Oper.upon_value]
 go_wp2
 go_ret
 exact⟨rfl,rfl⟩
end Go.Am
