
/- The functions of the program in plain Lean, and that the machine answers as they do; conditions at each theorem. -/
import Derived.Test.YtklelfbkffbceaaGreatDoorBCptW
set_option linter.unusedVariables false
set_option linter.unusedSimpArgs false
set_option linter.unusedVariables false
set_option linter.unusedSimpArgs false
namespace Go.Am
open Go.Proofs Go.Shelf Go.RowKit Go.Lib Go.Sort
theorem zd8:CompWalk Tryz.prog 95 64 where
 enters:=Go.Proofs.enters_of Tryz.func95 (by kernel_rfl) rfl
 none:=fun w=>Lv none 0 0 _ w (by decide)
 row:=by
  intro w cls hdr b off c0 arr E fz ts enc hn hc hb hblt fz2 fc hrep hnone hone harr
  have hdz:(Array.range ts.length).size=ts.length:=by simp
  have hdg:∀j,j<ts.length→(Array.range ts.length)[j]! =j:=fun j hj=>by rw[getElem!_pos _ j (by rw[hdz];exact hj)];simp
  have hH:Holds enc w b off (Array.range ts.length):=fun j hj=>by
   rw[hdz]at hj
   have ha:=harr j hj
   rw[hdg j hj]
   refine⟨by simp[World.cell?,hb,ha],?_⟩
   have:=fz2 (off+j) (Array.getElem?_eq_some_iff.1 ha).1
   simp[World.frozen?,hb]
   omega
  by_cases h2:ts.length<2
  ·refine(Lv _ _ _ _ w h2).mono fun e w' he=> ?_
   obtain⟨rfl,rfl⟩:=he
   have hall:∀j,j<ts.length→kpI (fun i=>ts.getD i []) j=true:=fun j hj=>Ek _ j (by omega)
   rw[VW _ _ hall]
   refine⟨by simp,0,#[],?_⟩
   have e:(List.range ts.length++List.replicate (ts.length - (List.range ts.length).length) ts.length).toArray=Array.range ts.length:=by
    simp only[List.length_range,Nat.sub_self,List.replicate_zero,List.append_nil]
    apply Array.ext_getElem?
    intro i
    simp
   rw[e]
   exact(sortWorld_start enc w' b off _ hH).symm
  ·have hE:En Tryz.prog 64 enc (fun i=>ts.getD i []) w b off ts.length:=fun m os dk hs x y hx hy=>by
    have ho:=fun k hk hne=>Rx enc w b off m dk os k hk hne
    have rd:∀x,x<ts.length→∃A n c,enc x= .slice A n c∧(Conv.bytesToString (.slice A n c)).run Tryz.prog (sortWorld enc w b off m dk os)= .ok (.string ⟨(ts.getD x []).toArray⟩) (sortWorld enc w b off m dk os):=fun x hx=>by
     rw[List.getD_eq_getElem?_getD,List.getElem?_eq_getElem hx]
     exact zd5 (hrep x _ (List.getElem?_eq_getElem hx)) (fun z hz=>by rw[fc]at hz;simp at hz) (by rw[fc];simp) ho
    exact zd6 (rd x hx) (rd y hy)
   have v22:∀w,(zeroValue 22).run Tryz.prog w= .ok (enc ts.length) w:=fun w=>by
    rw[hnone ts.length (List.getElem?_eq_none (Nat.le_refl _))]
    exact Tryz.zeroValue22 w
   exact zd7 enc (fun i=>ts.getD i []) b off ts.length c0 w hone hE hH hblt hn hc h2 v22
theorem zd9 {st:List Entry} {xs:List V} {r:V×List Entry} (h:Lu 64 st xs=some r):xC Tryz.prog 95 st xs r:=zin zd8 h
end Go.Am
