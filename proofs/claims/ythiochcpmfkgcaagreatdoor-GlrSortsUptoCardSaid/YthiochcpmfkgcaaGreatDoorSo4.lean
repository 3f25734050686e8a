/- Walks and plain laws that the last text stands on: GlDEnv. -/
import Derived.Test.YthiochcpmfkgcaaGreatDoorSo3
import Derived.Test.YthiochcpmfkgcaaGreatDoorCards
import Derived.Test.YthiochcpmfkgcaaGreatDoorTie
import Derived.LaidMore
set_option linter.unusedVariables false
set_option linter.unusedSimpArgs false
set_option maxRecDepth 100000
set_option maxHeartbeats 16000000
namespace Go.Proofs.YthiochcpmfkgcaaGreatDoor.GlCard
open Go.ChangeShapes Go.WideShapes Go.ChangeAt Go.RowKit Go.WideMaps Go.WideElems
theorem own:ownKnob Tryz.prog.godebug=none:=by kernel_rfl
theorem laidOut:laidOutB Tryz.prog=true:=by kernel_rfl
theorem gBruijn:Tryz.prog.globalNamed "math/bits.deBruijn64tab"=some 1:=by kernel_rfl
theorem tBru:(Tryz.prog.globals[1]?).map (·.type)=some 265:=by kernel_rfl
theorem tPow:(Tryz.prog.globals[0]?).map (·.type)=some 260:=by kernel_rfl
theorem cellsBru:Tryz.prog.cellsOf 265=64:=by kernel_rfl
theorem cellsPow:Tryz.prog.cellsOf 260=20:=by kernel_rfl
theorem cellsByte:Tryz.prog.cellsOf 5=1:=by kernel_rfl
theorem cellsWord:Tryz.prog.cellsOf 31=1:=by kernel_rfl
theorem datumBru:(Rows.laid_math_bits_deBruijn64tab:DataW Unit)=Lib.tabData .u8 (Lib.deBruijn64tab.map fun (n:Nat)=>(n:Int)):=by kernel_rfl
theorem datumPow:(Rows.laid_internal_strconv_uint64pow10:DataW Unit)=Lib.tabData .u64 Lib.pow10Tab:=by kernel_rfl
theorem env_of_laid {W:World} (h:laidMetH Tryz.prog Rows.glrLongRow.laid W):Gl.EnvG W:=by
 have h':laidMet Tryz.prog Rows.glrLongRow.laid W:=by
  rw [MakeChecks.laidMetH_plain _ _ _ (by kernel_rfl)] at h;exact h
 obtain ⟨ps,⟨g0,t0,cs0,f0,p0,q0,hg0,ht0,hv0,hd0,⟨g1,t1,cs1,f1,p1,q1,hg1,ht1,hv1,hd1,⟨g2,t2,cs2,f2,p2,q2,hg2,ht2,hv2,hd2,_⟩,_⟩,_⟩,_,_⟩:=h';obtain rfl:=Option.some.inj (gBruijn.symm.trans hg1);obtain rfl:=Option.some.inj (tBru.symm.trans ht1);obtain rfl:=Option.some.inj (Gl.gPow.symm.trans hg2);obtain rfl:=Option.some.inj (tPow.symm.trans ht2);rw [datumBru] at hd1;rw [datumPow] at hd2;have hbru:Lib.TabIs Tryz.prog W "math/bits.deBruijn64tab" .u8 (Lib.deBruijn64tab.map fun (n:Nat)=>(n:Int)):=by
  unfold Lib.TabIs;rw [hv1,<- Lib.cells_of_tab Tryz.underlying265 Tryz.underlying5 cellsByte cellsBru hd1]
 have hpow:Lib.TabIs Tryz.prog W "internal/strconv.uint64pow10" .u64 Lib.pow10Tab:=by
  unfold Lib.TabIs;rw [hv2,<- Lib.cells_of_tab Tryz.underlying260 Tryz.underlying31 cellsWord cellsPow hd2]
 have hB:Tb.Bru W:=by
  intro j hj;have hlen:Lib.deBruijn64tab.length=64:=by decide
  have:=hbru.cell gBruijn j (by rw [List.length_map,hlen];exact hj);rw [this];simp [List.getD,hlen,hj]
 have h1:=wL _ _ (hB 0 (by decide));have h2:=wL _ _ (hpow.cell Gl.gPow 0 (by decide));exact ⟨hB,hpow,Nat.max_lt.2 ⟨h2,h1⟩⟩
end Go.Proofs.YthiochcpmfkgcaaGreatDoor.GlCard
