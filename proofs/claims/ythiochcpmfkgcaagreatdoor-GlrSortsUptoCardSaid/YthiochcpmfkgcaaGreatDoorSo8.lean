/- Walks and plain laws that the last text stands on: SortL, SortRow, TbSortA, TbSplitB. -/
import Derived.Shelf.SlSortCmp.NoneTotal
import Derived.Shelf.Sort.Plain
import Derived.Test.YthiochcpmfkgcaaGreatDoorSo6
import Derived.Test.YthiochcpmfkgcaaGreatDoorSo3
import Derived.Deep.RegionHeld3
set_option linter.unusedVariables false
set_option linter.unusedSimpArgs false
set_option maxRecDepth 100000
set_option maxHeartbeats 16000000
namespace Go.Proofs
open Go.Shelf
def Tryz.sortItems_ren:Go.Shelf.Ren:=⟨fun | 6=>107 | 15=>76 | 14=>132 | 28=>102 | 29=>103 | 20=>149 | 21=>150 | 22=>151 | 23=>152 | 24=>153 | 25=>154 | 26=>155 | 27=>156 | 46=>174 | 47=>128 | 48=>129 | 49=>175 | 50=>176 | 57=>185 | n=>n,fun | 22=>132 | 24=>134 | 25=>193 | 3=>3 | 39=>155 | 0=>0 | 53=>189 | 55=>31 | 4=>4 | 46=>183 | 45=>182 | 50=>111 | 5=>5 | 9=>9 | 66=>215 | 70=>219 | 76=>237 | 77=>238 | n=>n,fun | n=>n⟩
theorem Tryz.sortItems:Go.Proofs.SlLaysF0.n6 Tryz.prog Tryz.sortItems_ren:={
 mixed:=by kernel_rfl
 f6:=⟨Tryz.f107.name,by decide,Tryz.func107.trans (congrArg some (by kernel_rfl))⟩
 f14:=⟨Tryz.f132.name,by decide,Tryz.func132.trans (congrArg some (by kernel_rfl))⟩
 f15:=Tryz.func76.trans (congrArg some (by kernel_rfl))
 f20:=⟨Tryz.f149.name,by decide,Tryz.func149.trans (congrArg some (by kernel_rfl))⟩
 f21:=⟨Tryz.f150.name,by decide,Tryz.func150.trans (congrArg some (by kernel_rfl))⟩
 f22:=⟨Tryz.f151.name,by decide,Tryz.func151.trans (congrArg some (by kernel_rfl))⟩
 f23:=⟨Tryz.f152.name,by decide,Tryz.func152.trans (congrArg some (by kernel_rfl))⟩
 f24:=⟨Tryz.f153.name,by decide,Tryz.func153.trans (congrArg some (by kernel_rfl))⟩
 f25:=⟨Tryz.f154.name,by decide,Tryz.func154.trans (congrArg some (by kernel_rfl))⟩
 f26:=⟨Tryz.f155.name,by decide,Tryz.func155.trans (congrArg some (by kernel_rfl))⟩
 f27:=⟨Tryz.f156.name,by decide,Tryz.func156.trans (congrArg some (by kernel_rfl))⟩
 f28:=Tryz.func102.trans (congrArg some (by kernel_rfl))
 f29:=Tryz.func103.trans (congrArg some (by kernel_rfl))
 f46:=⟨Tryz.f174.name,by decide,Tryz.func174.trans (congrArg some (by kernel_rfl))⟩
 f47:=Tryz.func128.trans (congrArg some (by kernel_rfl))
 f48:=Tryz.func129.trans (congrArg some (by kernel_rfl))
 f49:=⟨Tryz.f175.name,by decide,Tryz.func175.trans (congrArg some (by kernel_rfl))⟩
 f50:=⟨Tryz.f176.name,by decide,Tryz.func176.trans (congrArg some (by kernel_rfl))⟩
 f57:=⟨Tryz.f185.name,by decide,Tryz.func185.trans (congrArg some (by kernel_rfl))⟩
 t0:=Tryz.underlying0
 a0:=Tryz.isAgg0
 z0:=Tryz.sizeOf0
 v0:=Tryz.zeroValue0
 t3:=Tryz.underlying3
 a3:=Tryz.isAgg3
 z3:=Tryz.sizeOf3
 v3:=Tryz.zeroValue3
 t4:=Tryz.underlying4
 a4:=Tryz.isAgg4
 z4:=Tryz.sizeOf4
 v4:=Tryz.zeroValue4
 t5:=Tryz.underlying5
 a5:=Tryz.isAgg5
 z5:=Tryz.sizeOf5
 v5:=Tryz.zeroValue5
 t9:=Tryz.underlying9
 a9:=Tryz.isAgg9
 z9:=Tryz.sizeOf9
 v9:=Tryz.zeroValue9
 t22:=Tryz.underlying132
 a22:=Tryz.isAgg132
 z22:=Tryz.sizeOf132
 v22:=Tryz.zeroValue132
 t25:=Tryz.underlying193
 a25:=Tryz.isAgg193
 z25:=Tryz.sizeOf193
 v25:=Tryz.zeroValue193
 t39:=Tryz.underlying155
 a39:=Tryz.isAgg155
 z39:=Tryz.sizeOf155
 v39:=Tryz.zeroValue155
 t45:=Tryz.underlying182
 a45:=Tryz.isAgg182
 z45:=Tryz.sizeOf182
 v45:=Tryz.zeroValue182
 t46:=Tryz.underlying183
 a46:=Tryz.isAgg183
 z46:=Tryz.sizeOf183
 v46:=Tryz.zeroValue183
 t50:=Tryz.underlying111
 a50:=Tryz.isAgg111
 z50:=Tryz.sizeOf111
 v50:=Tryz.zeroValue111
 t53:=Tryz.underlying189
 a53:=Tryz.isAgg189
 z53:=Tryz.sizeOf189
 v53:=Tryz.zeroValue189
 t55:=Tryz.underlying31
 a55:=Tryz.isAgg31
 z55:=Tryz.sizeOf31
 v55:=Tryz.zeroValue31
 t66:=Tryz.underlying215
 a66:=Tryz.isAgg215
 z66:=Tryz.sizeOf215
 v66:=Tryz.zeroValue215
 t70:=Tryz.underlying219
 a70:=Tryz.isAgg219
 z70:=Tryz.sizeOf219
 v70:=Tryz.zeroValue219
 t76:=Tryz.underlying237
 a76:=Tryz.isAgg237
 z76:=Tryz.sizeOf237
 v76:=Tryz.zeroValue237
 t77:=Tryz.underlying238
 a77:=Tryz.isAgg238
 z77:=Tryz.sizeOf238
 v77:=Tryz.zeroValue238 }
def Tryz.sortSets_ren:Go.Shelf.Ren:=⟨fun | 6=>117 | 15=>76 | 14=>145 | 28=>102 | 29=>103 | 20=>164 | 21=>165 | 22=>166 | 23=>167 | 24=>168 | 25=>169 | 26=>170 | 27=>171 | 46=>182 | 47=>128 | 48=>129 | 49=>183 | 50=>184 | 57=>187 | n=>n,fun | 22=>151 | 24=>33 | 25=>203 | 3=>3 | 39=>155 | 0=>0 | 53=>189 | 55=>31 | 4=>4 | 46=>183 | 45=>182 | 50=>111 | 5=>5 | 9=>9 | 66=>215 | 70=>219 | 76=>237 | 77=>238 | n=>n,fun | n=>n⟩
theorem Tryz.sortSets:Go.Proofs.SlLaysF0.n6 Tryz.prog Tryz.sortSets_ren:={
 mixed:=by kernel_rfl
 f6:=⟨Tryz.f117.name,by decide,Tryz.func117.trans (congrArg some (by kernel_rfl))⟩
 f14:=⟨Tryz.f145.name,by decide,Tryz.func145.trans (congrArg some (by kernel_rfl))⟩
 f15:=Tryz.func76.trans (congrArg some (by kernel_rfl))
 f20:=⟨Tryz.f164.name,by decide,Tryz.func164.trans (congrArg some (by kernel_rfl))⟩
 f21:=⟨Tryz.f165.name,by decide,Tryz.func165.trans (congrArg some (by kernel_rfl))⟩
 f22:=⟨Tryz.f166.name,by decide,Tryz.func166.trans (congrArg some (by kernel_rfl))⟩
 f23:=⟨Tryz.f167.name,by decide,Tryz.func167.trans (congrArg some (by kernel_rfl))⟩
 f24:=⟨Tryz.f168.name,by decide,Tryz.func168.trans (congrArg some (by kernel_rfl))⟩
 f25:=⟨Tryz.f169.name,by decide,Tryz.func169.trans (congrArg some (by kernel_rfl))⟩
 f26:=⟨Tryz.f170.name,by decide,Tryz.func170.trans (congrArg some (by kernel_rfl))⟩
 f27:=⟨Tryz.f171.name,by decide,Tryz.func171.trans (congrArg some (by kernel_rfl))⟩
 f28:=Tryz.func102.trans (congrArg some (by kernel_rfl))
 f29:=Tryz.func103.trans (congrArg some (by kernel_rfl))
 f46:=⟨Tryz.f182.name,by decide,Tryz.func182.trans (congrArg some (by kernel_rfl))⟩
 f47:=Tryz.func128.trans (congrArg some (by kernel_rfl))
 f48:=Tryz.func129.trans (congrArg some (by kernel_rfl))
 f49:=⟨Tryz.f183.name,by decide,Tryz.func183.trans (congrArg some (by kernel_rfl))⟩
 f50:=⟨Tryz.f184.name,by decide,Tryz.func184.trans (congrArg some (by kernel_rfl))⟩
 f57:=⟨Tryz.f187.name,by decide,Tryz.func187.trans (congrArg some (by kernel_rfl))⟩
 t0:=Tryz.underlying0
 a0:=Tryz.isAgg0
 z0:=Tryz.sizeOf0
 v0:=Tryz.zeroValue0
 t3:=Tryz.underlying3
 a3:=Tryz.isAgg3
 z3:=Tryz.sizeOf3
 v3:=Tryz.zeroValue3
 t4:=Tryz.underlying4
 a4:=Tryz.isAgg4
 z4:=Tryz.sizeOf4
 v4:=Tryz.zeroValue4
 t5:=Tryz.underlying5
 a5:=Tryz.isAgg5
 z5:=Tryz.sizeOf5
 v5:=Tryz.zeroValue5
 t9:=Tryz.underlying9
 a9:=Tryz.isAgg9
 z9:=Tryz.sizeOf9
 v9:=Tryz.zeroValue9
 t22:=Tryz.underlying151
 a22:=Tryz.isAgg151
 z22:=Tryz.sizeOf151
 v22:=Tryz.zeroValue151
 t25:=Tryz.underlying203
 a25:=Tryz.isAgg203
 z25:=Tryz.sizeOf203
 v25:=Tryz.zeroValue203
 t39:=Tryz.underlying155
 a39:=Tryz.isAgg155
 z39:=Tryz.sizeOf155
 v39:=Tryz.zeroValue155
 t45:=Tryz.underlying182
 a45:=Tryz.isAgg182
 z45:=Tryz.sizeOf182
 v45:=Tryz.zeroValue182
 t46:=Tryz.underlying183
 a46:=Tryz.isAgg183
 z46:=Tryz.sizeOf183
 v46:=Tryz.zeroValue183
 t50:=Tryz.underlying111
 a50:=Tryz.isAgg111
 z50:=Tryz.sizeOf111
 v50:=Tryz.zeroValue111
 t53:=Tryz.underlying189
 a53:=Tryz.isAgg189
 z53:=Tryz.sizeOf189
 v53:=Tryz.zeroValue189
 t55:=Tryz.underlying31
 a55:=Tryz.isAgg31
 z55:=Tryz.sizeOf31
 v55:=Tryz.zeroValue31
 t66:=Tryz.underlying215
 a66:=Tryz.isAgg215
 z66:=Tryz.sizeOf215
 v66:=Tryz.zeroValue215
 t70:=Tryz.underlying219
 a70:=Tryz.isAgg219
 z70:=Tryz.sizeOf219
 v70:=Tryz.zeroValue219
 t76:=Tryz.underlying237
 a76:=Tryz.isAgg237
 z76:=Tryz.sizeOf237
 v76:=Tryz.zeroValue237
 t77:=Tryz.underlying238
 a77:=Tryz.isAgg238
 z77:=Tryz.sizeOf238
 v77:=Tryz.zeroValue238 }
def Tryz.lays189_ren:Go.Shelf.Ren:=⟨fun | 189=>86 | 125=>76 | 257=>113 | 128=>102 | 129=>103 | 294=>135 | 295=>136 | 296=>137 | 297=>138 | 298=>139 | 299=>140 | 216=>141 | 300=>142 | 301=>143 | 328=>161 | 329=>128 | 330=>129 | 331=>162 | 332=>163 | 215=>60 | 343=>181 | n=>n,fun | 28=>57 | 3=>3 | 46=>155 | 0=>0 | 51=>189 | 53=>31 | 4=>4 | 183=>183 | 182=>182 | 131=>111 | 5=>5 | 9=>9 | 218=>215 | 222=>219 | 228=>237 | 229=>238 | n=>n,fun | n=>n⟩
theorem Tryz.lays189:Go.Proofs.Lays.n189 Tryz.prog Tryz.lays189_ren:={
 mixed:=by kernel_rfl
 f125:=Tryz.func76.trans (congrArg some (by kernel_rfl))
 f128:=Tryz.func102.trans (congrArg some (by kernel_rfl))
 f129:=Tryz.func103.trans (congrArg some (by kernel_rfl))
 f189:=Tryz.func86.trans (congrArg some (by kernel_rfl))
 f215:=Tryz.func60.trans (congrArg some (by kernel_rfl))
 f216:=Tryz.func141.trans (congrArg some (by kernel_rfl))
 f257:=Tryz.func113.trans (congrArg some (by kernel_rfl))
 f294:=Tryz.func135.trans (congrArg some (by kernel_rfl))
 f295:=Tryz.func136.trans (congrArg some (by kernel_rfl))
 f296:=Tryz.func137.trans (congrArg some (by kernel_rfl))
 f297:=Tryz.func138.trans (congrArg some (by kernel_rfl))
 f298:=Tryz.func139.trans (congrArg some (by kernel_rfl))
 f299:=Tryz.func140.trans (congrArg some (by kernel_rfl))
 f300:=Tryz.func142.trans (congrArg some (by kernel_rfl))
 f301:=Tryz.func143.trans (congrArg some (by kernel_rfl))
 f328:=Tryz.func161.trans (congrArg some (by kernel_rfl))
 f329:=Tryz.func128.trans (congrArg some (by kernel_rfl))
 f330:=Tryz.func129.trans (congrArg some (by kernel_rfl))
 f331:=Tryz.func162.trans (congrArg some (by kernel_rfl))
 f332:=Tryz.func163.trans (congrArg some (by kernel_rfl))
 f343:=Tryz.func181.trans (congrArg some (by kernel_rfl))
 t0:=Tryz.underlying0
 a0:=Tryz.isAgg0
 z0:=Tryz.sizeOf0
 v0:=Tryz.zeroValue0
 t3:=Tryz.underlying3
 a3:=Tryz.isAgg3
 z3:=Tryz.sizeOf3
 v3:=Tryz.zeroValue3
 t4:=Tryz.underlying4
 a4:=Tryz.isAgg4
 z4:=Tryz.sizeOf4
 v4:=Tryz.zeroValue4
 t5:=Tryz.underlying5
 a5:=Tryz.isAgg5
 z5:=Tryz.sizeOf5
 v5:=Tryz.zeroValue5
 t9:=Tryz.underlying9
 a9:=Tryz.isAgg9
 z9:=Tryz.sizeOf9
 v9:=Tryz.zeroValue9
 t28:=Tryz.underlying57
 a28:=Tryz.isAgg57
 z28:=Tryz.sizeOf57
 v28:=Tryz.zeroValue57
 t46:=Tryz.underlying155
 a46:=Tryz.isAgg155
 z46:=Tryz.sizeOf155
 v46:=Tryz.zeroValue155
 t51:=Tryz.underlying189
 a51:=Tryz.isAgg189
 z51:=Tryz.sizeOf189
 v51:=Tryz.zeroValue189
 t53:=Tryz.underlying31
 a53:=Tryz.isAgg31
 z53:=Tryz.sizeOf31
 v53:=Tryz.zeroValue31
 t131:=Tryz.underlying111
 a131:=Tryz.isAgg111
 z131:=Tryz.sizeOf111
 v131:=Tryz.zeroValue111
 t182:=Tryz.underlying182
 a182:=Tryz.isAgg182
 z182:=Tryz.sizeOf182
 v182:=Tryz.zeroValue182
 t183:=Tryz.underlying183
 a183:=Tryz.isAgg183
 z183:=Tryz.sizeOf183
 v183:=Tryz.zeroValue183
 t218:=Tryz.underlying215
 a218:=Tryz.isAgg215
 z218:=Tryz.sizeOf215
 v218:=Tryz.zeroValue215
 t222:=Tryz.underlying219
 a222:=Tryz.isAgg219
 z222:=Tryz.sizeOf219
 v222:=Tryz.zeroValue219
 t228:=Tryz.underlying237
 a228:=Tryz.isAgg237
 z228:=Tryz.sizeOf237
 v228:=Tryz.zeroValue237
 t229:=Tryz.underlying238
 a229:=Tryz.isAgg238
 z229:=Tryz.sizeOf238
 v229:=Tryz.zeroValue238 }
end Go.Proofs
namespace Go.Proofs.YthiochcpmfkgcaaGreatDoor.Mx
open Go Go.RowKit Go.Proofs

section
variable {α:Type} [Inhabited α] {enc:α → List Value} {k:Nat}
theorem flat_get (hk:∀ x,(enc x).length=k) (hk0:0<k) (d:Array α) (t:Nat) (h:t<d.size * k):(flatK enc d.toList)[t]?=some ((enc d[t / k]!)[t % k]!):=by
 have h1:t / k<d.size:=Nat.div_lt_of_lt_mul (by rwa [Nat.mul_comm] at h);have h2:=Nat.mod_lt t hk0;have h3:d.toList[t / k]?=some d[t / k]!:=by rw [getElem!_pos d _ h1];simp [h1]
 have h4:(enc d[t / k]!)[t % k]?=some ((enc d[t / k]!)[t % k]!):=by
  rw [getElem!_pos (enc d[t / k]!) (t % k) (by rw [hk];exact h2)];exact gE _
 have:=flatK_get hk d.toList (t / k) _ (t % k) _ h3 h4
 rwa [Nat.mul_comm (t / k) k,Nat.div_add_mod] at this
variable {w:World} {B:Nat} {t:TypeId} {g n cap:Nat} {l:List α}
theorem own_holds (hk:∀ x,(enc x).length=k) (hk0:0<k) (h:w.ownsRow B t k (.slice (some ⟨g,0,none⟩) n cap) n (flatK enc l)) (hn:n=l.length):Go.Sort.HoldsK enc k w g 0 l.toArray:=by
 intro j hj;rw [Go.Sort.size_flatK] at hj;have h1:=flat_get hk hk0 l.toArray j hj;rw [Nat.zero_add];refine ⟨?_,h.frozenAt j⟩;rw [h.cellAt j (by rw [hn];simpa using hj),Go.Sort.get_flatK _ _ _ _ hj];exact h1
theorem sorted_own (hk:∀ x,(enc x).length=k) (hk0:0<k) (h:w.ownsRow B t k (.slice (some ⟨g,0,none⟩) n cap) n (flatK enc l)) (m:Nat) (d:Array α) (hd:d.size=n) (os:Array Obj) :
  (Go.Proofs.sortWorldK enc k w g 0 m d os).ownsRow B t k (.slice (some ⟨g,0,none⟩) n cap) n (flatK enc d.toList) /\ w.grownBy (Go.Proofs.sortWorldK enc k w g 0 m d os) (some g):=by
 have hg:=(h.lt g rfl).2;obtain ⟨hx,hv⟩:=h
 rcases hv with ⟨e,_⟩ | ⟨g',cap',cur,e,hB,hh,h1,h2,h3,h4⟩
 ·cases e
 injection e with e e2 e3;injection e with e;injection e with e;subst e;subst e3;have hw:(Go.Proofs.sortWorldK enc k w g 0 m d os).heap=w.heap.modify g (Go.Sort.onCells (Go.Sort.putCells id 0 (Go.Sort.flatK enc k d)))++os:=rfl;refine ⟨⟨by rw [flatK_len hk];simp [hd],.inr ⟨g,cap,Go.Sort.putCells id 0 (Go.Sort.flatK enc k d) cur,rfl,hB,?_,h1,h2,by simp [Go.Sort.putCells,h3],?_⟩⟩,rfl,rfl,rfl,?_,?_⟩
 ·rw [hw,Array.getElem?_append_left (by simpa using hg),Array.getElem?_modify,if_pos rfl,hh];rfl
 ·apply List.ext_getElem?;intro j
  by_cases hj:j<n * k
  ·rw [List.getElem?_take,if_pos hj,flat_get hk hk0 d j (by rw [hd];exact hj)];have hc:j<cur.size:=by rw [h3];exact nL hj (Nat.mul_le_mul_right k h1)
   unfold Go.Sort.putCells;rw [Array.getElem?_toList,Array.getElem?_mapIdx,Array.getElem?_eq_getElem hc];have hj2:j<d.size * k:=by rw [hd];exact hj
   have hj3:j<(Go.Sort.flatK enc k d).size:=by simpa using hj2
   rw [<- Go.Sort.get_flatK _ _ _ _ hj2,getElem!_pos _ j hj3];simp [hj2]
  ·rw [List.getElem?_take,if_neg hj,List.getElem?_eq_none (by rw [flatK_len hk];simp [hd];omega)]
 ·rw [hw];simp
 ·intro i hi hne;rw [hw,Array.getElem?_append_left (by simpa using hi),Array.getElem?_modify,if_neg (by rintro rfl;exact hne rfl)]
end
end Go.Proofs.YthiochcpmfkgcaaGreatDoor.Mx
namespace Go.Proofs.YthiochcpmfkgcaaGreatDoor.Tb
open Go Go.RowKit Go.Proofs Go.Maps Go.WideMaps Mx
theorem laidOut:laidOutB Tryz.prog=true:=by kernel_rfl
theorem setArr:ArrKey Tryz.prog 33 31 4:=⟨Tryz.underlying33,by kernel_rfl,by kernel_rfl,by kernel_rfl⟩
theorem typesSize:∃ m,Tryz.prog.types.size=m+1:=⟨Tryz.prog.types.size - 1,by have h:(0<Tryz.prog.types.size):=of_decide_eq_true (by kernel_rfl);omega⟩
theorem setLaw:KeyLaw Tryz.prog 33:=setArr.law
def keyS (M:Nat):Lit:=.string (keyBytes [.int .u64 (wd M 0),.int .u64 (wd M 1),.int .u64 (wd M 2),.int .u64 (wd M 3)])
theorem keyOf_set (M:Nat):keyOf Tryz.prog 33 (.agg #[.int .u64 (wd M 0),.int .u64 (wd M 1),.int .u64 (wd M 2),.int .u64 (wd M 3)])=some (keyS M):=by
 have hw:∀ j,(Lit.int .u64 (wd M j)).wf=true:=fun j=>by
  have:=wd_range M j;simp [Lit.wf,IntKind.min,IntKind.max,IntKind.bits,IntKind.signed];omega
 exact keyOf_arr4 setArr Tryz.underlying31 typesSize (hw 0) (hw 1) (hw 2) (hw 3)
theorem wd_inj {M N:Nat} (hM:M<2 ^ 256) (hN:N<2 ^ 256) (h:∀ j,j<4->wd M j=wd N j):M=N:=by
 apply Nat.eq_of_testBit_eq;intro i
 rcases Nat.lt_or_ge i 256 with hi | hi
 ·have hj:i / 64<4:=by omega
  have h1:=h (i / 64) hj;have h2:M / 2 ^ (64 * (i / 64)) % 18446744073709551616=N / 2 ^ (64 * (i / 64)) % 18446744073709551616:=by unfold wd at h1;omega
  have h3:=wd_bits M (i / 64) (i % 64);have h4:=wd_bits N (i / 64) (i % 64);rw [h2,h4] at h3;have h5:i % 64<64:=Nat.mod_lt _ (by decide);have h6:64 * (i / 64)+i % 64=i:=Nat.div_add_mod i 64;simp [h5,h6] at h3;exact h3.symm
 ·rw [Nat.testBit_lt_two_pow (nL hM (Nat.pow_le_pow_right (by decide) hi)),Nat.testBit_lt_two_pow (nL hN (Nat.pow_le_pow_right (by decide) hi))]
theorem keyS_inj {M N:Nat} (hM:M<2 ^ 256) (hN:N<2 ^ 256) (h:keyS M=keyS N):M=N:=by
 have h1:=setLaw.inj (keyOf_set M) (by rw [h];exact keyOf_set N)
 injection h1 with h1;injection h1 with h1;simp at h1;exact wd_inj hM hN (fun j hj=>by
  rcases (show j=0∨j=1∨j=2∨j=3 by omega) with rfl | rfl | rfl | rfl
  ·exact h1.1
  ·exact h1.2.1
  ·exact h1.2.2.1
  ·exact h1.2.2.2)
end Go.Proofs.YthiochcpmfkgcaaGreatDoor.Tb
namespace Go.Proofs.YthiochcpmfkgcaaGreatDoor.Tb
open Go Go.RowKit Go.Proofs Go.Maps Mx
theorem notM_eq {s:Nat} (h:s<2 ^ 256):notM s=2 ^ 256 - 1 - s:=by
 apply Nat.eq_of_testBit_eq;intro i;rw [testBit_not s i h];unfold notM fullM;rw [Nat.testBit_xor,Nat.testBit_two_pow_sub_one]
 by_cases hi:i<256
 ·simp [hi]
 ·rw [Nat.testBit_lt_two_pow (nL h (Nat.pow_le_pow_right (by omega) (by omega)))];simp [hi]
theorem parts_len {l:List Nat} (h:Parts l):l.length<=256:=by
 have h1:(l.map leastF).Nodup:=by
  rw [List.nodup_iff_pairwise_ne,List.pairwise_map];refine List.Pairwise.imp_of_mem ?_ h.2;intro a b ha hb hab e;have h1:=leastF_bit (h.1 a ha).1 (h.1 a ha).2;have h2:=leastF_bit (h.1 b hb).1 (h.1 b hb).2;rw [e] at h1;exact (apart_iff _ _).1 hab _ ⟨h1,h2⟩
 have h2:=nodup_le (l.map leastF) (List.range 256) h1 (fun x hx=>by
  obtain ⟨M,_,rfl⟩:=List.mem_map.1 hx;unfold leastF
  cases h:(List.range 256).find? fun b=>M.testBit b with
  | none=>simp
  | some b=>have:=List.mem_of_find?_eq_some h;simpa using this)
 simpa using h2
theorem putV_set (f:Lit->Option Value) {M N:Nat} (v:Value) (hM:M<2 ^ 256) (hN:N<2 ^ 256):putV f (keyS M) v (keyS N)=if N=M then some v else f (keyS N):=by
 by_cases e:N=M
 ·subst e;rw [if_pos rfl];exact putV_same f v (setLaw.str (keyOf_set N) |> fun ⟨_,h⟩=>by rw [h];trivial)
 ·rw [if_neg e];exact putV_other f v (fun h=>e (keyS_inj hN hM h))
structure MetS (f:Lit->Option Value) (next:List Nat) (c:Nat):Prop where
 yes:∀ x∈next,∃ n:Int,1<=n /\ n<=c /\ f (keyS x)=some (.int .i64 n)
 no:∀ x,x<2 ^ 256->x≠0->x ∉ next->f (keyS x)=none
 zero:f (keyS 0)=none∨∃ n:Int,0<=n /\ n<=c /\ f (keyS 0)=some (.int .i64 n)
 lt:∀ x∈next,x<2 ^ 256 /\ x≠0
theorem two256:0<2 ^ 256:=Nat.two_pow_pos _
theorem MetS.start:MetS (fun _=>none) [] 0:=⟨by simp,fun _ _ _ _=>rfl,.inl rfl,by simp⟩
theorem MetS.val {f:Lit->Option Value} {next:List Nat} {c:Nat} (h:MetS f next c) (x:Nat) (hx:x<2 ^ 256):∃ n:Int,0<=n /\ n<=c /\ (f (keyS x)).getD (.int .i64 0)=.int .i64 n /\ (x≠0->(x∈next↔n≠0)):=by
 by_cases h0:x=0
 ·subst h0
  rcases h.zero with h1 | ⟨n,h1,h2,h3⟩
  ·exact ⟨0,by omega,by omega,by rw [h1];rfl,fun h=>absurd rfl h⟩
  ·exact ⟨n,h1,h2,by rw [h3];rfl,fun h=>absurd rfl h⟩
 ·by_cases hm:x∈next
  ·obtain ⟨n,h1,h2,h3⟩:=h.yes x hm;exact ⟨n,by omega,h2,by rw [h3];rfl,fun _=>⟨fun _=>by omega,fun _=>hm⟩⟩
  ·exact ⟨0,by omega,by omega,by rw [h.no x hx h0 hm];rfl,fun _=>⟨fun h=>absurd h hm,fun h=>absurd rfl h⟩⟩
theorem MetS.step {f:Lit->Option Value} {next:List Nat} {c:Nat} (h:MetS f next c) (x:Nat) (hx:x<2 ^ 256) {n:Int} (h0:0<=n) (hc:n<=c) (hn:x≠0->(x∈next↔n≠0)) :
  MetS (putV f (keyS x) (.int .i64 (n+1))) (addF next x) (c+1):=by
 have hsub:∀ y∈next,y∈addF next x:=fun y hy=>by unfold addF;split <;> simp [hy]
 refine ⟨fun y hy=>?_,fun y hy hy0 hyn=>?_,?_,fun y hy=>?_⟩
 ·have hy2:y<2 ^ 256:=by
   rcases addF_mem hy with h1 | rfl
   ·exact (h.lt y h1).1
   ·exact hx
  rw [putV_set f _ hx hy2]
  by_cases e:y=x
  ·rw [if_pos e];exact ⟨n+1,by omega,by omega,rfl⟩
  ·rw [if_neg e]
   rcases addF_mem hy with h1 | h1
   ·obtain ⟨m,k1,k2,k3⟩:=h.yes y h1;exact ⟨m,k1,by omega,k3⟩
   ·exact absurd h1 e
 ·rw [putV_set f _ hx hy];have hyn2:y ∉ next:=fun h1=>hyn (hsub y h1)
  by_cases e:y=x
  ·subst e;exfalso;apply hyn;unfold addF;rw [if_neg (by simp [hy0,hyn2])];simp
  ·rw [if_neg e];exact h.no y hy hy0 hyn2
 ·rw [putV_set f _ hx two256]
  by_cases e:0=x
  ·rw [if_pos e];exact .inr ⟨n+1,by omega,by omega,rfl⟩
  ·rw [if_neg e]
   rcases h.zero with h1 | ⟨m,k1,k2,k3⟩
   ·exact .inl h1
   ·exact .inr ⟨m,k1,by omega,k3⟩
 ·unfold addF at hy
  split at hy
  ·exact h.lt y hy
  ·rename_i hne;simp only [not_or] at hne
   rcases List.mem_append.1 hy with h1 | h1
   ·exact h.lt y h1
   ·rw [List.mem_singleton] at h1;subst h1;exact ⟨hx,hne.1⟩
theorem infoSet:(Tryz.prog.info? 33).map (fun i=>(i.zero,i.size,i.bytes))=some (some (.agg #[.int .u64 0,.int .u64 0,.int .u64 0,.int .u64 0]),4,32):=by kernel_rfl
end Go.Proofs.YthiochcpmfkgcaaGreatDoor.Tb
namespace Go.Proofs.YthiochcpmfkgcaaGreatDoor.Tb
open Go Go.RowKit Go.Proofs Mx Go.Shelf
attribute [local go_sem] Oper.semAt_some
theorem bytesOf_head (M:Nat):(bytesOf M).head?=((List.range 256).find? fun b=>M.testBit b).map UInt8.ofNat:=by
 unfold bytesOf bytesTo;rw [List.head?_map,List.head?_filter]
theorem leastF_lt (M:Nat):leastF M<256:=by
 unfold leastF
 cases h:(List.range 256).find? fun b=>M.testBit b with
 | none=>decide
 | some b=>have:=List.mem_of_find?_eq_some h;simpa using this
theorem byteK_least (M:Nat) (h:0<(bytesOf M).length):((byteK M 0).toNat:Int)=(leastF M:Int):=by
 have h1:=bytesOf_head M;unfold byteK leastF
 cases hb:bytesOf M with
 | nil=>rw [hb] at h;simp at h
 | cons b t =>
  rw [hb] at h1
  cases hf:(List.range 256).find? fun b=>M.testBit b with
  | none=>rw [hf] at h1;simp at h1
  | some c =>
   rw [hf] at h1;have hc:c<256:=by have:=List.mem_of_find?_eq_some hf;simpa using this
   simp at h1;subst h1;simp;omega
theorem least_none (M:Nat) (h:(bytesOf M).length=0):leastF M=0:=by
 have h1:=bytesOf_head M;have:bytesOf M=[]:=List.eq_nil_of_length_eq_zero h;rw [this] at h1;unfold leastF
 cases hf:(List.range 256).find? fun b=>M.testBit b with
 | none=>rfl
 | some c=>rw [hf] at h1;simp at h1
def LeastI (w:World) (k:Nat) (W:World):Prop:=k=0 /\ Blk W (w.heap.size+1) 5 #[.int .u8 0] /\ Blk W (w.heap.size+1+1) 4 #[.bool false] /\ Grew w W
def LeastX (M:Nat) (w:World) (c:Code) (k:Nat) (W:World):Prop:=(c=.ret /\ 0<(bytesOf M).length) /\ Blk W (w.heap.size+1) 5 #[.int .u8 ((byteK M 0).toNat:Int)] /\ Blk W (w.heap.size+1+1) 4 #[.bool true] /\ Grew w W
theorem least_any (M:Nat) (w:World) (hT:Bru w) (h6:LB<=w.heap.size) :
  Calls Tryz.prog 119 #[setV M] w fun e w'=>(∃ b,e=.returned (.tuple #[.int .u8 (leastF M:Int),.bool b])) /\ Grew w w':=by
 refine (callsIn_wide (n:=5)).1 ?_;have hro:Fence.wide.round=none:=rfl;have hby:=bytes_any M;unfold setV at hby ⊢;refine callsIn_of_wp_marks Tryz.func119 rfl trivial ?_ hro;simp only [Tryz.ntmps119,List.size_toArray,List.length_cons,List.length_nil,Nat.reduceAdd,Nat.reduceSub,Array.replicate_succ,Array.replicate_zero,List.push_toArray,List.append_toArray,List.nil_append,List.cons_append]
 gi_wp2_with (refine ⟨trivial,?_⟩;gi_at_call 146;refine (callsIn_mk (hby _)).mono ?_;rintro e w1 ⟨rfl,rfl⟩)
 obtain ⟨w1,hw1⟩:=eX (((((w.alloc (.cells #[.int .u64 (wd M 0),.int .u64 (wd M 1),.int .u64 (wd M 2),.int .u64 (wd M 3)] 33)).alloc (.cells #[.int .u8 0] 5)).alloc (.cells #[.bool false] 4)).alloc (.cells (setC M) 33)));have hl1:Blk w1 (w.heap.size+1) 5 #[.int .u8 0]:=by rw [<- hw1];exact ((Blk.new_ (by simp) _ _).alloc _).alloc _
 have hl2:Blk w1 (w.heap.size+1+1) 4 #[.bool false]:=by rw [<- hw1];exact (Blk.new_ (by simp) _ _).alloc _
 have hbs:Blk w1 (w.heap.size+1+1+1) 33 (setC M):=by rw [<- hw1];exact Blk.new_ (by simp) _ _
 have hG1:Grew w w1:=by rw [<- hw1];exact ((((Grew.refl w).alloc _).alloc _).alloc _).alloc _
 have hB1:=hG1.below;have hs1:w.heap.size+1+1+1<w1.heap.size:=hbs.lt;have hI0:LeastI w 0 w1:=⟨rfl,hl1,hl2,hG1⟩;rw [hw1];clear hw1 hby;refine wpIn_rangeFunc_ownP hro (by decide) (gf:=172) (lb:=#[.pointer (some ⟨w.heap.size+1+1+1,0,none⟩)]) rfl trivial (enters_of Tryz.func172 (by kernel_rfl) rfl)
  (bytes_iter M 4 w.heap.size (w.heap.size+1+1+1) (by decide) w1 (hT.below hB1 h6) h6 hB1.size hbs) belowK_t (belowK_b hB1.size) (bR _ _) (fun _ _=>rfl)
  (LeastI w) (LeastX M w)
  ⟨fun o h=>⟨h.1,h.2.1.alloc _,h.2.2.1.alloc _,h.2.2.2.alloc _⟩,fun o' h hB _ _=>⟨h.1,h.2.1.putObj (by omega) _,h.2.2.1.putObj (by omega) _,h.2.2.2.putObj (by omega) _⟩⟩
  (fun c=>⟨fun o h=>⟨h.1,h.2.1.alloc _,h.2.2.1.alloc _,h.2.2.2.alloc _⟩,fun o' h hB _ _=>⟨h.1,h.2.1.putObj (by omega) _,h.2.2.1.putObj (by omega) _,h.2.2.2.putObj (by omega) _⟩⟩)
  hI0
  (fun k=>{ tmps:=#[.agg #[.int .u64 (wd M 0),.int .u64 (wd M 1),.int .u64 (wd M 2),.int .u64 (wd M 3)],.pointer (some ⟨w.heap.size,0,none⟩),.pointer (some ⟨w.heap.size+1,0,none⟩),.pointer (some ⟨w.heap.size+1+1,0,none⟩),.int .u8 ((byteK M k).toNat:Int),.agg #[.int .u64 (wd M 0),.int .u64 (wd M 1),.int .u64 (wd M 2),.int .u64 (wd M 3)],.func (.func 172) #[] #[.pointer (some ⟨w.heap.size+1+1+1,0,none⟩)],.int .u8 ((byteK M k).toNat:Int),undef],defers:=[] }) ?assign ?body ?done ?stop
 case assign =>
  intro l k W K hk hK
  gi_wp2
  exact hK
 case body =>
  rintro l k W ⟨rfl,hb1,hb2,hG⟩ hk;have c1:=hb1.cell 0;have c2:=hb2.cell 0;have f1:=hb1.frozen 0;have f2:=hb2.frozen 0;simp at c1 c2;have H:=Z3.mk hb1 hb2 hG;clear hb1 hb2 hG hI0 hl1 hl2 hbs;obtain ⟨b,hb⟩:=eX (((byteK M 0).toNat:Int));rw [hb];have HB:=Hd hb;clear hb
  gi_wp2
  refine ⟨(KeepsOthers.setCell _ _ _).trans (KeepsOthers.setCell _ _ _),⟨rfl,hk⟩,?_,?_,?_⟩
  ·rw [HB.out];exact (H.o1.set_ 0 (.int .u8 b)).far (p:=⟨w.heap.size+1+1,0,none⟩) (by simp) _
  ·exact (H.o2.far (p:=⟨w.heap.size+1,0,none⟩) (by simp) _).set_ 0 (.bool true)
  ·exact (H.o3.setCell (p:=⟨w.heap.size+1,0,none⟩) (by simp) _).setCell (p:=⟨w.heap.size+1+1,0,none⟩) (by simp;omega) _
 case done =>
  rintro D W hD ⟨h0,hb1,hb2,hG⟩ hK;have c1:=hb1.cell 0;have c2:=hb2.cell 0;have f1:=hb1.frozen 0;have f2:=hb2.frozen 0;simp at c1 c2;have hz:=least_none M h0;have H:=Z3.mk hb1 hb2 hG;clear hb1 hb2 hG hI0 hl1 hl2 hbs
  gi_wp2
  have hK':=(KeepsOthers.trans (KeepsOthers.setCell W ⟨w.heap.size+1,0,none⟩ (.int .u8 0)) (KeepsOthers.setCell _ ⟨w.heap.size+1+1,0,none⟩ (.bool false))).same D _ hK rfl;have h1':=((H.o1.set_ 0 (.int .u8 0)).far (p:=⟨w.heap.size+1+1,0,none⟩) (by simp) (.bool false)).cell 0;have h2':=((H.o2.far (p:=⟨w.heap.size+1,0,none⟩) (by simp) (.int .u8 0)).set_ 0 (.bool false)).cell 0;have hc1:=cell_kept h1' (grownBy_putObj' _ D (.deferred none)) (fun r e=>by cases e;exact ⟨_,hK',rfl⟩);have hc2:=cell_kept h2' (grownBy_putObj' _ D (.deferred none)) (fun r e=>by cases e;exact ⟨_,hK',rfl⟩);simp at hc1 hc2;refine ⟨by simp,.inl ⟨_,_,rfl,run_takeDeferred hK',?_⟩⟩;refine ⟨.tuple #[.int .u8 (leastF M:Int),.bool false],?_,⟨_,rfl⟩,((H.o3.setCell (p:=⟨w.heap.size+1,0,none⟩) (by simp) _).setCell (p:=⟨w.heap.size+1+1,0,none⟩) (by simp;omega) _).putObj (by omega) _⟩;simp [results,Tryz.f119,go_sem,hc1,hc2,hz]
 case stop =>
  rintro D c k W hD _ ⟨⟨rfl,hpos⟩,hb1,hb2,hG⟩ hK;have c1:=hb1.cell 0;have c2:=hb2.cell 0;simp at c1 c2;have hz:=byteK_least M hpos
  gi_wp2
  have hc1:=cell_kept c1 (grownBy_putObj' _ D (.deferred none)) (fun r e=>by cases e;exact ⟨_,hK,rfl⟩);have hc2:=cell_kept c2 (grownBy_putObj' _ D (.deferred none)) (fun r e=>by cases e;exact ⟨_,hK,rfl⟩);refine ⟨by simp,.inl ⟨_,_,rfl,run_takeDeferred hK,?_⟩⟩;refine ⟨.tuple #[.int .u8 (leastF M:Int),.bool true],?_,⟨_,rfl⟩,hG.putObj (by omega) _⟩;simp [results,Tryz.f119,go_sem,hc1,hc2,hz]
end Go.Proofs.YthiochcpmfkgcaaGreatDoor.Tb
namespace Go.Proofs.YthiochcpmfkgcaaGreatDoor.Tb
open Go Go.RowKit Go.Proofs Go.Sort Go.Shelf Mx
theorem sorted_of (d:Array It) (l:List It) (hp:PermIn 0 l.length l.toArray d) (hs:SortedIn (ltOf cfIt) 0 l.length d):d.toList=sortIt l:=by
 obtain ⟨h1,_,h2⟩:=hp;have e1:d.size=l.length:=by simpa using h1
 refine sortIt_unique ?_ ?_
 ·have h3:(d.extract 0 l.length).toList=d.toList:=by rw [<- e1];simp
  have h4:(l.toArray.extract 0 l.length).toList=l:=by simp
  rw [h3,h4] at h2;exact h2
 ·rw [List.pairwise_iff_getElem];intro i j hi hj hij;have h3:=hs i j (Nat.zero_le _) hij (by rw [<- e1];simpa using hj);rw [lt_cfIt] at h3;have ei:d[i]! = d.toList[i]:=by rw [getElem!_pos d i (by simpa using hi)];simp
  have ej:d[j]! = d.toList[j]:=by rw [getElem!_pos d j (by simpa using hj)];simp
  rw [ei,ej] at h3
  simpa using h3
theorem sort_any (l:List It) (B:Nat) (v:Value) (w:World) (h:w.ownsRow B 134 2 v l.length (flatK encIt l)) (hmax:l.length<4611686018427387904) :
  Calls Tryz.prog 107 #[v,.func (.func 108) #[] #[]] w fun e w'=>e=.returned (.tuple #[]) /\ w'.ownsRow B 134 2 v (sortIt l).length (flatK encIt (sortIt l)) /\ w.grownBy w' v.ownBlock:=by
 rcases h.2 with ⟨rfl,h0⟩ | ⟨g,cap,cur,rfl,hBg,_⟩
 ·have hl:l=[]:=List.eq_nil_of_length_eq_zero h0;subst hl;exact (AnyF.slices_SortFunc_none Tryz.sortItems none 0 _ w).mono fun _ _ ⟨he,hw⟩=>⟨he,by rw [hw];exact h,by rw [hw];exact grown_refl _ _⟩
 ·have hg:=(h.lt g rfl).2;have eg:∀ args w,(callFunc 108 args).run Tryz.prog w=.ok (.enter 108 args) w:=enters_of Tryz.func108 (by kernel_rfl) rfl;have hH:=own_holds encIt_len (by decide) h rfl;have hcmp:CmpLays Tryz.prog 108 #[] encIt 2 cfIt g 0 l.toArray.size w:=fun _ _ _ _ x y=>order_any x y _;have hcon:=AnyQ.slices_SortFunc Tryz.sortItems 2 Tryz.isAgg134 Tryz.sizeOf134 encIt encIt_len encIt_one cfIt swo_cfIt 108 #[] g 0 cap l.toArray w eg hcmp hH hg (by simpa using hmax);refine hcon.mono ?_;rintro e w' ⟨rfl,d,n,os,hp,hs,rfl⟩;have hd:d.toList=sortIt l:=sorted_of d l (by simpa using hp) (by simpa using hs);have hsz:d.size=l.length:=by have:=hp.1;simpa using this
  have hso:=sorted_own encIt_len (by decide) h n d hsz os;rw [hd] at hso;have hlen:(sortIt l).length=l.length:=(sortIt_perm l).length_eq;refine ⟨rfl,?_,hso.2⟩;rw [hlen];exact hso.1
end Go.Proofs.YthiochcpmfkgcaaGreatDoor.Tb
namespace Go.Proofs.YthiochcpmfkgcaaGreatDoor.Tb
open Go Go.RowKit Go.Proofs Go.Sort Go.Shelf Mx
def cfSet (a b:Nat):Int:=(leastF a:Int) - (leastF b:Int)
theorem lt_cfSet (x y:Nat):ltOf cfSet x y=decide (leastF x<leastF y):=by
 unfold ltOf cfSet
 by_cases h:leastF x<leastF y
 ·simp [h];omega
 ·simp [h];omega
theorem swo_cfSet:SWO (ltOf cfSet) where
 irrefl x:=by rw [lt_cfSet];simp
 trans x y z h k:=by rw [lt_cfSet] at *;simp at *;omega
 ntrans x y z h k:=by rw [lt_cfSet] at *;simp at *;omega
theorem Bru.grown {w w':World} {g:Nat} (h:Bru w) (hb:w.grownBy w' (some g)) (hg:LB<=g) (hw:LB<=w.heap.size):Bru w' :=
 h.below (B:=LB) ⟨hb.os,hb.tape,hb.output,hb.size,fun k hk=>hb.block k (by omega) (by intro e;injection e with e;omega)⟩ (nR _)
theorem splitcmp_any (M N:Nat) (w:World) (hT:Bru w) (h6:LB<=w.heap.size) :
  Calls Tryz.prog 118 #[setV M,setV N] w fun e w'=>e=.returned (.int .i64 (cfSet M N)) /\ Grew w w':=by
 have h1:=fun W hT h6=>least_any M W hT h6;have h2:=fun W hT h6=>least_any N W hT h6;have b1:=leastF_lt M;have b2:=leastF_lt N;unfold cfSet;generalize leastF M=x at *;generalize leastF N=y at *;unfold setV at h1 h2 ⊢;have HT:=Z2.mk hT h6;clear hT h6;go_enter Tryz.func118,Tryz.ntmps118;go_wp2_with fail
 have hG0:Grew w ((w.alloc (.cells #[.int .u64 (wd M 0),.int .u64 (wd M 1),.int .u64 (wd M 2),.int .u64 (wd M 3)] 33)).alloc (.cells #[.int .u64 (wd N 0),.int .u64 (wd N 1),.int .u64 (wd N 2),.int .u64 (wd N 3)] 33)):=((Grew.refl w).alloc _).alloc _;have hB1:Blk ((w.alloc (.cells #[.int .u64 (wd M 0),.int .u64 (wd M 1),.int .u64 (wd M 2),.int .u64 (wd M 3)] 33)).alloc (.cells #[.int .u64 (wd N 0),.int .u64 (wd N 1),.int .u64 (wd N 2),.int .u64 (wd N 3)] 33)) (w.heap.size+1) 33 #[.int .u64 (wd N 0),.int .u64 (wd N 1),.int .u64 (wd N 2),.int .u64 (wd N 3)]:=Blk.new_ (by simp) _ _;generalize ((w.alloc (.cells #[.int .u64 (wd M 0),.int .u64 (wd M 1),.int .u64 (wd M 2),.int .u64 (wd M 3)] 33)).alloc (.cells #[.int .u64 (wd N 0),.int .u64 (wd N 1),.int .u64 (wd N 2),.int .u64 (wd N 3)] 33))=w2 at hG0 hB1 ⊢;refine (h1 _ (HT.o1.below hG0.below HT.o2) (Nat.le_trans HT.o2 hG0.below.size)).mono ?_;rintro e w3 ⟨⟨p,rfl⟩,hg3⟩;have hG3:=hG0.trans hg3;obtain ⟨f0,f1,f2,f3,ff⟩:=(hB1.below hg3.below hB1.lt).facts4;have H3:=Hd hG3;clear hG0 hB1 hg3 hG3;go_wp2_with fail
 refine (h2 _ (HT.o1.below H3.out.below HT.o2) (Nat.le_trans HT.o2 H3.out.below.size)).mono ?_;rintro e w4 ⟨⟨q,rfl⟩,hg4⟩;have H4:=Hd (H3.out.trans hg4);clear hg4 h1 h2;go_wp2_with fail
 go_ret;exact ⟨rfl,H4.out⟩
theorem sortedS_of (d:Array Nat) (l:List Nat) (hl:Parts l) (hp:PermIn 0 l.length l.toArray d) (hs:SortedIn (ltOf cfSet) 0 l.length d):d.toList=l.foldr insSet []:=by
 obtain ⟨h1,_,h2⟩:=hp;have e1:d.size=l.length:=by simpa using h1
 refine sortSet_unique hl ?_ ?_
 ·have h3:(d.extract 0 l.length).toList=d.toList:=by rw [<- e1];simp
  have h4:(l.toArray.extract 0 l.length).toList=l:=by simp
  rw [h3,h4] at h2;exact h2
 ·rw [List.pairwise_iff_getElem];intro i j hi hj hij;have h3:=hs i j (Nat.zero_le _) hij (by rw [<- e1];simpa using hj);rw [lt_cfSet] at h3;have ei:d[i]! = d.toList[i]:=by rw [getElem!_pos d i (by simpa using hi)];simp
  have ej:d[j]! = d.toList[j]:=by rw [getElem!_pos d j (by simpa using hj)];simp
  rw [ei,ej] at h3
  simpa using h3
theorem encSet_one (M:Nat):∀ u∈encSet M,u.oneCell'=true:=by
 intro u hu;simp [encSet] at hu
 rcases hu with rfl | rfl | rfl | rfl <;> rfl
theorem sortSets_any (l:List Nat) (hl:Parts l) (B:Nat) (v:Value) (w:World) (h:w.ownsRow B 33 4 v l.length (flatK encSet l)) (hT:Bru w) (hB:LB<=B) :
  Calls Tryz.prog 117 #[v,.func (.func 118) #[] #[]] w fun e w'=>e=.returned (.tuple #[]) /\ w'.ownsRow B 33 4 v l.length (flatK encSet (l.foldr insSet [])) /\ w.grownBy w' v.ownBlock:=by
 have hmax:=parts_len hl
 rcases h.2 with ⟨rfl,h0⟩ | ⟨g,cap,cur,rfl,hBg,_⟩
 ·have hl:l=[]:=List.eq_nil_of_length_eq_zero h0;subst hl;exact (AnyF.slices_SortFunc_none Tryz.sortSets none 0 _ w).mono fun _ _ ⟨he,hw⟩=>⟨he,by rw [hw];exact h,by rw [hw];exact grown_refl _ _⟩
 ·have hg:=(h.lt g rfl).2;have eg:∀ args w,(callFunc 118 args).run Tryz.prog w=.ok (.enter 118 args) w:=enters_of Tryz.func118 (by kernel_rfl) rfl;have hH:=own_holds encSet_len (by decide) h rfl
  have hcmp:CmpLays Tryz.prog 118 #[] encSet 4 cfSet g 0 l.toArray.size w:=fun m os dk hdk x y=>by
   have hgr:=(sorted_own encSet_len (by decide) h m dk (by simpa using hdk) os).2;exact splitcmp_any x y _ (hT.grown hgr (by omega) (by omega)) (by have:=hgr.size;omega)
  have hcon:=AnyQ.slices_SortFunc Tryz.sortSets 4 Tryz.isAgg33 Tryz.sizeOf33 encSet encSet_len encSet_one cfSet swo_cfSet 118 #[] g 0 cap l.toArray w eg hcmp hH hg (by simp;omega);refine hcon.mono ?_;rintro e w' ⟨rfl,d,n,os,hp,hs,rfl⟩;have hd:d.toList=l.foldr insSet []:=sortedS_of d l hl (by simpa using hp) (by simpa using hs);have hsz:d.size=l.length:=by have:=hp.1;simpa using this
  have hso:=sorted_own encSet_len (by decide) h n d hsz os;rw [hd] at hso;exact ⟨rfl,hso.1,hso.2⟩
open Go.Maps
attribute [local go_sem] eqSet guardSet
theorem setCells_blk (w:World) (M:Nat):∀ j u,(encSet M)[j]?=some u->(w.alloc (.cells #[.int .u64 (wd M 0),.int .u64 (wd M 1),.int .u64 (wd M 2),.int .u64 (wd M 3)] 33)).cell? ((⟨w.heap.size,0,none⟩:Addr).add j)=some u:=by
 intro j u hj;have hb:Blk (w.alloc (.cells #[.int .u64 (wd M 0),.int .u64 (wd M 1),.int .u64 (wd M 2),.int .u64 (wd M 3)] 33)) w.heap.size 33 #[.int .u64 (wd M 0),.int .u64 (wd M 1),.int .u64 (wd M 2),.int .u64 (wd M 3)]:=Blk.new w _ _;rw [addr_add_,Nat.zero_add,hb.cell j]
 simpa [encSet] using hj
theorem encSet_one' (M:Nat):∀ u∈encSet M,u.oneCell'=true:=by
 intro u hu;simp [encSet] at hu
 rcases hu with rfl | rfl | rfl | rfl <;> rfl
structure SpW (s:Nat) (wr wq:World) (next:List Nat) (c:Nat) (f:Lit->Option Value) (v7:Value):Prop where
 own:wq.ownsRow (wr.heap.size+2) 33 4 v7 next.length (flatK encSet next)
 map:MapV Tryz.prog 33 wq (wr.heap.size+1) c f
 met:MetS f next c
 set:Blk wq wr.heap.size 33 #[.int .u64 (wd s 0),.int .u64 (wd s 1),.int .u64 (wd s 2),.int .u64 (wd s 3)]
 below:Below wr.heap.size wr wq
 size:wr.heap.size+2<=wq.heap.size
 len:next.length<=c
section
variable {s:Nat} {wr wq w':World} {next:List Nat} {c:Nat} {f:Lit → Option Value} {v7:Value}
theorem SpW.keep (h:SpW s wr wq next c f v7) (hb:Below wq.heap.size wq w'):SpW s wr w' next c f v7 :=
 ⟨row_below h.own hb,h.map.below hb h.map.lt,h.met,h.set.below hb h.set.lt,h.below.trans (hb.mono h.below.size),Nat.le_trans h.size hb.size,h.len⟩
theorem SpW.old (h:SpW s wr wq next c f v7) {x:Nat} (hx:x<2 ^ 256) {n:Int} (h0:0<=n) (hc:n<=c) (hn:x≠0->(x∈next↔n≠0)) (hin:x=0∨x∈next)
  (hm:MapV Tryz.prog 33 w' (wr.heap.size+1) (c+1) (putV f (keyS x) (.int .i64 (n+1)))) (hg:wq.grownBy w' (some (wr.heap.size+1))):SpW s wr w' (addF next x) (c+1) (putV f (keyS x) (.int .i64 (n+1))) v7:=by
 have he:addF next x=next:=by unfold addF;rw [if_pos hin]
 have hst:=h.met.step x hx h0 hc hn;rw [he] at hst ⊢;refine ⟨h.own.kept hg ?_,hm,hst,h.set.grown hg (by simp),?_,Nat.le_trans h.size hg.size,Nat.le_succ_of_le h.len⟩
 ·cases e:v7.ownBlock with
  | none=>exact .inl rfl
  | some b=>exact .inr (by have:=(h.own.lt b e).1;intro e2;injection e2 with e2;omega)
 ·exact h.below.trans (below_of_grown hg (by have:=h.size;omega) (by omega))
theorem SpW.mid (h:SpW s wr wq next c f v7) {f':Lit->Option Value} (hm:MapV Tryz.prog 33 w' (wr.heap.size+1) (c+1) f') (hg:wq.grownBy w' (some (wr.heap.size+1))) :
  w'.ownsRow (wr.heap.size+2) 33 4 v7 next.length (flatK encSet next) /\ Blk w' wr.heap.size 33 #[.int .u64 (wd s 0),.int .u64 (wd s 1),.int .u64 (wd s 2),.int .u64 (wd s 3)] /\ Below wr.heap.size wr w':=by
 refine ⟨h.own.kept hg ?_,h.set.grown hg (by simp),h.below.trans (below_of_grown hg (by have:=h.size;omega) (by omega))⟩
 cases e:v7.ownBlock with
 | none=>exact .inl rfl
 | some b=>exact .inr (by have:=(h.own.lt b e).1;intro e2;injection e2 with e2;omega)
end
theorem opt_of {α:Type} {D:Nat->Prop} {enc:α->List Value} {k n c:Nat} {w:World} {a:Option Addr} {l:List α} (h:SliceK D enc k w (.slice a n c) l):OptK D enc k w a l:=by
 obtain ⟨a',c',e,_,_,h⟩:=h;injection e with e;rw [e];exact h
theorem split_core (D:Nat->Prop) (l:List Nat) (hlt:∀ s∈l,s<2 ^ 256) (v:Value) (w:World) (hv:SliceK D encSet 4 w v l)
    (hsort:∀ (parts:List Nat) (v:Value) (W:World),Parts parts->W.ownsRow w.heap.size 33 4 v parts.length (flatK encSet parts)->Below w.heap.size w W ->
      Calls Tryz.prog 117 #[v,.func (.func 118) #[] #[]] W fun e W'=>e=.returned (.tuple #[]) /\ W'.ownsRow w.heap.size 33 4 v parts.length (flatK encSet (parts.foldr insSet [])) /\ W.grownBy W' v.ownBlock) :
    Calls Tryz.prog 87 #[v] w fun e w'=>∃ v',e=.returned v' /\ w'.ownsRow w.heap.size 33 4 v' (splitF l).length (flatK encSet (splitF l)) /\ Below w.heap.size w w':=by
  obtain ⟨a,c,rfl,hc1,hc2,hk⟩:=hv;have hmx:l.length<=9223372036854775807:=by unfold maxLen at hc2;omega
  have hall:=fun W=>all_any W;have HK:=Z3.mk hk hlt hsort;clear hk hlt hsort;have hmm:=@run_makeMap Tryz.prog;unfold setV at hall;go_enter Tryz.func87,Tryz.ntmps87;go_wp2_with fail
  refine (hall _).mono ?_;rintro e w1 ⟨rfl,hb1⟩;clear hall;go_wp2_with fail
  have hown0:(w1.alloc (.cells #[.int .u64 (wd fullM 0),.int .u64 (wd fullM 1),.int .u64 (wd fullM 2),.int .u64 (wd fullM 3)] 33)).ownsRow w.heap.size 33 4 (.slice (some ⟨w1.heap.size,0,none⟩) 1 1) 1 (flatK encSet [2 ^ 256 - 1]) :=
    own_fresh w1 33 4 1 _ hb1.size rfl (by decide)
  have hbl0:Below w.heap.size w (w1.alloc (.cells #[.int .u64 (wd fullM 0),.int .u64 (wd fullM 1),.int .u64 (wd fullM 2),.int .u64 (wd fullM 3)] 33)):=hb1.alloc hb1.size _;generalize (w1.alloc (.cells #[.int .u64 (wd fullM 0),.int .u64 (wd fullM 1),.int .u64 (wd fullM 2),.int .u64 (wd fullM 3)] 33))=w2 at hown0 hbl0 ⊢
  go_loopg [3,16] l.length (fun m v3 v16 wr=>∃ (i:Nat) (parts:List Nat),i<=l.length /\ m=l.length - i /\ v16=.int .i64 i /\ parts=(l.take i).foldl splitStep [2 ^ 256 - 1] /\ wr.ownsRow w.heap.size 33 4 v3 parts.length (flatK encSet parts) /\ Below w.heap.size w wr)
  case atStart=>exact ⟨0,_,by omega,rfl,rfl,rfl,hown0,hbl0⟩
  case round =>
    obtain ⟨i,parts,hi,hm,rfl,hparts,hown,hb⟩:=hrel;have hPp:Parts parts:=by rw [hparts];exact parts_all _ _ (fun s hs=>HK.o2 s (List.mem_of_mem_take hs)) full_parts
    have hpl:=parts_len hPp;clear hown0 hbl0 hb1
    by_cases hlt:i<l.length
    · obtain ⟨s,hs⟩:∃ s,l[i]?=some s:=⟨_,gE hlt⟩
      obtain ⟨kg,ko,rfl,_,hkr⟩:=HK.o1 (by rintro rfl;simp at hlt)
      have k0:=hkr.cells i _ hs 0 _ rfl;have k1:=hkr.cells i _ hs 1 _ rfl;have k2:=hkr.cells i _ hs 2 _ rfl;have k3:=hkr.cells i _ hs 3 _ rfl;simp only [Nat.add_zero] at k0;have k0:=(hb.cell (p:=⟨kg,ko+i * 4,none⟩) (wL _ _ k0)).trans k0;have k1:=(hb.cell (p:=⟨kg,ko+i * 4+1,none⟩) (wL _ _ k1)).trans k1;have k2:=(hb.cell (p:=⟨kg,ko+i * 4+2,none⟩) (wL _ _ k2)).trans k2;have k3:=(hb.cell (p:=⟨kg,ko+i * 4+3,none⟩) (wL _ _ k3)).trans k3;have hs256:=HK.o2 s (gM hs);have hnext:(l.take (i+1)).foldl splitStep [2 ^ 256 - 1]=splitStep parts s:=by
        rw [List.take_add_one,hs,hparts];simp
      obtain ⟨pa,pc,rfl⟩:=own_shape hown;have hi0:(0:Int)<=i:=by omega
      have hi1:(i:Int)<l.length:=by omega
      have A:=Z6.mk hm hown hb hnext hs256 hPp;clear hm hown hb hnext hs hkr hPp hparts hs256;obtain ⟨N,hN⟩:=eX parts.length;rw [hN] at hpl ⊢;have HN:=Hd hN;clear hN;go_wp2_with fail
      have gs:Blk ((wr.alloc (.cells #[.int .u64 (wd s 0),.int .u64 (wd s 1),.int .u64 (wd s 2),.int .u64 (wd s 3)] 33)).alloc (.map #[] 0)) wr.heap.size 33 #[.int .u64 (wd s 0),.int .u64 (wd s 1),.int .u64 (wd s 2),.int .u64 (wd s 3)]:=(Blk.new _ _ _).alloc _;have gm:=MapV.made (wr.alloc (.cells #[.int .u64 (wd s 0),.int .u64 (wd s 1),.int .u64 (wd s 2),.int .u64 (wd s 3)] 33)) Tryz.prog 33;rw [World.size_alloc] at gm;have gb:Below wr.heap.size wr ((wr.alloc (.cells #[.int .u64 (wd s 0),.int .u64 (wd s 1),.int .u64 (wd s 2),.int .u64 (wd s 3)] 33)).alloc (.map #[] 0)):=((bR _ wr).alloc (nR _) _).alloc (by simp) _;have gz:wr.heap.size+2<=((wr.alloc (.cells #[.int .u64 (wd s 0),.int .u64 (wd s 1),.int .u64 (wd s 2),.int .u64 (wd s 3)] 33)).alloc (.map #[] 0)).heap.size:=by simp
      generalize ((wr.alloc (.cells #[.int .u64 (wd s 0),.int .u64 (wd s 1),.int .u64 (wd s 2),.int .u64 (wd s 3)] 33)).alloc (.map #[] 0))=w3 at gs gm gb gz ⊢;have hPK:=opt_of (own_sliceK encSet_len A.o2);have G:=Z5.mk gs gm gb gz hPK;clear gs gm gb gz hPK k0 k1 k2 k3;obtain ⟨wo,rfl⟩:∃ wo:World,wo=wr:=⟨_,rfl⟩
      go_loopg [7,23] N (fun m v7 v23 wq=>∃ (j:Nat) (next:List Nat) (f:Lit->Option Value),j<=N /\ m=N - j /\ v23=.int .i64 j /\ next=(parts.take j).foldl (fun nx p=>cutF nx p s) [] /\ SpW s wo wq next (2 * j) f v7)
      case atStart=>exact ⟨0,[],_,by omega,rfl,rfl,rfl,⟨World.ownsRow_nil _ _ _ _,G.o2,MetS.start,G.o1,G.o3,G.o4,by simp⟩⟩
      case round =>
        obtain ⟨j,next,f,hj,hm,rfl,hnx,hS⟩:=hrel;obtain ⟨na,nc,rfl⟩:=own_shape hS.own
        by_cases hjN:j<N
        · have hjl:j<parts.length:=by rw [HN.out];exact hjN
          obtain ⟨p,hp⟩:∃ p,parts[j]?=some p:=⟨_,gE hjl⟩;have hpe:parts[j]=p:=by rw [gE hjl] at hp;injection hp
          obtain ⟨pg,po,rfl,_,hpgl,hpc⟩:=G.o5.at_ hjl;rw [hpe] at hpc;have k0:=hpc 0 _ rfl;have k1:=hpc 1 _ rfl;have k2:=hpc 2 _ rfl;have k3:=hpc 3 _ rfl;simp only [Nat.add_zero] at k0;have k0:=(hS.below.cell (p:=⟨pg,po+j * 4,none⟩) hpgl).trans k0;have k1:=(hS.below.cell (p:=⟨pg,po+j * 4+1,none⟩) hpgl).trans k1;have k2:=(hS.below.cell (p:=⟨pg,po+j * 4+2,none⟩) hpgl).trans k2;have k3:=(hS.below.cell (p:=⟨pg,po+j * 4+3,none⟩) hpgl).trans k3;have hp256:=(A.o6.1 p (gM hp)).2;have hnext2:(parts.take (j+1)).foldl (fun nx p=>cutF nx p s) []=cutF next p s:=by
            rw [List.take_add_one,hp,hnx];simp
          have hj0:(0:Int)<=j:=by omega
          have hj1:(j:Int)<N:=by omega
          have Q:=Z4.mk hm hS hnext2 hp256;clear hm hS hnext2 hnx hp hpe hpc hpgl hjl hp256;go_wp2_with fail
          have gs:Blk (wr.alloc (.cells #[.int .u64 (wd p 0),.int .u64 (wd p 1),.int .u64 (wd p 2),.int .u64 (wd p 3)] 33)) wo.heap.size 33 #[.int .u64 (wd s 0),.int .u64 (wd s 1),.int .u64 (wd s 2),.int .u64 (wd s 3)]:=Q.o2.set.alloc _;have gp:Blk (wr.alloc (.cells #[.int .u64 (wd p 0),.int .u64 (wd p 1),.int .u64 (wd p 2),.int .u64 (wd p 3)] 33)) wr.heap.size 33 #[.int .u64 (wd p 0),.int .u64 (wd p 1),.int .u64 (wd p 2),.int .u64 (wd p 3)]:=Blk.new _ _ _;have gS:SpW s wo (wr.alloc (.cells #[.int .u64 (wd p 0),.int .u64 (wd p 1),.int .u64 (wd p 2),.int .u64 (wd p 3)] 33)).drew next (2 * j) f (.slice na next.length nc):=Q.o2.keep ((bR _ wr).alloc (nR _) _).drew;generalize (wr.alloc (.cells #[.int .u64 (wd p 0),.int .u64 (wd p 1),.int .u64 (wd p 2),.int .u64 (wd p 3)] 33))=w4 at gs gp gS ⊢;generalize wr.heap.size=bp at gp ⊢;have cs:∀ W,Below w4.heap.size w4.drew W->∀ i:Nat,W.cell? ⟨wo.heap.size,i,none⟩=w4.cell? ⟨wo.heap.size,i,none⟩:=fun W h i=>h.cell (p:=⟨wo.heap.size,i,none⟩) gs.lt;have cp:∀ W,Below w4.heap.size w4.drew W->∀ i:Nat,W.cell? ⟨bp,i,none⟩=w4.cell? ⟨bp,i,none⟩:=fun W h i=>h.cell (p:=⟨bp,i,none⟩) gp.lt;have s0:∀ W,Below w4.heap.size w4.drew W->W.cell? ⟨wo.heap.size,0,none⟩=some (.int .u64 (wd s 0)):=fun W h=>(cs W h 0).trans (gs.cell 0);have s1:∀ W,Below w4.heap.size w4.drew W->W.cell? ⟨wo.heap.size,1,none⟩=some (.int .u64 (wd s 1)):=fun W h=>(cs W h 1).trans (gs.cell 1);have s2:∀ W,Below w4.heap.size w4.drew W->W.cell? ⟨wo.heap.size,2,none⟩=some (.int .u64 (wd s 2)):=fun W h=>(cs W h 2).trans (gs.cell 2);have s3:∀ W,Below w4.heap.size w4.drew W->W.cell? ⟨wo.heap.size,3,none⟩=some (.int .u64 (wd s 3)):=fun W h=>(cs W h 3).trans (gs.cell 3);have p0:∀ W,Below w4.heap.size w4.drew W->W.cell? ⟨bp,0,none⟩=some (.int .u64 (wd p 0)):=fun W h=>(cp W h 0).trans (gp.cell 0);have p1:∀ W,Below w4.heap.size w4.drew W->W.cell? ⟨bp,1,none⟩=some (.int .u64 (wd p 1)):=fun W h=>(cp W h 1).trans (gp.cell 1);have p2:∀ W,Below w4.heap.size w4.drew W->W.cell? ⟨bp,2,none⟩=some (.int .u64 (wd p 2)):=fun W h=>(cp W h 2).trans (gp.cell 2);have p3:∀ W,Below w4.heap.size w4.drew W->W.cell? ⟨bp,3,none⟩=some (.int .u64 (wd p 3)):=fun W h=>(cp W h 3).trans (gp.cell 3);have hwE:p &&& notM s=p &&& (2 ^ 256 - 1 - s):=by rw [notM_eq A.o5]
          obtain ⟨X,hX⟩:=eX (p &&& s);obtain ⟨Y,hY⟩:=eX (p &&& notM s);have hmeet:∀ W,Below w4.heap.size w4.drew W->Calls Tryz.prog 115 #[.agg #[.int .u64 (wd p 0),.int .u64 (wd p 1),.int .u64 (wd p 2),.int .u64 (wd p 3)],.agg #[.int .u64 (wd s 0),.int .u64 (wd s 1),.int .u64 (wd s 2),.int .u64 (wd s 3)]] W fun e W' =>
              e=.returned (.agg #[.int .u64 (wd X 0),.int .u64 (wd X 1),.int .u64 (wd X 2),.int .u64 (wd X 3)]) /\ Below w4.heap.size w4.drew W':=fun W h=>(meet_any p s W).mono fun e W' ⟨he,hb⟩=>⟨by rw [he,hX];rfl,h.trans (hb.mono h.size)⟩
          have hwo:∀ W,Below w4.heap.size w4.drew W->Calls Tryz.prog 116 #[.agg #[.int .u64 (wd p 0),.int .u64 (wd p 1),.int .u64 (wd p 2),.int .u64 (wd p 3)],.agg #[.int .u64 (wd s 0),.int .u64 (wd s 1),.int .u64 (wd s 2),.int .u64 (wd s 3)]] W fun e W' =>
              e=.returned (.agg #[.int .u64 (wd Y 0),.int .u64 (wd Y 1),.int .u64 (wd Y 2),.int .u64 (wd Y 3)]) /\ Below w4.heap.size w4.drew W':=fun W h=>(without_any p s W).mono fun e W' ⟨he,hb⟩=>⟨by rw [he,hY];rfl,h.trans (hb.mono h.size)⟩
          have hcut:cutF next p s=addF (addF next X) Y:=by rw [cutF_eq,<- hwE,hX,hY]
          have hX256:X<2 ^ 256:=by rw [<- hX];exact Nat.lt_of_le_of_lt Nat.and_le_left Q.o4
          have hY256:Y<2 ^ 256:=by rw [<- hY];exact Nat.lt_of_le_of_lt Nat.and_le_left Q.o4
          have hU:Below w4.heap.size w4.drew w4.drew:=bR _ _;have R:=Z4.mk gS hcut hX256 hY256;clear gs gp gS cs cp hwE hX hY hcut hX256 hY256;clear k0 k1 k2 k3;have mkS:∀ W,Below w4.heap.size w4.drew W->(W.cell? ⟨wo.heap.size,0,none⟩=some (.int .u64 (wd s 0)) /\ W.cell? ⟨wo.heap.size,1,none⟩=some (.int .u64 (wd s 1)) /\ W.cell? ⟨wo.heap.size,2,none⟩=some (.int .u64 (wd s 2)) /\ W.cell? ⟨wo.heap.size,3,none⟩=some (.int .u64 (wd s 3))) /\
              (W.cell? ⟨bp,0,none⟩=some (.int .u64 (wd p 0)) /\ W.cell? ⟨bp,1,none⟩=some (.int .u64 (wd p 1)) /\ W.cell? ⟨bp,2,none⟩=some (.int .u64 (wd p 2)) /\ W.cell? ⟨bp,3,none⟩=some (.int .u64 (wd p 3))) /\ Below w4.heap.size w4.drew W :=
            fun W h=>⟨⟨s0 W h,s1 W h,s2 W h,s3 W h⟩,⟨p0 W h,p1 W h,p2 W h,p3 W h⟩,h⟩
          have MK:=Hd mkS;have AL:=Hd (show ∀ W o,Below w4.heap.size w4.drew W->Below w4.heap.size w4.drew (W.alloc o) from fun W o h=>h.alloc h.size o);clear mkS;clear s0 s1 s2 s3 p0 p1 p2 p3;apply via
          · intro KV
            go_region_held3 (fun W=>(W.cell? ⟨wo.heap.size,0,none⟩=some (.int .u64 (wd s 0)) /\ W.cell? ⟨wo.heap.size,1,none⟩=some (.int .u64 (wd s 1)) /\ W.cell? ⟨wo.heap.size,2,none⟩=some (.int .u64 (wd s 2)) /\ W.cell? ⟨wo.heap.size,3,none⟩=some (.int .u64 (wd s 3))) /\
              (W.cell? ⟨bp,0,none⟩=some (.int .u64 (wd p 0)) /\ W.cell? ⟨bp,1,none⟩=some (.int .u64 (wd p 1)) /\ W.cell? ⟨bp,2,none⟩=some (.int .u64 (wd p 2)) /\ W.cell? ⟨bp,3,none⟩=some (.int .u64 (wd p 3))) /\ Below w4.heap.size w4.drew W)
              (first
                | exact MK.out _ hU
                | exact MK.out _ (by assumption)
                | exact MK.out _ (AL.out _ _ (by assumption)))
              (first
                | (go_at_call 115;refine (hmeet _ (by assumption)).mono ?_;rintro e w5 ⟨rfl,hb5⟩)
                | (go_at_call 116;refine (hwo _ (by assumption)).mono ?_;rintro e w5 ⟨rfl,hb5⟩))
            all_goals (try go_simp)
            all_goals revert w5
            all_goals exact KV.out
          · intro w5 hb5
            intros
            clear hmeet hwo hU MK AL;have gB:Blk (w5.alloc (.cells #[.int .u64 (wd X 0),.int .u64 (wd X 1),.int .u64 (wd X 2),.int .u64 (wd X 3),.int .u64 (wd Y 0),.int .u64 (wd Y 1),.int .u64 (wd Y 2),.int .u64 (wd Y 3)] 33)) w5.heap.size 33 #[.int .u64 (wd X 0),.int .u64 (wd X 1),.int .u64 (wd X 2),.int .u64 (wd X 3),.int .u64 (wd Y 0),.int .u64 (wd Y 1),.int .u64 (wd Y 2),.int .u64 (wd Y 3)]:=Blk.new _ _ _;have gS6:=R.o1.keep (hb5.alloc hb5.size (.cells #[.int .u64 (wd X 0),.int .u64 (wd X 1),.int .u64 (wd X 2),.int .u64 (wd X 3),.int .u64 (wd Y 0),.int .u64 (wd Y 1),.int .u64 (wd Y 2),.int .u64 (wd Y 3)] 33));have gx:∀ b,(Value.slice na next.length nc).ownBlock=some b->b≠w5.heap.size:=fun b hb=>by
              have h1:=(R.o1.own.lt b hb).2;have h2:=hb5.size;omega
            generalize (w5.alloc (.cells #[.int .u64 (wd X 0),.int .u64 (wd X 1),.int .u64 (wd X 2),.int .u64 (wd X 3),.int .u64 (wd Y 0),.int .u64 (wd Y 1),.int .u64 (wd Y 2),.int .u64 (wd Y 3)] 33))=w6 at *;have hxbo:wo.heap.size+2<=w5.heap.size:=by have h1:=R.o1.size;have h2:=hb5.size;omega
            generalize w5.heap.size=xb at *;have G6:=Z3.mk gB gS6 gx;clear gB gS6 gx hb5;rename_i hjunk;clear hjunk;go_wp2_with fail
            go_loopg [7,35] 2 (fun m v7 v35 wt=>∃ (k:Nat) (nx:List Nat) (f':Lit->Option Value),k<=2 /\ m=2 - k /\ v35=.int .i64 k /\ nx=([X,Y].take k).foldl addF next /\ SpW s wo wt nx (2 * j+k) f' v7 /\
              Blk wt xb 33 #[.int .u64 (wd X 0),.int .u64 (wd X 1),.int .u64 (wd X 2),.int .u64 (wd X 3),.int .u64 (wd Y 0),.int .u64 (wd Y 1),.int .u64 (wd Y 2),.int .u64 (wd Y 3)] /\ ∀ b,v7.ownBlock=some b->b≠xb)
            case atStart=>exact ⟨0,next,f,by omega,rfl,rfl,rfl,G6.o2,G6.o1,G6.o3⟩
            case round =>
              obtain ⟨k,nx,f',hk,hm,rfl,hnx,hS,hB,hne⟩:=hrel;obtain ⟨ma,mc,rfl⟩:=own_shape hS.own
              by_cases hk2:k<2
              · obtain ⟨x,hx256,hfold,c0,c1,c2,c3⟩:∃ x,x<2 ^ 256 /\ ([X,Y].take (k+1)).foldl addF next=addF nx x /\ wr.cell? ⟨xb,k * 4,none⟩=some (.int .u64 (wd x 0)) /\ wr.cell? ⟨xb,k * 4+1,none⟩=some (.int .u64 (wd x 1)) /\
                    wr.cell? ⟨xb,k * 4+2,none⟩=some (.int .u64 (wd x 2)) /\ wr.cell? ⟨xb,k * 4+3,none⟩=some (.int .u64 (wd x 3)):=by
                  rcases (show k=0∨k=1 by omega) with rfl | rfl
                  · exact ⟨X,R.o3,by rw [hnx];rfl,hB.cell 0,hB.cell 1,hB.cell 2,hB.cell 3⟩
                  · exact ⟨Y,R.o4,by rw [hnx];rfl,hB.cell 4,hB.cell 5,hB.cell 6,hB.cell 7⟩
                obtain ⟨n,hn0,hnc,hval,hin⟩:=hS.met.val x hx256;have hz:=wd_zero_iff x hx256;have hk0:(0:Int)<=k:=by omega
                have hk1:(k:Int)<2:=by omega
                have hlen:=hS.len;have T:=Z9.mk hm hS hB hne hnx hfold hin hx256 hz;clear hm hS hB hne hnx hfold hin hx256 hz;obtain ⟨wt,rfl⟩:∃ wt:World,wt=wr:=⟨_,rfl⟩;go_wp2_with fail
                have hbW:Below wt.heap.size wt (wt.alloc (.cells #[.int .u64 (wd x 0),.int .u64 (wd x 1),.int .u64 (wd x 2),.int .u64 (wd x 3)] 33)).drew:=((bR _ wt).alloc (nR _) _).drew;have hXW:Blk (wt.alloc (.cells #[.int .u64 (wd x 0),.int .u64 (wd x 1),.int .u64 (wd x 2),.int .u64 (wd x 3)] 33)).drew wt.heap.size 33 #[.int .u64 (wd x 0),.int .u64 (wd x 1),.int .u64 (wd x 2),.int .u64 (wd x 3)]:=Blk.new _ _ _;have hSW:=T.o2.keep hbW;have hBW:=T.o3.below hbW T.o3.lt;have hxw:xb<wt.heap.size:=T.o3.lt;obtain ⟨w7,hw7⟩:=eX ((wt.alloc (.cells #[.int .u64 (wd x 0),.int .u64 (wd x 1),.int .u64 (wd x 2),.int .u64 (wd x 3)] 33)));rw [hw7] at hbW hXW hSW hBW ⊢;clear hw7;have htb:wo.heap.size+2<=wt.heap.size:=T.o2.size;have htm:wt.heap.size≠wo.heap.size+1:=by omega
                obtain ⟨tb,htbe⟩:=eX wt.heap.size;rw [htbe] at hXW htm hxw ⊢;obtain ⟨v0,st,W1,he1,hcell,hst⟩:=hSW.map.entry setLaw Tryz.underlying198 (z:=.int .i64 0) (fun u=>Tryz.zeroValue3 u) (by unfold maxLen;omega) (keyOf_set x);have hl1:=hSW.map.entry_look setLaw Tryz.underlying198 (z:=.int .i64 0) (fun u=>Tryz.zeroValue3 u) (by unfold maxLen;omega) (keyOf_set x) he1;have hl0:=hSW.map.lookup (Keyed.of_law setLaw) Tryz.underlying198 (Tryz.zeroValue3 w7.drew) (keyOf_set x);rw [hval] at hl0 hl1;obtain ⟨W2,he2,hm2,hg2⟩:=hst (.int .i64 (n+1));obtain ⟨x0,x1,x2,x3,_⟩:=hXW.facts4;have y0:=(hcell ⟨tb,0,none⟩ htm).trans x0;have y1:=(hcell ⟨tb,1,none⟩ htm).trans x1;have y2:=(hcell ⟨tb,2,none⟩ htm).trans x2;have y3:=(hcell ⟨tb,3,none⟩ htm).trans x3;have hX2:=hXW.grown hg2 (by intro e;injection e with e;exact htm e);have hB2:=hBW.grown hg2 (by intro e;injection e with e;omega);obtain ⟨z0,z1,z2,z3,_⟩:=hX2.facts4;have T2:=Z4.mk hSW hm2 hg2 hB2;clear hbW hXW hSW hBW hst hcell hm2 hg2 hX2 hB2 htbe;apply via
                · intro KV
                  go_region
                  all_goals (try go_simp)
                  all_goals exact KV.out
                intros
                clear hl0 hl1 he1 he2 x0 x1 x2 x3 y0 y1 y2 y3
                by_cases hx0:x=0
                · have hd:decide (wd x 0=0 /\ wd x 1=0 /\ wd x 2=0 /\ wd x 3=0)=true:=decide_eq_true (T.o9.2 hx0)
                  have HX:=Hd hx0;clear hx0;go_wp2_with fail
                  go_roundg (2 - (k+1))
                  case measure=>have:=T.o1;omega
                  case rel=>exact ⟨k+1,addF nx x,_,by omega,rfl,rfl,T.o6.symm,T2.o1.old T.o8 hn0 hnc T.o7 (.inl HX.out) T2.o2 T2.o3,T2.o4,T.o4⟩
                · have hd:decide (wd x 0=0 /\ wd x 1=0 /\ wd x 2=0 /\ wd x 3=0)=false:=by rw [decide_eq_false_iff_not];exact fun h=>hx0 (T.o9.1 h)
                  have hput:putV f' (keyS x) (.int .i64 (n+1)) (keyS x)=some (.int .i64 (n+1)):=putV_same f' _ ((Keyed.of_law setLaw).key (keyOf_set x));have hmap2:MapV Tryz.prog 33 W2 (wo.heap.size+1) (2 * j+k+1) (putV f' (keyS x) (.int .i64 (n+1))):=T2.o2;have hlk:=hmap2.lookup (Keyed.of_law setLaw) Tryz.underlying198 (Tryz.zeroValue3 W2) (keyOf_set x);rw [hput] at hlk;have hlk:(Instr.lookup 198 (.map (some (wo.heap.size+1))) (.agg #[.int .u64 (wd x 0),.int .u64 (wd x 1),.int .u64 (wd x 2),.int .u64 (wd x 3)]) false).run Tryz.prog W2=.ok (.int .i64 (n+1)) W2:=hlk;have HM2:=Hd hmap2;clear hmap2 hput;have HX:=Hd hx0;clear hx0
                  by_cases hn:n=0
                  · have hni:x ∉ nx:=fun h=>(T.o7 HX.out).1 h hn
                    have hn1:((n+1:Int)==1)=true:=by simp;omega
                    obtain ⟨m1,m2,m3⟩:=T2.o1.mid T2.o2 T2.o3;have hsz2:wo.heap.size+2<=W2.heap.size:=Nat.le_trans T2.o1.size T2.o3.size;have hxl:xb<W2.heap.size:=T2.o4.lt;have hadd:addF nx x=nx++[x]:=by unfold addF;rw [if_neg (fun h=>h.elim HX.out hni)]
                    have M:=Z6.mk m1 m2 m3 hni hn hadd;clear m1 m2 m3 hni hn hadd;obtain ⟨i0,hi,hz0,hz1,hz2⟩:=info_parts infoSet;go_wp2_with (first
                      | (at_builtin;go_loud (refine wpList_append_ownF _ rfl _ _ 151 rfl (wo.heap.size+2) 33 i0 (.agg #[.int .u64 0,.int .u64 0,.int .u64 0,.int .u64 0]) 4 32 Tryz.underlying151 hi hz0 hz1 hz2 rfl (by decide) _ nx.length _ rfl (M.o1.alloc _) ⟨W2.heap.size,0,none⟩ 1 1 (encSet x) rfl rfl ?c1 ?c2 ?c3 ?c4 ?c5 ?_)))
                    case c1=>exact setCells_blk W2 x
                    case c2=>exact encSet_one' x
                    case c3=>unfold maxLen;omega
                    case c4=>omega
                    case c5=>simp;omega
                    intro v' w8 hown8 hg8 hfr8;have hg28:W2.grownBy w8 (Value.slice ma nx.length mc).ownBlock:=World.grownBy.trans (World.grownBy_alloc _ _ _) hg8;have hm8:=HM2.out.grown hg28 (by intro e;have:=M.o1.lt _ e.symm;omega);have hs8:=M.o2.grown hg28 (by intro e;have:=M.o1.lt _ e.symm;omega);have hb8:=T2.o4.grown hg28 (by intro e;exact T.o4 _ e.symm rfl);have hbl8:Below wo.heap.size W2 w8:=⟨hg28.os,hg28.tape,hg28.output,hg28.size,fun q hq=>hg28.block q (by omega) (by intro e;have:=(M.o1.lt _ e.symm).1;omega)⟩
                    have hne8:∀ b,v'.ownBlock=some b->b≠xb:=fun b hb=>by
                      rcases hfr8 b hb with h | h
                      · exact T.o4 b h
                      · first | omega | (simp at h;omega)
                    have hsp:SpW s wo w8 (addF nx x) (2 * j+k+1) (putV f' (keyS x) (.int .i64 (n+1))) v':=by
                      refine ⟨?_,hm8,T2.o1.met.step x T.o8 hn0 hnc T.o7,hs8,M.o3.trans hbl8,Nat.le_trans hsz2 hg28.size,?_⟩
                      · rw [M.o6,<- flatK_snoc,List.length_append];exact hown8
                      · rw [M.o6,List.length_append];simp;omega
                    have F8:=Z3.mk hsp hb8 hne8;clear hown8 hg8 hfr8 hg28 hm8 hs8 hb8 hbl8 hne8 hsp;go_wp2_with fail
                    go_roundg (2 - (k+1))
                    case measure=>have:=T.o1;omega
                    case rel=>exact ⟨k+1,addF nx x,_,by omega,rfl,rfl,T.o6.symm,F8.o1,F8.o2,F8.o3⟩
                  · have hi:x∈nx:=(T.o7 HX.out).2 hn
                    have hn1:((n+1:Int)==1)=false:=by simp;omega
                    have HI:=Hd hi;clear hi;go_wp2_with fail
                    go_roundg (2 - (k+1))
                    case measure=>have:=T.o1;omega
                    case rel=>exact ⟨k+1,addF nx x,_,by omega,rfl,rfl,T.o6.symm,T2.o1.old T.o8 hn0 hnc T.o7 (.inr HI.out) T2.o2 T2.o3,T2.o4,T.o4⟩
              · obtain rfl:k=2:=by omega
                have T:=Z2.mk hnx hS;clear hnx hS hB hne hm;go_wp2_with fail
                go_roundg (N - (j+1))
                case measure=>have:=Q.o1;omega
                case rel =>
                  refine ⟨j+1,nx,f',by omega,rfl,rfl,?_,?_⟩
                  · rw [Q.o3,R.o2,T.o1];rfl
                  · rw [show 2 * (j+1)=2 * j+2 by omega];exact T.o2
        · obtain rfl:j=N:=by omega
          have Q:=Z2.mk hnx hS;clear hnx hS hm;go_wp2_with fail
          go_roundg (l.length - (i+1))
          case measure=>have:=A.o1;omega
          case rel =>
            refine ⟨i+1,next,by omega,rfl,rfl,?_,own_low Q.o2.own (by have:=A.o3.size;omega),A.o3.trans (Q.o2.below.mono A.o3.size)⟩;rw [A.o4,splitStep_eq,Q.o1,<- HN.out,List.take_length]
    · obtain rfl:i=l.length:=by omega
      rw [List.take_length] at hparts;obtain ⟨pa,pc,rfl⟩:=own_shape hown;have A:=Z4.mk hparts hown hb hPp;clear hm hown hb hPp hparts;obtain ⟨N,hN⟩:=eX parts.length;rw [hN] at hpl ⊢;have HN:=Hd hN;clear hN;go_wp2_with fail
      have hcall:=HK.o3 parts _ _ A.o4 A.o2 A.o3;rw [HN.out] at hcall;refine hcall.mono ?_;rintro e w3 ⟨rfl,ho3,hg3⟩;clear hcall;have H3:=Z2.mk ho3 hg3;clear ho3 hg3;go_wp2_with fail
      go_ret;have hsp:splitF l=parts.foldr insSet []:=by unfold splitF;rw [<- A.o1]
      have hspl:(parts.foldr insSet []).length=N:=by rw [(sortSet_perm parts).length_eq,HN.out]
      refine ⟨_,rfl,?_,?_⟩
      · rw [hsp,hspl];exact H3.o1
      · exact A.o3.trans ⟨H3.o2.os,H3.o2.tape,H3.o2.output,H3.o2.size,fun k hk=>H3.o2.block k (by have:=A.o3.size;omega) (by intro e;have:=A.o2.lt k (by rw [HN.out];exact e.symm);omega)⟩
end Go.Proofs.YthiochcpmfkgcaaGreatDoor.Tb
namespace Go.Proofs.YthiochcpmfkgcaaGreatDoor.Tb
open Go Go.RowKit Go.Proofs Mx
theorem split_any (D:Nat->Prop) (l:List Nat) (hlt:∀ s∈l,s<2 ^ 256) (v:Value) (w:World) (hv:SliceK D encSet 4 w v l) (hT:Bru w) (h6:LB<=w.heap.size) :
  Calls Tryz.prog 87 #[v] w fun e w'=>∃ v',e=.returned v' /\ w'.ownsRow w.heap.size 33 4 v' (splitF l).length (flatK encSet (splitF l)) /\ Below w.heap.size w w' :=
 split_core D l hlt v w hv (fun parts v W hp ho hb=>sortSets_any parts hp w.heap.size v W ho (hT.below hb h6) h6)
theorem splitF_parts {l:List Nat} (h:∀ s∈l,s<2 ^ 256):Parts (l.foldl splitStep [2 ^ 256 - 1]):=parts_all l _ h full_parts
theorem splitF_len {l:List Nat} (h:∀ s∈l,s<2 ^ 256):(splitF l).length<=256:=by
 unfold splitF;rw [(sortSet_perm _).length_eq];exact parts_len (splitF_parts h)
theorem splitF_lt {l:List Nat} (h:∀ s∈l,s<2 ^ 256):∀ c∈splitF l,c<2 ^ 256 /\ c≠0:=fun c hc=>by
 have h1:=(sortSet_perm (l.foldl splitStep [2 ^ 256 - 1])).mem_iff.1 hc;have h2:=(splitF_parts h).1 c h1;exact ⟨h2.2,h2.1⟩
end Go.Proofs.YthiochcpmfkgcaaGreatDoor.Tb
