/- Walks and plain laws that the last text stands on: TbCheckA. -/
import Derived.Test.YthiochcpmfkgcaaGreatDoorSo6
import Derived.Deep.RegionHeld3
import Derived.Deep.DeepCutAuto
set_option linter.unusedVariables false
set_option linter.unusedSimpArgs false
set_option maxRecDepth 100000
set_option maxHeartbeats 16000000
namespace Go.Proofs.YthiochcpmfkgcaaGreatDoor.Tb
open Go Go.RowKit Go.Proofs Go.Maps Mx
def encS (s:List UInt8):List Value:=[.string ⟨s.toArray⟩]
theorem encS_len (s:List UInt8):(encS s).length=1:=rfl
structure SortsOk (g:Gr):Prop where
 nodup:g.sorts.Nodup
 each:∀ s∈g.sorts,s≠[] /\ s.length<=1000
 some_:1<=g.sorts.length
 many:g.sorts.length<=1000
 start:0<=g.start /\ g.start<g.sorts.length
end Go.Proofs.YthiochcpmfkgcaaGreatDoor.Tb
namespace Go.Proofs.YthiochcpmfkgcaaGreatDoor.Tb
open Go Go.RowKit Go.Proofs Go.Maps Mx
attribute [local go_sem] eqSet
theorem ProdsAt.at_ {D:Nat->Prop} {w:World} {vp:Value} {ps:List Pr} (h:ProdsAt D w vp ps) {n:Nat} {p:Pr} (hp:ps[n]?=some p):∃ cap b o vr,vp=.slice (some ⟨b,o,none⟩) ps.length cap /\ b<w.heap.size /\ SliceK D encSy 6 w vr p.right /\
  (∀ j u,(encPr (vr,p))[j]?=some u->w.cell? ⟨b,o+n * 7+j,none⟩=some u):=by
 obtain ⟨l,hl,e⟩:=h;have hlen:l.length=ps.length:=by rw [<- e];simp
 have hx:∃ vr,l[n]?=some (vr,p):=by
  rw [<- e,List.getElem?_map] at hp
  cases hq:l[n]? with
  | none=>rw [hq] at hp;simp at hp
  | some q=>rw [hq] at hp;simp at hp;exact ⟨q.1,by rw [<- hp]⟩
 obtain ⟨vr,hx⟩:=hx;obtain ⟨a,cap,rfl,hc1,hc2,hK⟩:=hl.row;obtain ⟨b,o,rfl,hDb,hr⟩:=hK (by rintro rfl;simp at hx);rw [hlen];exact ⟨cap,b,o,vr,rfl,hr.lt,hl.right _ (gM hx),fun j u hu=>hr.cells n _ hx j u hu⟩
end Go.Proofs.YthiochcpmfkgcaaGreatDoor.Tb
namespace Go.Proofs.YthiochcpmfkgcaaGreatDoor.Tb
open Go Go.RowKit Go.Proofs Go.Maps Mx
end Go.Proofs.YthiochcpmfkgcaaGreatDoor.Tb
