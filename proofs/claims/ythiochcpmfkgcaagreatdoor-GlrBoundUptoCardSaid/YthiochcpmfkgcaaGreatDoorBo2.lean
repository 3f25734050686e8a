/- Walks and plain laws that the last text stands on: MapB, GlMem, GlStep, ShelfT, RangeA. -/
import Derived.Test.YthiochcpmfkgcaaGreatDoorBo1
import Derived.Maps.Views
import Derived.Shelf.Small.Bits
import Derived.Shelf.Strings.BuilderF
import Derived.Shelf.LaysM
import Derived.Shelf.Strconv.Itoa3
import Derived.Test.YthiochcpmfkgcaaGreatDoorProg
import Derived.Scope
import Derived.WalkMore
import Derived.RangeFuncNested
import Derived.RangeFuncBound
import Derived.RangeFuncCalls
import Derived.RangeFuncLeaves
import Derived.RangeFuncFrom
import Derived.Sort.QuietIn
import Derived.OwnWalkIn
import Derived.StillTail
import Derived.StillTactics
import Derived.Sort.Grow
import Derived.Deep.LoopGhost
import Derived.RangeFuncRecord
import Derived.RangeFuncWrites
import Derived.StillTailTactics
import Derived.OrdersHeld
set_option linter.unusedVariables false
set_option linter.unusedSimpArgs false
set_option maxRecDepth 100000
set_option maxHeartbeats 16000000
namespace Go.Proofs.YthiochcpmfkgcaaGreatDoor.Mx
open Go Go.RowKit Go.Maps Go.WideMaps
def MapS (P:Program) (k:TypeId) (w:World) (b m:Nat) (f:Lit->Option Value):Prop :=
 ∃ D:DataW Value,w.ownsMap P k asIs b m D /\ Maps.size D=m /\ ∀ l,(∃ v,keyOf P k v=some l)->Maps.has D l=(f l).isSome /\ ∀ z,D.atKey l (.held z)=.held ((f l).getD z)
section
variable {P:Program} {k:TypeId} {w w':World} {b m:Nat} {f:Lit → Option Value}
theorem MapS.v (h:MapS P k w b m f):MapV P k w b m f:=by obtain ⟨D,h1,_,h3⟩:=h;exact ⟨D,h1,h3⟩
theorem own_tight {H:Type} {R:Value->Option (DataW H × List MemPlace)} {n:Nat} {D:DataW H} (h:w.ownsMap P k R b n D):w.ownsMap P k R b (Maps.size D) D:=by
 obtain ⟨es,clock,hb,F,hs,rfl⟩:=h;refine ⟨es,clock,hb,F,?_,rfl⟩;have e1:Maps.size (DataW.map ((es.toList.map (WideElems.rg P k R)).foldr DataW.insert []))=es.size:=by simp [Maps.size,length_sorted]
 rw [e1];exact Nat.le_refl _
theorem MapS.made (w:World) (P:Program) (k:TypeId):MapS P k (w.alloc (.map #[] 0)) w.heap.size 0 (fun _=>none) :=
 ⟨.map [],World.ownsMap_made w P k asIs,rfl,fun l _=>⟨rfl,fun z=>rfl⟩⟩
theorem MapS.of_block (h:MapS P k w b m f) (e:w'.heap[b]?=w.heap[b]?):MapS P k w' b m f:=by
 obtain ⟨D,⟨es,clock,hb,F,hs,hD⟩,h2,hf⟩:=h;exact ⟨D,⟨es,clock,e.trans hb,F,hs,hD⟩,h2,hf⟩
theorem MapS.lt (h:MapS P k w b m f):b<w.heap.size:=h.v.lt
theorem MapS.alloc (h:MapS P k w b m f) (o:Obj):MapS P k (w.alloc o) b m f:=h.of_block (Below.heap_alloc w o b h.lt)
theorem MapS.drewN (h:MapS P k w b m f) (j:Nat):MapS P k (w.drewN j) b m f:=h
theorem MapS.len {t e:TypeId} (h:MapS P k w b m f) (ht:P.underlying t=some (.map k e)) (ty:TypeId):(Builtin.len_ #[t] ty #[.map (some b)]).run P w=.ok (.int .i64 (m:Int)) w:=by
 obtain ⟨D,hD,h2,hf⟩:=h;rw [hD.len ht ty,h2]
theorem MapS.update {t e:TypeId} (h:MapS P k w b m f) (K:Keyed P k) (ht:P.underlying t=some (.map k e)) (hn:m<maxLen) {key val:Value} {kl:Lit}
  (hkey:keyOf P k key=some kl):∃ w',(Instr.mapUpdate t (.map (some b)) key val).run P w=.ok () w' /\ MapS P k w' b (if (f kl).isSome then m else m+1) (putV f kl val) /\ w.grownBy w' (some b):=by
 obtain ⟨D,hD,h2,hf⟩:=h;obtain ⟨w',hrun,h1,h3⟩:=hD.update K ht hn hkey (val:=val) (d:=.held val) (ps:=[]) rfl;refine ⟨w',hrun,⟨_,?_,?_,MapV.put hD.isMap K hkey val hf⟩,h3⟩
 ·have h4:=own_tight h1
  rw [size_put (hD.tidy K),(hf kl ⟨key,hkey⟩).1,h2] at h4;exact h4
 ·rw [size_put (hD.tidy K),(hf kl ⟨key,hkey⟩).1,h2]
theorem MapS.lookup {t e:TypeId} (h:MapS P k w b m f) (K:Keyed P k) (ht:P.underlying t=some (.map k e)) {z:Value} (hz:(zeroValue e).run P w=.ok z w)
  {key:Value} {kl:Lit} (hkey:keyOf P k key=some kl):(Instr.lookup t (.map (some b)) key false).run P w=.ok ((f kl).getD z) w:=h.v.lookup K ht hz hkey
theorem MapS.look_ok {t e:TypeId} (h:MapS P k w b m f) (K:Keyed P k) (ht:P.underlying t=some (.map k e)) {z:Value} (hz:(zeroValue e).run P w=.ok z w)
  {key:Value} {kl:Lit} (hkey:keyOf P k key=some kl):(Instr.lookup t (.map (some b)) key true).run P w=.ok (.tuple #[(f kl).getD z,.bool (f kl).isSome]) w:=h.v.look_ok K ht hz hkey
theorem MapS.entry {t e:TypeId} (h:MapS P k w b m f) (K:KeyLaw P k) (ht:P.underlying t=some (.map k e)) {z:Value} (hz:∀ u:World,(zeroValue e).run P u=.ok z u) (hn:m<maxLen) {key:Value} {kl:Lit}
  (hkey:keyOf P k key=some kl):∃ (st:Int) (o1:Obj) (w1:World),(Instr.mapEntry t (.map (some b)) key).run P w=.ok (.tuple #[(f kl).getD z,.int .i64 st]) w1 /\ w.grownBy w1 (some b) /\ w1.heap[b]?=some o1 /\ w1.heap.size=w.heap.size /\
   ∀ W:World,W.heap[b]?=some o1->(Instr.lookup t (.map (some b)) key false).run P W=.ok ((f kl).getD z) W /\
   ∀ val,∃ w2,(Instr.entryStore t (.map (some b)) (.int .i64 st) val).run P W=.ok () w2 /\ MapS P k w2 b (if (f kl).isSome then m else m+1) (putV f kl val) /\ W.grownBy w2 (some b):=by
 have hM:=h;have hV:=h.v;obtain ⟨D,⟨es,clock,hb,F,hs,hD⟩,hsz,hf⟩:=h;have hlt:b<w.heap.size:=(Array.getElem?_eq_some_iff.1 hb).1;obtain ⟨v0,st,es1,clock1,h1,_,h2⟩:=WideElems.entry_then_store (R:=asIs) K ht hz hb F hkey;have hl:=hV.lookup (Keyed.of_law K) ht (hz w) hkey;have hv0:v0=(f kl).getD z:=by
  rcases K.find w hkey es.toList F.keys with ⟨g1,g2⟩ | ⟨j,e0,g1,g2,g3⟩
  ·have e1:(f kl).getD z=z:=by
    simp [Instr.lookup,run_underlying ht,MapKept.run_getObj_map hb,K.check w es.isEmpty hkey,g1,hz,Result.andThen] at hl;exact hl.symm
   simp [Instr.mapEntry,run_underlying ht,MapKept.run_getObj_map hb,K.check w false hkey,g1,hz,MapKept.run_setObj_map _ hb,Result.andThen] at h1;rw [e1];exact h1.1.1.symm
  ·have hj:es[j]?=some e0:=by simpa using g2
   have e1:e0.val=(f kl).getD z:=by
    simp [Instr.lookup,run_underlying ht,MapKept.run_getObj_map hb,K.check w es.isEmpty hkey,g1,hj,Result.andThen] at hl;exact hl
   simp [Instr.mapEntry,run_underlying ht,MapKept.run_getObj_map hb,K.check w false hkey,g1,hj,g3,K.stays w hkey,MapKept.run_setObj_map _ hb,Result.andThen] at h1;rw [<- e1];exact h1.1.1.symm
 subst hv0;refine ⟨(st:Nat),.map es1 clock1,_,h1,⟨rfl,rfl,rfl,by simp [ChangeMaps.setBlock],fun i _ hi=>ChangeMaps.heap_setBlock_other hb _ (fun e=>hi (by rw [e]))⟩,ChangeMaps.heap_setBlock_same hb _,by simp [ChangeMaps.setBlock],fun W hW=>⟨?_,fun val=>?_⟩⟩
 ·have hmid:∃ m1 f1,MapS P k (ChangeMaps.setBlock w b (.map es1 clock1)) b m1 f1 /\ (f1 kl).getD z=(f kl).getD z:=by
   rcases K.find w hkey es.toList F.keys with ⟨g1,g2⟩ | ⟨j,e0,g1,g2,g3⟩
   ·have e1:(f kl).getD z=z:=by
     simp [Instr.lookup,run_underlying ht,MapKept.run_getObj_map hb,K.check w es.isEmpty hkey,g1,hz,Result.andThen] at hl;exact hl.symm
    obtain ⟨w2,hu,hm2,_⟩:=hM.update (Keyed.of_law K) ht hn (val:=z) hkey;have e2:ChangeMaps.setBlock w b (.map es1 clock1)=w2:=by
     simp [Instr.mapEntry,run_underlying ht,MapKept.run_getObj_map hb,K.check w false hkey,g1,hz,MapKept.run_setObj_map _ hb,Result.andThen] at h1;simp [Instr.mapUpdate,run_underlying ht,MapKept.run_getObj_map hb,K.check w false hkey,g1,MapKept.run_setObj_map _ hb,Result.andThen] at hu;rw [<- h1.2,<- hu]
    rw [e2];exact ⟨_,_,hm2,by rw [putV_same _ _ ((Keyed.of_law K).key hkey),e1];rfl⟩
   ·have hj:es[j]?=some e0:=by simpa using g2
    have hsame:es.modify j (fun e=>{ e with key:=key })=es:=by
     apply Array.ext'
     rw [Array.toList_modify,ChangeMaps.modify_eq_set _ _ _ _ g2];have:({ e0 with key:=key }:MapEntry)=e0:=by rw [<- g3]
     rw [this];exact WideElems.set_self _ _ _ g2
    have e2:ChangeMaps.setBlock w b (.map es1 clock1)=ChangeMaps.setBlock w b (.map es clock):=by
     simp [Instr.mapEntry,run_underlying ht,MapKept.run_getObj_map hb,K.check w false hkey,g1,hj,g3,K.stays w hkey,hsame,MapKept.run_setObj_map _ hb,Result.andThen,ChangeMaps.setBlock] at h1;simp only [ChangeMaps.setBlock];rw [<- h1.2]
    rw [e2];exact ⟨m,f,hM.of_block (by rw [ChangeMaps.heap_setBlock_same hb _,hb]),rfl⟩
  obtain ⟨m1,f1,hm1,hf1⟩:=hmid;have hmW:MapS P k W b m1 f1:=hm1.of_block (by rw [hW,ChangeMaps.heap_setBlock_same hb _])
  rw [<- hf1];exact hmW.lookup (Keyed.of_law K) ht (hz W) hkey
 ·obtain ⟨es',clock',h3,h4⟩:=h2 W val hW
  obtain ⟨w',hrun,hm,hg⟩:=MapS.update (P:=P) (k:=k) (w:=w) (b:=b) (m:=m) (f:=f) (val:=val) hM (Keyed.of_law K) ht hn hkey;rw [hrun] at h4;injection h4 with _ h4;subst h4;refine ⟨_,h3,hm.of_block ?_,⟨rfl,rfl,rfl,by simp [ChangeMaps.setBlock],fun i _ hi=>ChangeMaps.heap_setBlock_other hW _ (fun e=>hi (by rw [e]))⟩⟩
  rw [ChangeMaps.heap_setBlock_same hW _,ChangeMaps.heap_setBlock_same hb _]
end
end Go.Proofs.YthiochcpmfkgcaaGreatDoor.Mx
namespace Go.Proofs.YthiochcpmfkgcaaGreatDoor.Gl
open Go Go.RowKit Go.Proofs Go.Maps Go.WideMaps Mx Tb
inductive Role where
 | box | mback | medges | malts | mrows | mpushed
 | brow (x:Nd)
 | irow (i:Nat)
deriving DecidableEq
def NdOk (x:Nd):Prop:=x.1<1048576 /\ x.2<1048576
def encNd (x:Nd):List Value:=[.int .i64 (x.1:Int),.int .i64 (x.2:Int)]
theorem encNd_len (x:Nd):(encNd x).length=2:=rfl
def ndV (x:Nd):Value:=.agg #[.int .i64 (x.1:Int),.int .i64 (x.2:Int)]
def edV (x y:Nd):Value:=.agg #[.int .i64 (x.1:Int),.int .i64 (x.2:Int),.int .i64 (y.1:Int),.int .i64 (y.2:Int)]
def kNd (x:Nd):Lit:=.string (keyBytes [.int .i64 (x.1:Int),.int .i64 (x.2:Int)])
def kEd (x y:Nd):Lit:=.string (keyBytes [.int .i64 (x.1:Int),.int .i64 (x.2:Int),.int .i64 (y.1:Int),.int .i64 (y.2:Int)])
theorem cwI:Tryz.prog.cellsOf 3=1:=by kernel_rfl
theorem tySize:∃ m,Tryz.prog.types.size=m+2:=⟨Tryz.prog.types.size - 2,by have h:(1<Tryz.prog.types.size):=of_decide_eq_true (by kernel_rfl);omega⟩
theorem laidG:laidOutB Tryz.prog=true:=by kernel_rfl
theorem ndLaw:KeyLaw Tryz.prog 150:=deep_law_laid laidG (m:=2) (by omega) (of_decide_eq_true (by kernel_rfl)) (by kernel_rfl) (by kernel_rfl)
theorem edLaw:KeyLaw Tryz.prog 213:=deep_law_laid laidG (m:=3) (by omega) (of_decide_eq_true (by kernel_rfl)) (by kernel_rfl) (by kernel_rfl)
theorem ndKeyType:Tryz.prog.keyType 150=true:=by kernel_rfl
theorem edKeyType:Tryz.prog.keyType 213=true:=by kernel_rfl
theorem ndCells:Tryz.prog.cellsOf 150=2:=by kernel_rfl
theorem edCells:Tryz.prog.cellsOf 213=4:=by kernel_rfl
theorem litN (n:Nat) (h:n<1048576):(Lit.int IntKind.i64 (n:Int)).wf=true:=by
 simp [Lit.wf,IntKind.min,IntKind.max,IntKind.bits,IntKind.signed];omega
theorem keyOf_nd (x:Nd) (h:NdOk x):keyOf Tryz.prog 150 (ndV x)=some (kNd x):=by
 obtain ⟨m0,hm0⟩:=tySize;unfold keyOf ndV;simp only [Tryz.underlying150];rw [if_pos (by simp [ndKeyType,Value.formed,Tryz.underlying150,ndCells]),hm0]
 unfold Program.keyLits;simp only [Tryz.underlying150,Value.cells];rw [if_pos (by rw [ndCells];exact ⟨rfl,by kernel_rfl⟩)]
 have h0:=litN x.1 h.1;have h1:=litN x.2 h.2;simp [Program.keyLits,Tryz.underlying3,cwI,h0,h1,kNd]
theorem keyLits_nd (d:Nat) (a b:Nat) (ha:a<1048576) (hb:b<1048576):Program.keyLits Tryz.prog (d+2) 150 [.int .i64 (a:Int),.int .i64 (b:Int)]=some [.int .i64 (a:Int),.int .i64 (b:Int)]:=by
 unfold Program.keyLits;simp only [Tryz.underlying150];rw [if_pos (by rw [ndCells];exact ⟨rfl,by kernel_rfl⟩)]
 have h0:=litN a ha;have h1:=litN b hb;simp [Program.keyLits,Tryz.underlying3,cwI,h0,h1]
theorem keyOf_ed (x y:Nd) (h:NdOk x) (k:NdOk y):keyOf Tryz.prog 213 (edV x y)=some (kEd x y):=by
 obtain ⟨m0,hm0⟩:=tySize;unfold keyOf edV;simp only [Tryz.underlying213];rw [if_pos (by simp [edKeyType,Value.formed,Tryz.underlying213,edCells]),hm0]
 unfold Program.keyLits;simp only [Tryz.underlying213,Value.cells];rw [if_pos (by rw [edCells];exact ⟨rfl,by kernel_rfl⟩)]
 have h0:=keyLits_nd m0 x.1 x.2 h.1 h.2;have h1:=keyLits_nd m0 y.1 y.2 k.1 k.2;simp [ndCells,h0,h1,kEd]
theorem kNd_inj {x y:Nd} (hx:NdOk x) (hy:NdOk y) (h:kNd x=kNd y):x=y:=by
 have h1:=ndLaw.inj (keyOf_nd x hx) (by rw [h];exact keyOf_nd y hy)
 simp [ndV] at h1;exact Prod.ext (by omega) (by omega)
theorem kEd_inj {x y x' y':Nd} (hx:NdOk x) (hy:NdOk y) (hx':NdOk x') (hy':NdOk y') (h:kEd x y=kEd x' y'):x=x' /\ y=y':=by
 have h1:=edLaw.inj (keyOf_ed x y hx hy) (by rw [h];exact keyOf_ed x' y' hx' hy')
 simp [edV] at h1;exact ⟨Prod.ext (by omega) (by omega),Prod.ext (by omega) (by omega)⟩
structure RC where
 rb:Nat
 bb:Nat
 be:Nat
 ba:Nat
 br:Nat
 bp:Nat
structure RP where
 sv:Value
 pv:Value
 st:Int
 fv:Value
 lv:Value
 tv:Value
 txt:List UInt8
def boxC (C:RC) (p:RP) (left:Nat):Array Value:=#[p.sv,p.pv,.int .i64 p.st,p.fv,p.lv,p.tv,.string ⟨p.txt.toArray⟩,.int .i64 (left:Int),.map (some C.bb),.map (some C.be),.map (some C.ba),.map (some C.br),.map (some C.bp)]
def alV (left:Nat->Int) (v:Value) (a:Al):Value:=.agg #[.int .i64 (left a.prod),.int .i64 (a.src:Int),.int .i64 (a.til:Int),.int .i64 (a.prod:Int),v]
structure AlOk (a:Al):Prop where
 prod:a.prod<1048576
 src:a.src<1048576
 til:a.til<1048576
 cuts:∀ c∈a.cuts,c<1048576
 len:a.cuts.length<=1000
structure RolesOk (C:RC) (ρ:Nat->Option Role):Prop where
 rb:ρ C.rb=some .box
 bb:ρ C.bb=some .mback
 be:ρ C.be=some .medges
 ba:ρ C.ba=some .malts
 br:ρ C.br=some .mrows
 bp:ρ C.bp=some .mpushed
structure Rm where
 left:Nat
 nodes:List Nd
 edges:List (Nd × Nd)
 tries:List (Nd × Nd)
 back:List (Nd × Nd)
 alts:List Al
 pn:List Nd
 pb:Nat
def BackW (C:RC) (ρ:Nat->Option Role) (E:List (Nd × Nd)) (w:World):Prop :=
 ∃ (m:Nat) (f:Lit->Option Value) (vb:Nd->Value),MapS Tryz.prog 150 w C.bb m f /\ m<=E.length /\ (∀ x,NdOk x->f (kNd x)=if backF E x=[] then none else some (vb x)) /\
  ∀ x,w.ownsRow 0 150 2 (vb x) (backF E x).length (flatK encNd (backF E x)) /\ (∀ b,(vb x).ownBlock=some b->ρ b=some (.brow x)) /\ (backF E x=[]->vb x=.slice none 0 0)
def EdgesW (C:RC) (E T:List (Nd × Nd)) (w:World):Prop :=
 ∃ f,MapS Tryz.prog 213 w C.be E.length f /\ ∀ x y,NdOk x->NdOk y->f (kEd x y)=if (x,y)∈E then some (.int .i64 (T.count (x,y):Int)) else none
def IntB (w:World) (g:Nat):Prop:=∃ c fz,w.heap[g]?=some (.cells c 3 fz)
def CutB (C:RC) (ρ:Nat->Option Role) (w:World) (b:Nat):Prop:=(ρ b=none /\ C.rb<=b) /\ IntB w b
theorem CutB.keep_ {C:RC} {ρ ρ':Nat->Option Role} {w w':World} {b:Nat} (h:CutB C ρ w b) (hr:ρ' b=ρ b) (he:w'.heap[b]?=w.heap[b]?):CutB C ρ' w' b :=
 ⟨⟨hr.trans h.1.1,h.1.2⟩,by obtain ⟨c,fz,e⟩:=h.2;exact ⟨c,fz,he.trans e⟩⟩
def AltsW (C:RC) (left:Nat->Int) (ρ:Nat->Option Role) (A:List Al) (w:World):Prop :=
 ∃ (f:Lit->Option Value) (va:Al->Value),MapS Tryz.prog 9 w C.ba A.length f /\ (∀ l,f (.string l)=(A.find? fun a=>keyA a==l).map fun a=>alV left (va a) a) /\ ∀ a∈A,SliceK (CutB C ρ w) encN 1 w (va a) a.cuts
def rowN (N:List Nd) (i:Nat):List Nat:=(N.filter fun x=>x.2==i).map (·.1)
def RowsW (C:RC) (ρ:Nat->Option Role) (N:List Nd) (w:World):Prop :=
 ∃ (m:Nat) (f:Lit->Option Value) (vr:Nat->Value),MapS Tryz.prog 3 w C.br m f /\ m<=N.length /\ (∀ z:Int,f (.int .i64 z)=if 0<=z /\ rowN N z.toNat≠[] then some (vr z.toNat) else none) /\
  ∀ i,w.ownsRow 0 3 1 (vr i) (rowN N i).length (flatK encN (rowN N i)) /\ (∀ b,(vr i).ownBlock=some b->ρ b=some (.irow i)) /\ (rowN N i=[]->vr i=.slice none 0 0)
def PushedW (C:RC) (N:List Nd) (pb:Nat) (w:World):Prop :=
 ∃ (f:Lit->Option Value) (c:Nd->Nat),MapS Tryz.prog 150 w C.bp N.length f /\ (∀ x,(c x=0↔x ∉ N) /\ c x<=pb) /\ ∀ x,NdOk x->f (kNd x)=if c x=0 then none else some (.int .i64 (c x:Int))
structure RunM (C:RC) (p:RP) (left:Nat->Int) (w0:World) (ρ:Nat->Option Role) (m:Rm) (w:World):Prop where
 low:Below w0.heap.size w0 w
 above:∀ b,b<w0.heap.size->ρ b=none
 lt:∀ b,ρ b≠none->b<w.heap.size
 roles:RolesOk C ρ
 box:Blk w C.rb 81 (boxC C p m.left)
 back:BackW C ρ m.back w
 edges:EdgesW C m.edges m.tries w
 alts:AltsW C left ρ m.alts w
 rows:RowsW C ρ m.nodes w
 pushed:PushedW C m.pn m.pb w
 nok:∀ x∈m.nodes,NdOk x
 eok:∀ e∈m.edges,NdOk e.1 /\ NdOk e.2
 bok:∀ e∈m.back,NdOk e.1 /\ NdOk e.2
 aok:∀ a∈m.alts,AlOk a
 ml:m.left<=4398046511104
 mn:m.nodes.length<=4398046511104
 me:m.edges.length<=4398046511104
 mb:m.back.length<=4398046511104
 ma:m.alts.length<=4398046511104
 mp:m.pb<=4398046511104
 mpn:m.pn.length<=4398046511104
def sumF (r:Rn):Nat:=r.left+r.edges.length+r.alts.length
def rmOf (r:Rn):Rm:=⟨r.left,r.nodes,r.edges,r.tries,r.edges,r.alts,r.nodes,r.edges.length+1⟩
structure RunW (C:RC) (p:RP) (left:Nat->Int) (w0:World) (ρ:Nat->Option Role) (r:Rn) (w:World):Prop where
 mem:RunM C p left w0 ρ (rmOf r) w
 nn:r.nodes.length<=r.edges.length+1
 tot:sumF r<=2199023255552
 te:∀ e,e∈r.tries↔e∈r.edges
structure KeepR (ρ:Nat->Option Role) (w w':World):Prop where
 os:w'.os=w.os
 tape:w'.tape=w.tape
 output:w'.output=w.output
 size:w.heap.size<=w'.heap.size
 block:∀ b,b<w.heap.size->ρ b=none->w'.heap[b]?=w.heap[b]?
def Roles (n:Nat) (ρ ρ':Nat->Option Role):Prop:=∀ b,b<n->ρ' b=ρ b
theorem Roles.refl (n:Nat) (ρ:Nat->Option Role):Roles n ρ ρ:=fun _ _=>rfl
theorem Roles.trans {n m:Nat} {ρ ρ' ρ'':Nat->Option Role} (h:Roles n ρ ρ') (k:Roles m ρ' ρ'') (hm:n<=m):Roles n ρ ρ'':=fun b hb=>(k b (by omega)).trans (h b hb)
section
variable {ρ ρ':Nat → Option Role} {w w' w'':World}
theorem KeepR.refl (ρ:Nat->Option Role) (w:World):KeepR ρ w w:=⟨rfl,rfl,rfl,Nat.le_refl _,fun _ _ _=>rfl⟩
theorem KeepR.of (h:Below w.heap.size w w'):KeepR ρ w w':=⟨h.os,h.tape,h.output,h.size,fun b hb _=>h.block b hb⟩
theorem KeepR.trans (h:KeepR ρ w w') (k:KeepR ρ' w' w'') (hr:Roles w.heap.size ρ ρ'):KeepR ρ w w'' :=
 ⟨k.os.trans h.os,k.tape.trans h.tape,k.output.trans h.output,Nat.le_trans h.size k.size,fun b hb hn=>(k.block b (Nat.lt_of_lt_of_le hb h.size) ((hr b hb).trans hn)).trans (h.block b hb hn)⟩
theorem KeepR.same (h:KeepR ρ w w') (k:KeepR ρ w' w''):KeepR ρ w w'':=h.trans k (Roles.refl _ _)
theorem KeepR.grown {row:Option Nat} (h:w.grownBy w' row) (hr:∀ b,row=some b->ρ b≠none):KeepR ρ w w' :=
 ⟨h.os,h.tape,h.output,h.size,fun b hb hn=>h.block b hb (fun e=>hr b e.symm hn)⟩
theorem KeepR.blk (h:KeepR ρ w w') {b:Nat} {t:TypeId} {cs:Array Value} (hn:ρ b=none) (hc:Blk w b t cs):Blk w' b t cs:=(h.block b hc.lt hn).trans hc
theorem KeepR.low {n:Nat} {w0:World} (h:KeepR ρ w w') (hb:Below n w0 w) (hn:n<=w.heap.size) (ha:∀ b,b<n->ρ b=none):Below n w0 w' :=
 ⟨h.os.trans hb.os,h.tape.trans hb.tape,h.output.trans hb.output,Nat.le_trans hb.size h.size,fun b hb2=>(h.block b (by omega) (ha b hb2)).trans (hb.block b hb2)⟩
end
/-! Parts that stay. -/
/-- The blocks with roles of Q are as they were. -/
def SameQ (Q:Role->Prop) (ρ:Nat->Option Role) (w w':World):Prop:=∀ b R,b<w.heap.size->ρ b=some R->Q R->w'.heap[b]?=w.heap[b]?
section
variable {C:RC} {p:RP} {left:Nat → Int} {w0:World} {ρ ρ':Nat → Option Role} {m:Rm} {w w':World}
theorem own_of_block {B n k:Nat} {t:TypeId} {v:Value} {xs:List Value} (h:w.ownsRow B t k v n xs) (e:∀ b,v.ownBlock=some b->w'.heap[b]?=w.heap[b]?):w'.ownsRow B t k v n xs:=by
 refine ⟨h.1,?_⟩
 rcases h.2 with h2 | ⟨g,cap,cur,rfl,hB,hh,h3⟩
 ·exact .inl h2
 ·exact .inr ⟨g,cap,cur,rfl,hB,(e g rfl).trans hh,h3⟩
theorem own_lt {B n k:Nat} {t:TypeId} {v:Value} {xs:List Value} (h:w.ownsRow B t k v n xs) {b:Nat} (e:v.ownBlock=some b):b<w.heap.size:=(h.lt b e).2
theorem BackW.keep {E:List (Nd × Nd)} (h:BackW C ρ E w) (hbb:ρ C.bb=some .mback) (hs:SameQ (fun R=>R=.mback∨∃ x,R=.brow x) ρ w w') (hr:Roles w.heap.size ρ ρ'):BackW C ρ' E w':=by
 obtain ⟨m,f,vb,h1,h2,h3,h4⟩:=h;refine ⟨m,f,vb,h1.of_block (hs _ _ h1.lt hbb (.inl rfl)),h2,h3,fun x=>?_⟩
 obtain ⟨k1,k2,k3⟩:=h4 x;exact ⟨own_of_block k1 fun b hb=>hs b _ (own_lt k1 hb) (k2 b hb) (.inr ⟨x,rfl⟩),fun b hb=>(hr b (own_lt k1 hb)).trans (k2 b hb),k3⟩
theorem EdgesW.keep {E T:List (Nd × Nd)} (h:EdgesW C E T w) (hbe:ρ C.be=some .medges) (hs:SameQ (·=.medges) ρ w w'):EdgesW C E T w':=by
 obtain ⟨f,h1,h2⟩:=h;exact ⟨f,h1.of_block (hs _ _ h1.lt hbe rfl),h2⟩
theorem AltsW.keep {A:List Al} (h:AltsW C left ρ A w) (hba:ρ C.ba=some .malts) (hs:SameQ (·=.malts) ρ w w') (hn:∀ b,b<w.heap.size->ρ b=none->w'.heap[b]?=w.heap[b]?) (hr:Roles w.heap.size ρ ρ'):AltsW C left ρ' A w':=by
 obtain ⟨f,va,h1,h2,h3⟩:=h;exact ⟨f,va,h1.of_block (hs _ _ h1.lt hba rfl),h2,fun a ha=>(h3 a ha).keep fun b hb hl=>⟨hb.keep_ (hr b hl) (hn b hl hb.1.1),hn b hl hb.1.1⟩⟩
theorem RowsW.keep {N:List Nd} (h:RowsW C ρ N w) (hbr:ρ C.br=some .mrows) (hs:SameQ (fun R=>R=.mrows∨∃ x,R=.irow x) ρ w w') (hr:Roles w.heap.size ρ ρ'):RowsW C ρ' N w':=by
 obtain ⟨m,f,vb,h1,h2,h3,h4⟩:=h;refine ⟨m,f,vb,h1.of_block (hs _ _ h1.lt hbr (.inl rfl)),h2,h3,fun x=>?_⟩
 obtain ⟨k1,k2,k3⟩:=h4 x;exact ⟨own_of_block k1 fun b hb=>hs b _ (own_lt k1 hb) (k2 b hb) (.inr ⟨x,rfl⟩),fun b hb=>(hr b (own_lt k1 hb)).trans (k2 b hb),k3⟩
theorem PushedW.keep {N:List Nd} {pb:Nat} (h:PushedW C N pb w) (hbp:ρ C.bp=some .mpushed) (hs:SameQ (·=.mpushed) ρ w w'):PushedW C N pb w':=by
 obtain ⟨f,c,h1,h2⟩:=h;exact ⟨f,c,h1.of_block (hs _ _ h1.lt hbp rfl),h2⟩
theorem SameQ.grown {Q:Role->Prop} {row:Option Nat} (hg:w.grownBy w' row) (hn:∀ b R,row=some b->ρ b=some R->¬ Q R):SameQ Q ρ w w' :=
 fun b R hb hR hQ=>hg.block b hb fun e=>hn b R e.symm hR hQ
theorem RunM.below (h:RunM C p left w0 ρ m w) (hb:Below w.heap.size w w'):RunM C p left w0 ρ m w':=by
 have hs:∀ Q,SameQ Q ρ w w':=fun Q b R hb2 _ _=>hb.block b hb2
 have hr:=Roles.refl w.heap.size ρ;have hw:=h.low.size;exact { h with
  low:=h.low.trans (hb.mono hw)
  lt:=fun b hb2=>Nat.lt_of_lt_of_le (h.lt b hb2) hb.size
  box:=h.box.below hb h.box.lt
  back:=h.back.keep h.roles.bb (hs _) hr
  edges:=h.edges.keep h.roles.be (hs _)
  alts:=h.alts.keep h.roles.ba (hs _) (fun b hb2 _=>hb.block b hb2) hr
  rows:=h.rows.keep h.roles.br (hs _) hr
  pushed:=h.pushed.keep h.roles.bp (hs _) }
theorem RunM.setLeft (h:RunM C p left w0 ρ m w) (k:Nat) (hk:k<=4398046511104):RunM C p left w0 ρ { m with left:=k } (w.setCell ⟨C.rb,7,none⟩ (.int .i64 (k:Int))) /\ KeepR ρ w (w.setCell ⟨C.rb,7,none⟩ (.int .i64 (k:Int))):=by
 have hg:w.grownBy (w.setCell ⟨C.rb,7,none⟩ (.int .i64 (k:Int))) (some C.rb):=grown_set (grown_refl w (some C.rb)) rfl _;have hkeep:KeepR ρ w (w.setCell ⟨C.rb,7,none⟩ (.int .i64 (k:Int))):=KeepR.grown hg (fun b e=>by injection e with e;subst e;rw [h.roles.rb];simp)
 have hs:∀ Q:Role->Prop,¬ Q .box->SameQ Q ρ w (w.setCell ⟨C.rb,7,none⟩ (.int .i64 (k:Int))):=fun Q hQ=>SameQ.grown hg (fun b R e hR=>by injection e with e;subst e;rw [h.roles.rb] at hR;injection hR with hR;subst hR;exact hQ)
 have hr:=Roles.refl w.heap.size ρ;refine ⟨{ h with
  low:=hkeep.low h.low h.low.size h.above
  lt:=fun b hb2=>Nat.lt_of_lt_of_le (h.lt b hb2) hg.size
  box:=?_
  back:=h.back.keep h.roles.bb (hs _ (by simp)) hr
  edges:=h.edges.keep h.roles.be (hs _ (by simp))
  alts:=h.alts.keep h.roles.ba (hs _ (by simp)) hkeep.block hr
  rows:=h.rows.keep h.roles.br (hs _ (by simp)) hr
  pushed:=h.pushed.keep h.roles.bp (hs _ (by simp))
  ml:=hk },hkeep⟩
 exact h.box.set_ 7 (.int .i64 (k:Int))
theorem RunM.setEdges (h:RunM C p left w0 ρ m w) {E T:List (Nd × Nd)} (hg:w.grownBy w' (some C.be)) (hE:EdgesW C E T w') (hok:∀ e∈E,NdOk e.1 /\ NdOk e.2) (hl:E.length<=4398046511104) :
  RunM C p left w0 ρ { m with edges:=E,tries:=T } w' /\ KeepR ρ w w':=by
 have hkeep:KeepR ρ w w':=KeepR.grown hg (fun b e=>by injection e with e;subst e;rw [h.roles.be];simp)
 have hs:∀ Q:Role->Prop,¬ Q .medges->SameQ Q ρ w w':=fun Q hQ=>SameQ.grown hg (fun b R e hR=>by injection e with e;subst e;rw [h.roles.be] at hR;injection hR with hR;subst hR;exact hQ)
 have hr:=Roles.refl w.heap.size ρ;exact ⟨{ h with
  low:=hkeep.low h.low h.low.size h.above
  lt:=fun b hb2=>Nat.lt_of_lt_of_le (h.lt b hb2) hg.size
  box:=(hs (·=.box) (by simp) _ _ h.box.lt h.roles.rb rfl).trans h.box
  back:=h.back.keep h.roles.bb (hs _ (by simp)) hr
  edges:=hE
  alts:=h.alts.keep h.roles.ba (hs _ (by simp)) hkeep.block hr
  rows:=h.rows.keep h.roles.br (hs _ (by simp)) hr
  pushed:=h.pushed.keep h.roles.bp (hs _ (by simp))
  eok:=hok
  me:=hl },hkeep⟩
theorem RunM.setPushed (h:RunM C p left w0 ρ m w) {N:List Nd} {pb:Nat} (hg:w.grownBy w' (some C.bp)) (hP:PushedW C N pb w') (hl:N.length<=4398046511104) (hpb:pb<=4398046511104) :
  RunM C p left w0 ρ { m with pn:=N,pb:=pb } w' /\ KeepR ρ w w':=by
 have hkeep:KeepR ρ w w':=KeepR.grown hg (fun b e=>by injection e with e;subst e;rw [h.roles.bp];simp)
 have hs:∀ Q:Role->Prop,¬ Q .mpushed->SameQ Q ρ w w':=fun Q hQ=>SameQ.grown hg (fun b R e hR=>by injection e with e;subst e;rw [h.roles.bp] at hR;injection hR with hR;subst hR;exact hQ)
 have hr:=Roles.refl w.heap.size ρ;exact ⟨{ h with
  low:=hkeep.low h.low h.low.size h.above
  lt:=fun b hb2=>Nat.lt_of_lt_of_le (h.lt b hb2) hg.size
  box:=(hs (·=.box) (by simp) _ _ h.box.lt h.roles.rb rfl).trans h.box
  back:=h.back.keep h.roles.bb (hs _ (by simp)) hr
  edges:=h.edges.keep h.roles.be (hs _ (by simp))
  alts:=h.alts.keep h.roles.ba (hs _ (by simp)) hkeep.block hr
  rows:=h.rows.keep h.roles.br (hs _ (by simp)) hr
  pushed:=hP
  mp:=hpb
  mpn:=hl },hkeep⟩
structure Turn (Q:Role->Prop) (ρ ρ':Nat->Option Role) (w w':World):Prop where
 os:w'.os=w.os
 tape:w'.tape=w.tape
 output:w'.output=w.output
 size:w.heap.size<=w'.heap.size
 block:∀ b,b<w.heap.size->(∀ R,ρ b=some R->¬ Q R)->w'.heap[b]?=w.heap[b]?
 roles:Roles w.heap.size ρ ρ'
 lt:∀ b,w.heap.size<=b->ρ' b≠none->b<w'.heap.size
theorem Turn.keep {Q:Role->Prop} (t:Turn Q ρ ρ' w w'):KeepR ρ w w':=⟨t.os,t.tape,t.output,t.size,fun b hb hn=>t.block b hb (fun R hR=>by rw [hn] at hR;cases hR)⟩
theorem Turn.same {Q Q':Role->Prop} (t:Turn Q ρ ρ' w w') (h:∀ R,Q' R->¬ Q R):SameQ Q' ρ w w':=fun b R hb hR hQ=>t.block b hb (fun R' hR'=>by rw [hR] at hR';injection hR' with e;subst e;exact h _ hQ)
theorem RolesOk.turn {Q:Role->Prop} (h:RolesOk C ρ) (hl:∀ b,ρ b≠none->b<w.heap.size) (t:Turn Q ρ ρ' w w'):RolesOk C ρ':=by
 have hh:∀ b R,ρ b=some R->ρ' b=some R:=fun b R e=>(t.roles b (hl b (by rw [e];simp))).trans e
 exact ⟨hh _ _ h.rb,hh _ _ h.bb,hh _ _ h.be,hh _ _ h.ba,hh _ _ h.br,hh _ _ h.bp⟩
theorem RunM.turnLt {Q:Role->Prop} (h:RunM C p left w0 ρ m w) (t:Turn Q ρ ρ' w w'):∀ b,ρ' b≠none->b<w'.heap.size:=fun b hb=>by
 by_cases hlt:b<w.heap.size
 ·exact Nat.lt_of_lt_of_le hlt t.size
 ·exact t.lt b (by omega) hb
theorem RunM.turnAbove {Q:Role->Prop} (h:RunM C p left w0 ρ m w) (t:Turn Q ρ ρ' w w'):∀ b,b<w0.heap.size->ρ' b=none:=fun b hb=>(t.roles b (Nat.lt_of_lt_of_le hb h.low.size)).trans (h.above b hb)
theorem RunM.setRows (h:RunM C p left w0 ρ m w) {N:List Nd} (t:Turn (fun R=>R=.mrows∨∃ i,R=.irow i) ρ ρ' w w') (hR:RowsW C ρ' N w') (hok:∀ x∈N,NdOk x) (hl:N.length<=4398046511104) :
  RunM C p left w0 ρ' { m with nodes:=N } w' :=
 { h with
  low:=t.keep.low h.low h.low.size h.above
  above:=h.turnAbove t
  lt:=h.turnLt t
  roles:=h.roles.turn h.lt t
  box:=(t.same (Q':=(·=.box)) (by simp) _ _ h.box.lt h.roles.rb rfl).trans h.box
  back:=h.back.keep h.roles.bb (t.same (by rintro R (rfl | ⟨x,rfl⟩) (h | ⟨y,h⟩) <;> cases h)) t.roles
  edges:=h.edges.keep h.roles.be (t.same (by simp))
  alts:=h.alts.keep h.roles.ba (t.same (by simp)) t.keep.block t.roles
  rows:=hR
  pushed:=h.pushed.keep h.roles.bp (t.same (by simp))
  nok:=hok
  mn:=hl }
theorem RunM.setBack (h:RunM C p left w0 ρ m w) {E:List (Nd × Nd)} (t:Turn (fun R=>R=.mback∨∃ i,R=.brow i) ρ ρ' w w') (hR:BackW C ρ' E w') (hok:∀ e∈E,NdOk e.1 /\ NdOk e.2) (hl:E.length<=4398046511104) :
  RunM C p left w0 ρ' { m with back:=E } w' :=
 { h with
  low:=t.keep.low h.low h.low.size h.above
  above:=h.turnAbove t
  lt:=h.turnLt t
  roles:=h.roles.turn h.lt t
  box:=(t.same (Q':=(·=.box)) (by simp) _ _ h.box.lt h.roles.rb rfl).trans h.box
  back:=hR
  edges:=h.edges.keep h.roles.be (t.same (by simp))
  alts:=h.alts.keep h.roles.ba (t.same (by simp)) t.keep.block t.roles
  rows:=h.rows.keep h.roles.br (t.same (by rintro R (rfl | ⟨x,rfl⟩) (h | ⟨y,h⟩) <;> cases h)) t.roles
  pushed:=h.pushed.keep h.roles.bp (t.same (by simp))
  bok:=hok
  mb:=hl }
theorem RunM.setAlts (h:RunM C p left w0 ρ m w) {A:List Al} (hg:w.grownBy w' (some C.ba)) (hA:AltsW C left ρ A w') (hok:∀ a∈A,AlOk a) (hl:A.length<=4398046511104) :
  RunM C p left w0 ρ { m with alts:=A } w' /\ KeepR ρ w w':=by
 have hkeep:KeepR ρ w w':=KeepR.grown hg (fun b e=>by injection e with e;subst e;rw [h.roles.ba];simp)
 have hs:∀ Q:Role->Prop,¬ Q .malts->SameQ Q ρ w w':=fun Q hQ=>SameQ.grown hg (fun b R e hR=>by injection e with e;subst e;rw [h.roles.ba] at hR;injection hR with hR;subst hR;exact hQ)
 have hr:=Roles.refl w.heap.size ρ;exact ⟨{ h with
  low:=hkeep.low h.low h.low.size h.above
  lt:=fun b hb2=>Nat.lt_of_lt_of_le (h.lt b hb2) hg.size
  box:=(hs (·=.box) (by simp) _ _ h.box.lt h.roles.rb rfl).trans h.box
  back:=h.back.keep h.roles.bb (hs _ (by simp)) hr
  edges:=h.edges.keep h.roles.be (hs _ (by simp))
  alts:=hA
  rows:=h.rows.keep h.roles.br (hs _ (by simp)) hr
  pushed:=h.pushed.keep h.roles.bp (hs _ (by simp))
  aok:=hok
  ma:=hl },hkeep⟩
theorem PushedW.push {N:List Nd} {pb:Nat} {x:Nd} {f:Lit->Option Value} {c:Nd->Nat} (hx:NdOk x) (hc:∀ y,(c y=0↔y ∉ N) /\ c y<=pb) (hf:∀ y,NdOk y->f (kNd y)=if c y=0 then none else some (.int .i64 (c y:Int)))
  (hm:MapS Tryz.prog 150 w' C.bp (if (f (kNd x)).isSome then N.length else N.length+1) (putV f (kNd x) (.int .i64 ((c x:Int)+1)))):PushedW C (if x∈N then N else N++[x]) (pb+1) w':=by
 refine ⟨putV f (kNd x) (.int .i64 ((c x:Int)+1)),fun y=>if y=x then c x+1 else c y,?_,fun y=>?_,fun y hy=>?_⟩
 ·have e:(if (f (kNd x)).isSome then N.length else N.length+1)=(if x∈N then N else N++[x]).length:=by
   rw [hf x hx]
   by_cases h0:c x=0
   ·have:=(hc x).1.1 h0;simp [h0,this]
   ·have h1:x∈N:=Classical.byContradiction fun h=>h0 ((hc x).1.2 h)
    simp [h0,h1]
  rw [e] at hm;exact hm
 ·have h1:=(hc x).2
  have h2:=hc y
  by_cases e:y=x
  ·subst e
   dsimp only;rw [if_pos rfl];refine ⟨⟨fun h=>by omega,fun h=>absurd ?_ h⟩,by omega⟩
   by_cases h3:y∈N <;> simp [h3]
  ·dsimp only
   rw [if_neg e];refine ⟨⟨fun h=>?_,fun h=>?_⟩,by omega⟩
   ·have:=h2.1.1 h
    by_cases h3:x∈N <;> simp [h3,this,e]
   ·refine h2.1.2 fun h3=>h ?_
    by_cases h4:x∈N <;> simp [h4,h3]
 ·by_cases e:y=x
  ·subst e
   rw [putV_same _ _ ((Keyed.of_law ndLaw).key (keyOf_nd y hx))];simp
  ·rw [putV_other _ _ (fun h=>e (kNd_inj hy hx h)),hf y hy]
   simp only [if_neg e]
theorem rowN_snoc (N:List Nd) (a b i:Nat):rowN (N++[(a,b)]) i=if i=b then rowN N b++[a] else rowN N i:=by
 unfold rowN;rw [List.filter_append,List.map_append]
 by_cases e:i=b
 ·subst e;simp
 ·rw [if_neg e];simp [Ne.symm e]
theorem backF_snoc (E:List (Nd × Nd)) (x y z:Nd):backF (E++[(x,y)]) z=if z=x then backF E x++[y] else backF E z:=by
 unfold backF;rw [List.filter_append,List.map_append]
 by_cases e:z=x
 ·subst e;simp
 ·rw [if_neg e]
  have:(x==z)=false:=by simpa using Ne.symm e
  simp [this]
theorem RunM.pushRow (h:RunM C p left w0 ρ m w) {a b:Nat} (hx:NdOk (a,b)) (hl:m.nodes.length<4398046511104)
  {k:Nat} {f:Lit->Option Value} {vr:Nat->Value} (h1:MapS Tryz.prog 3 w C.br k f) (h2:k<=m.nodes.length) (h3:∀ z:Int,f (.int .i64 z)=if 0<=z /\ rowN m.nodes z.toNat≠[] then some (vr z.toNat) else none)
  (h4:∀ i,w.ownsRow 0 3 1 (vr i) (rowN m.nodes i).length (flatK encN (rowN m.nodes i)) /\ (∀ b,(vr i).ownBlock=some b->ρ b=some (.irow i)) /\ (rowN m.nodes i=[]->vr i=.slice none 0 0))
  {v':Value} {w5 w6:World} (hg5:w.grownBy w5 (vr b).ownBlock) (ho:w5.ownsRow 0 3 1 v' ((rowN m.nodes b).length+1) (flatK encN (rowN m.nodes b)++encN a))
  (hb:∀ q,v'.ownBlock=some q->(vr b).ownBlock=some q∨w.heap.size<=q) (hg6:w5.grownBy w6 (some C.br)) {k':Nat} (hk:k'<=k+1) (hm6:MapS Tryz.prog 3 w6 C.br k' (putV f (.int .i64 (b:Int)) v')) :
  ∃ ρ',RunM C p left w0 ρ' { m with nodes:=m.nodes++[(a,b)] } w6 /\ KeepR ρ w w6 /\ Roles w.heap.size ρ ρ':=by
 have hrole:∀ q,(vr b).ownBlock=some q->ρ q=some (.irow b):=(h4 b).2.1;have t:Turn (fun R=>R=.mrows∨∃ i,R=.irow i) ρ (fun q=>if v'.ownBlock=some q then some (.irow b) else ρ q) w w6:=by
  refine ⟨hg6.os.trans hg5.os,hg6.tape.trans hg5.tape,hg6.output.trans hg5.output,Nat.le_trans hg5.size hg6.size,fun q hq hR=>?_,fun q hq=>?_,fun q hq hn=>?_⟩
  ·refine (hg6.block q (Nat.lt_of_lt_of_le hq hg5.size) (fun e=>?_)).trans (hg5.block q hq fun e=>?_)
   ·injection e with e;subst e;exact hR _ h.roles.br (.inl rfl)
   ·exact hR _ (hrole q e.symm) (.inr ⟨b,rfl⟩)
  ·by_cases e:v'.ownBlock=some q
   ·rw [if_pos e]
    rcases hb q e with e2 | e2
    ·exact (hrole q e2).symm
    ·omega
   ·rw [if_neg e]
  ·by_cases e:v'.ownBlock=some q
   ·exact Nat.lt_of_lt_of_le (own_lt ho e) hg6.size
   ·rw [if_neg e] at hn
    have:=h.lt q hn;omega
 refine ⟨_,h.setRows t ⟨k',putV f (.int .i64 (b:Int)) v',fun i=>if i=b then v' else vr i,hm6,by rw [List.length_append,List.length_singleton];omega,fun z=>?_,fun i=>?_⟩ (fun y hy=>?_) (by rw [List.length_append,List.length_singleton];omega),t.keep,t.roles⟩
 ·rw [putV_int,rowN_snoc]
  by_cases e:z=(b:Int)
  ·subst e
   simp
  ·rw [if_neg e,h3]
   by_cases h0:0<=z
   ·have e2:¬ z.toNat=b:=by omega
    simp only [if_neg e2]
   ·simp [h0]
 ·rw [rowN_snoc]
  by_cases e:i=b
  ·subst e
   rw [if_pos rfl];dsimp only;rw [if_pos rfl];refine ⟨?_,fun q hq=>by rw [if_pos hq],fun hh=>by simp at hh⟩
   have:=own_of_block (w':=w6) ho fun q hq=>hg6.block q (own_lt ho hq) (fun e=>by
    injection e with e;subst e
    rcases hb _ hq with e2 | e2
    ·have:=hrole _ e2;rw [h.roles.br] at this;cases this
    ·have:=h.lt C.br (by rw [h.roles.br];simp);omega)
   rw [flatK_snoc] at this;rw [List.length_append,List.length_singleton];exact this
  ·rw [if_neg e]
   dsimp only;rw [if_neg e];obtain ⟨k1,k2,k3⟩:=h4 i;refine ⟨own_of_block k1 fun q hq=>?_,fun q hq=>?_,k3⟩
   ·have hq1:=own_lt k1 hq
    refine (hg6.block q (Nat.lt_of_lt_of_le hq1 hg5.size) (fun e2=>?_)).trans (hg5.block q hq1 fun e2=>?_)
    ·injection e2 with e2;subst e2;have:=k2 _ hq;rw [h.roles.br] at this;cases this
    ·have h5:=hrole q e2.symm;rw [k2 q hq] at h5;injection h5 with h5;injection h5 with h5;exact e h5
   ·rw [if_neg (fun e2=>?_)]
    ·exact k2 q hq
    ·rcases hb q e2 with e3 | e3
     ·have h5:=hrole q e3;rw [k2 q hq] at h5;injection h5 with h5;injection h5 with h5;exact e h5
     ·have:=own_lt k1 hq;omega
 ·rcases List.mem_append.1 hy with hy | hy
  ·exact h.nok y hy
  ·rw [List.mem_singleton] at hy;subst hy;exact hx
theorem RunM.pushBack (h:RunM C p left w0 ρ m w) {x y:Nd} (hx:NdOk x) (hy:NdOk y) (hl:m.back.length<4398046511104)
  {k:Nat} {f:Lit->Option Value} {vb:Nd->Value} (h1:MapS Tryz.prog 150 w C.bb k f) (h2:k<=m.back.length) (h3:∀ x,NdOk x->f (kNd x)=if backF m.back x=[] then none else some (vb x))
  (h4:∀ x,w.ownsRow 0 150 2 (vb x) (backF m.back x).length (flatK encNd (backF m.back x)) /\ (∀ b,(vb x).ownBlock=some b->ρ b=some (.brow x)) /\ (backF m.back x=[]->vb x=.slice none 0 0))
  {v':Value} {w5 w6:World} (hg5:w.heap.size<=w5.heap.size) (hb5:∀ q,q<w.heap.size->(vb x).ownBlock≠some q->q≠C.bb->w5.heap[q]?=w.heap[q]?) (hos:w5.os=w.os /\ w5.tape=w.tape /\ w5.output=w.output) (ho:w5.ownsRow 0 150 2 v' ((backF m.back x).length+1) (flatK encNd (backF m.back x)++encNd y))
  (hb:∀ q,v'.ownBlock=some q->(vb x).ownBlock=some q∨w.heap.size<=q) (hg6:w5.grownBy w6 (some C.bb)) {k':Nat} (hk:k'<=k+1) (hm6:MapS Tryz.prog 150 w6 C.bb k' (putV f (kNd x) v')) :
  ∃ ρ',RunM C p left w0 ρ' { m with back:=m.back++[(x,y)] } w6 /\ KeepR ρ w w6 /\ Roles w.heap.size ρ ρ':=by
 have hrole:∀ q,(vb x).ownBlock=some q->ρ q=some (.brow x):=(h4 x).2.1;have t:Turn (fun R=>R=.mback∨∃ i,R=.brow i) ρ (fun q=>if v'.ownBlock=some q then some (.brow x) else ρ q) w w6:=by
  refine ⟨hg6.os.trans hos.1,hg6.tape.trans hos.2.1,hg6.output.trans hos.2.2,Nat.le_trans hg5 hg6.size,fun q hq hR=>?_,fun q hq=>?_,fun q hq hn=>?_⟩
  ·have hqb:q≠C.bb:=fun e=>by subst e;exact hR _ h.roles.bb (.inl rfl)
   refine (hg6.block q (Nat.lt_of_lt_of_le hq hg5) (fun e=>?_)).trans (hb5 q hq (fun e=>?_) hqb)
   ·injection e with e;exact hqb e
   ·exact hR _ (hrole q e) (.inr ⟨x,rfl⟩)
  ·by_cases e:v'.ownBlock=some q
   ·rw [if_pos e]
    rcases hb q e with e2 | e2
    ·exact (hrole q e2).symm
    ·omega
   ·rw [if_neg e]
  ·by_cases e:v'.ownBlock=some q
   ·exact Nat.lt_of_lt_of_le (own_lt ho e) hg6.size
   ·rw [if_neg e] at hn
    have:=h.lt q hn;omega
 refine ⟨_,h.setBack t ⟨k',putV f (kNd x) v',fun i=>if i=x then v' else vb i,hm6,by rw [List.length_append,List.length_singleton];omega,fun z hz=>?_,fun i=>?_⟩ (fun e he=>?_) (by rw [List.length_append,List.length_singleton];omega),t.keep,t.roles⟩
 ·rw [backF_snoc]
  by_cases e:z=x
  ·subst e
   rw [putV_same _ _ ((Keyed.of_law ndLaw).key (keyOf_nd z hx))];simp
  ·rw [putV_other _ _ (fun h=>e (kNd_inj hz hx h)),h3 z hz]
   simp only [if_neg e]
 ·rw [backF_snoc]
  by_cases e:i=x
  ·subst e
   rw [if_pos rfl];dsimp only;rw [if_pos rfl];refine ⟨?_,fun q hq=>by rw [if_pos hq],fun hh=>by simp at hh⟩
   have:=own_of_block (w':=w6) ho fun q hq=>hg6.block q (own_lt ho hq) (fun e=>by
    injection e with e;subst e
    rcases hb _ hq with e2 | e2
    ·have:=hrole _ e2;rw [h.roles.bb] at this;cases this
    ·have:=h.lt C.bb (by rw [h.roles.bb];simp);omega)
   rw [flatK_snoc] at this;rw [List.length_append,List.length_singleton];exact this
  ·rw [if_neg e]
   dsimp only;rw [if_neg e];obtain ⟨k1,k2,k3⟩:=h4 i;refine ⟨own_of_block k1 fun q hq=>?_,fun q hq=>?_,k3⟩
   ·have hq1:=own_lt k1 hq
    have hqb:q≠C.bb:=fun e2=>by subst e2;have:=k2 _ hq;rw [h.roles.bb] at this;cases this
    refine (hg6.block q (Nat.lt_of_lt_of_le hq1 hg5) (fun e2=>?_)).trans (hb5 q hq1 (fun e2=>?_) hqb)
    ·injection e2 with e2;exact hqb e2
    ·have h5:=hrole q e2;rw [k2 q hq] at h5;injection h5 with h5;injection h5 with h5;exact e h5
   ·rw [if_neg (fun e2=>?_)]
    ·exact k2 q hq
    ·rcases hb q e2 with e3 | e3
     ·have h5:=hrole q e3;rw [k2 q hq] at h5;injection h5 with h5;injection h5 with h5;exact e h5
     ·have:=own_lt k1 hq;omega
 ·rcases List.mem_append.1 he with he | he
  ·exact h.bok e he
  ·rw [List.mem_singleton] at he;subst he;exact ⟨hx,hy⟩
theorem EdgesW.tried {E T:List (Nd × Nd)} {x y:Nd} {f:Lit->Option Value} (hx:NdOk x) (hy:NdOk y) (hE:∀ e∈E,NdOk e.1 /\ NdOk e.2) (hT:∀ e,e∈T↔e∈E) (hf:∀ x y,NdOk x->NdOk y->f (kEd x y)=if (x,y)∈E then some (.int .i64 (T.count (x,y):Int)) else none)
  (hm:MapS Tryz.prog 213 w' C.be (if (f (kEd x y)).isSome then E.length else E.length+1) (putV f (kEd x y) (.int .i64 ((T.count (x,y):Int)+1)))) :
  EdgesW C (if (x,y)∈E then E else E++[(x,y)]) (T++[(x,y)]) w':=by
 refine ⟨putV f (kEd x y) (.int .i64 ((T.count (x,y):Int)+1)),?_,fun u v hu hv=>?_⟩
 ·have e:(if (f (kEd x y)).isSome then E.length else E.length+1)=(if (x,y)∈E then E else E++[(x,y)]).length:=by
   rw [hf x y hx hy]
   by_cases h0:(x,y)∈E <;> simp [h0]
  rw [e] at hm;exact hm
 ·rw [List.count_append]
  by_cases e:u=x /\ v=y
  ·obtain ⟨rfl,rfl⟩:=e
   rw [putV_same _ _ ((Keyed.of_law edLaw).key (keyOf_ed u v hu hv))]
   by_cases h0:(u,v)∈E <;> simp [h0]
  ·rw [putV_other _ _ (fun h=>e (kEd_inj hu hv hx hy h)),hf u v hu hv]
   have hne:(u,v)≠(x,y):=fun h=>by injection h with h1 h2;exact e ⟨h1,h2⟩
   have h3:([(x,y)]:List (Nd × Nd)).count (u,v)=0:=by rw [List.count_eq_zero];simpa using hne
   rw [h3,Nat.add_zero]
   by_cases h0:(x,y)∈E
   ·simp [h0]
   ·simp only [h0,if_false,List.mem_append,List.mem_singleton]
    by_cases h1:(u,v)∈E <;> simp [h1,hne]
end
def stopP:List PanicEntry:=[{ v:=.iface 147 (.agg #[]),recovered:=false }]
theorem heap_lt {w:World} {b:Nat} {o:Obj} (h:w.heap[b]?=some o):b<w.heap.size:=(Array.getElem?_eq_some_iff.1 h).1
theorem box_cells {C:RC} {p:RP} {left:Nat} {w:World} (h:Blk w C.rb 81 (boxC C p left)) :
  w.cell? ⟨C.rb,7,none⟩=some (.int .i64 (left:Int)) /\ w.cell? ⟨C.rb,8,none⟩=some (.map (some C.bb)) /\ w.cell? ⟨C.rb,9,none⟩=some (.map (some C.be)) /\ w.cell? ⟨C.rb,10,none⟩=some (.map (some C.ba)) /\
  w.cell? ⟨C.rb,11,none⟩=some (.map (some C.br)) /\ w.cell? ⟨C.rb,12,none⟩=some (.map (some C.bp)) /\ (∀ i,w.frozen? ⟨C.rb,i,none⟩=false) :=
 ⟨h.cell 7,h.cell 8,h.cell 9,h.cell 10,h.cell 11,h.cell 12,h.frozen⟩
theorem step_go (C:RC) (p:RP) (left:Nat) (hl:left<=4611686018427387904) (w:World) (h:Blk w C.rb 81 (boxC C p (left+1))) :
  Calls Tryz.prog 124 #[.pointer (some ⟨C.rb,0,none⟩)] w fun e w'=>e=.returned (.tuple #[]) /\ w'=w.setCell ⟨C.rb,7,none⟩ (.int .i64 (left:Int)):=by
 obtain ⟨b7,_,_,_,_,_,bz⟩:=box_cells h;have hlt:=h.lt;have hw:IntKind.i64.wrap (((left+1:Nat):Int) - 1)=(left:Int):=by rw [show (((left+1:Nat):Int) - 1)=left by omega];exact IntWalk.i64_in _ (by omega)
 have hd:decide ((left:Int)<0)=false:=decide_eq_false (by omega)
 clear h
 go_enter Tryz.func124,Tryz.ntmps124
 go_wp2_with fail
 go_end0
 exact ⟨rfl,rfl⟩
theorem step_stop (C:RC) (p:RP) (w:World) (h:Blk w C.rb 81 (boxC C p 0)) :
  Calls Tryz.prog 124 #[.pointer (some ⟨C.rb,0,none⟩)] w fun e w'=>e=.panicked stopP /\ w'=w.setCell ⟨C.rb,7,none⟩ (.int .i64 (-1)):=by
 obtain ⟨b7,_,_,_,_,_,bz⟩:=box_cells h;have hlt:=h.lt;have hw:IntKind.i64.wrap (((0:Nat):Int) - 1)=-1:=by decide
 clear h
 go_enter Tryz.func124,Tryz.ntmps124
 go_wp2_with fail
 exact An rfl (An rfl rfl)
end Go.Proofs.YthiochcpmfkgcaaGreatDoor.Gl
namespace Go.Proofs
open Go.Shelf
def Tryz.lays169_ren:Go.Shelf.Ren:=⟨fun | 169=>84 | n=>n,fun | 70=>158 | 9=>9 | 0=>0 | 72=>160 | 37=>55 | 127=>194 | 3=>3 | 5=>5 | n=>n,fun | n=>n⟩
theorem Tryz.lays169:Go.Proofs.Lays.n169 Tryz.prog Tryz.lays169_ren:={
 mixed:=by kernel_rfl
 f169:=Tryz.func84.trans (congrArg some (by kernel_rfl))
 t0:=Tryz.underlying0
 a0:=Tryz.isAgg0
 z0:=Tryz.sizeOf0
 v0:=Tryz.zeroValue0
 t3:=Tryz.underlying3
 a3:=Tryz.isAgg3
 z3:=Tryz.sizeOf3
 v3:=Tryz.zeroValue3
 t9:=Tryz.underlying9
 a9:=Tryz.isAgg9
 z9:=Tryz.sizeOf9
 v9:=Tryz.zeroValue9
 t37:=Tryz.underlying55
 a37:=Tryz.isAgg55
 z37:=Tryz.sizeOf55
 v37:=Tryz.zeroValue55
 t70:=Tryz.underlying158
 a70:=Tryz.isAgg158
 z70:=Tryz.sizeOf158
 v70:=Tryz.zeroValue158
 t72:=Tryz.underlying160
 a72:=Tryz.isAgg160
 z72:=Tryz.sizeOf160
 v72:=Tryz.zeroValue160
 t127:=Tryz.underlying194
 a127:=Tryz.isAgg194
 z127:=Tryz.sizeOf194
 v127:=Tryz.zeroValue194 }
theorem Tryz.Builder_Extra_169:Builder.Extra Tryz.prog Tryz.lays169_ren:={
 sizeBuilder:=by kernel_rfl
 liesBuilder:=by kernel_rfl
 t5:=Tryz.underlying5
 a5:=Tryz.isAgg5
 z5:=Tryz.sizeOf5
 v5:=Tryz.zeroValue5
 infoByte:=by kernel_rfl
 cellsByte:=by kernel_rfl
 sizeByte:=by kernel_rfl
 neB5:=by decide }
def Tryz.lays125_ren:Go.Shelf.Ren:=⟨fun | 125=>76 | 128=>102 | 129=>103 | n=>n,fun | 46=>155 | 3=>3 | 51=>189 | 53=>31 | 4=>4 | 5=>5 | 9=>9 | n=>n,fun | n=>n⟩
theorem Tryz.lays125:Go.Proofs.Lays.n125 Tryz.prog Tryz.lays125_ren:={
 mixed:=by kernel_rfl
 f125:=Tryz.func76.trans (congrArg some (by kernel_rfl))
 f128:=Tryz.func102.trans (congrArg some (by kernel_rfl))
 f129:=Tryz.func103.trans (congrArg some (by kernel_rfl))
 t3:=Tryz.underlying3
 a3:=Tryz.isAgg3
 z3:=Tryz.sizeOf3
 v3:=Tryz.zeroValue3
 t4:=Tryz.underlying4
 a4:=Tryz.isAgg4
 z4:=Tryz.sizeOf4
 v4:=Tryz.zeroValue4
 t5:=Tryz.underlying5
 a5:=Tryz.isAgg5
 z5:=Tryz.sizeOf5
 v5:=Tryz.zeroValue5
 t9:=Tryz.underlying9
 a9:=Tryz.isAgg9
 z9:=Tryz.sizeOf9
 v9:=Tryz.zeroValue9
 t46:=Tryz.underlying155
 a46:=Tryz.isAgg155
 z46:=Tryz.sizeOf155
 v46:=Tryz.zeroValue155
 t51:=Tryz.underlying189
 a51:=Tryz.isAgg189
 z51:=Tryz.sizeOf189
 v51:=Tryz.zeroValue189
 t53:=Tryz.underlying31
 a53:=Tryz.isAgg31
 z53:=Tryz.sizeOf31
 v53:=Tryz.zeroValue31 }
theorem Tryz.bits_Len (x:Int) (w:World) (h0:0<=x) (h1:x<=18446744073709551615) :
  Calls Tryz.prog 76 #[.int .u64 x] w fun e w'=>e=.returned (.int .i64 (Lib.bitLen x.toNat)) /\ w'=w:=Any.bits_Len Tryz.lays125 x w h0 h1
open Go.RowKit in
/-- (*strings.Builder).String: "String returns the accumulated string.": WHATEVER THE BUILDER HOLDS; THE FORM '_f': OF A BUILDER THAT MAY HAVE BEEN READ BEFORE; AND IT IS A BUILDER STILL, holding the same bytes: it can be written on. (LAID: no walk: one application.) -/
theorem Tryz.Builder_String_any_f (B b:Nat) (l:List UInt8) (w:World) (h:Lib.IsBuilderF 160 5 B b (Lib.byteCells l) w) (hBw:B<=w.heap.size) :
    Calls Tryz.prog 84 #[.pointer (some ⟨b,0,none⟩)] w fun e w'=>e=.returned (.string ⟨l.toArray⟩) /\ (Lib.IsBuilderF 160 5 B b (Lib.byteCells l) w' /\ Below B w w'):=Any.Builder_String_any_f Tryz.lays169 Tryz.Builder_Extra_169 B b l w h hBw
def Tryz.laysM171_ren:Go.Shelf.Ren:=⟨fun | 171=>83 | 243=>111 | 246=>134 | 283=>157 | 284=>158 | 285=>159 | 286=>160 | 129=>103 | 317=>177 | 318=>178 | 319=>179 | 320=>180 | 337=>186 | 338=>173 | n=>n,fun | 3=>3 | 9=>9 | 2=>2 | 4=>4 | 171=>245 | 0=>0 | 53=>31 | 37=>55 | 5=>5 | 173=>247 | 212=>260 | 51=>189 | 20=>20 | 213=>261 | 46=>155 | 232=>268 | 233=>265 | n=>n,fun | 17=>0 | 18=>2 | 19=>1 | n=>n⟩
theorem Tryz.laysM171:Go.Proofs.LaysM.n171 Tryz.prog Tryz.laysM171_ren:={
 mixed:=by kernel_rfl
 f129:=Tryz.func103.trans (congrArg some (by kernel_rfl))
 f171:=Tryz.func83.trans (congrArg some (by kernel_rfl))
 f243:=Tryz.func111.trans (congrArg some (by kernel_rfl))
 f246:=Tryz.func134.trans (congrArg some (by kernel_rfl))
 f283:=Tryz.func157.trans (congrArg some (by kernel_rfl))
 f284:=Tryz.func158.trans (congrArg some (by kernel_rfl))
 f285:=Tryz.func159.trans (congrArg some (by kernel_rfl))
 f286:=Tryz.func160.trans (congrArg some (by kernel_rfl))
 f317:=Tryz.func177.trans (congrArg some (by kernel_rfl))
 f318:=Tryz.func178.trans (congrArg some (by kernel_rfl))
 f319:=Tryz.func179.trans (congrArg some (by kernel_rfl))
 f320:=Tryz.func180.trans (congrArg some (by kernel_rfl))
 f337:=Tryz.func186.trans (congrArg some (by kernel_rfl))
 f338:=Tryz.func173.trans (congrArg some (by kernel_rfl))
 t0:=Tryz.underlying0
 a0:=Tryz.isAgg0
 z0:=Tryz.sizeOf0
 v0:=Tryz.zeroValue0
 t2:=Tryz.underlying2
 a2:=Tryz.isAgg2
 z2:=Tryz.sizeOf2
 v2:=Tryz.zeroValue2
 t3:=Tryz.underlying3
 a3:=Tryz.isAgg3
 z3:=Tryz.sizeOf3
 v3:=Tryz.zeroValue3
 t4:=Tryz.underlying4
 a4:=Tryz.isAgg4
 z4:=Tryz.sizeOf4
 v4:=Tryz.zeroValue4
 t5:=Tryz.underlying5
 a5:=Tryz.isAgg5
 z5:=Tryz.sizeOf5
 v5:=Tryz.zeroValue5
 t9:=Tryz.underlying9
 a9:=Tryz.isAgg9
 z9:=Tryz.sizeOf9
 v9:=Tryz.zeroValue9
 t20:=Tryz.underlying20
 a20:=Tryz.isAgg20
 z20:=Tryz.sizeOf20
 v20:=Tryz.zeroValue20
 t37:=Tryz.underlying55
 a37:=Tryz.isAgg55
 z37:=Tryz.sizeOf55
 v37:=Tryz.zeroValue55
 t46:=Tryz.underlying155
 a46:=Tryz.isAgg155
 z46:=Tryz.sizeOf155
 v46:=Tryz.zeroValue155
 t51:=Tryz.underlying189
 a51:=Tryz.isAgg189
 z51:=Tryz.sizeOf189
 v51:=Tryz.zeroValue189
 t53:=Tryz.underlying31
 a53:=Tryz.isAgg31
 z53:=Tryz.sizeOf31
 v53:=Tryz.zeroValue31
 t171:=Tryz.underlying245
 a171:=Tryz.isAgg245
 z171:=Tryz.sizeOf245
 v171:=Tryz.zeroValue245
 t173:=Tryz.underlying247
 a173:=Tryz.isAgg247
 z173:=Tryz.sizeOf247
 v173:=Tryz.zeroValue247
 t212:=Tryz.underlying260
 a212:=Tryz.isAgg260
 z212:=Tryz.sizeOf260
 v212:=Tryz.zeroValue260
 t213:=Tryz.underlying261
 a213:=Tryz.isAgg261
 z213:=Tryz.sizeOf261
 t232:=Tryz.underlying268
 a232:=Tryz.isAgg268
 z232:=Tryz.sizeOf268
 v232:=Tryz.zeroValue268
 t233:=Tryz.underlying265
 a233:=Tryz.isAgg265
 z233:=Tryz.sizeOf265
 v233:=Tryz.zeroValue265
 g17:=by kernel_rfl
 g18:=by kernel_rfl
 g19:=by kernel_rfl
 i0:=by kernel_rfl
 i2:=by kernel_rfl
 i3:=by kernel_rfl
 i4:=by kernel_rfl
 i5:=by kernel_rfl
 i9:=by kernel_rfl
 i20:=by kernel_rfl
 i37:=by kernel_rfl
 i46:=by kernel_rfl
 i51:=by kernel_rfl
 i53:=by kernel_rfl
 i171:=by kernel_rfl
 i173:=by kernel_rfl
 i212:=by kernel_rfl
 i232:=by kernel_rfl
 i233:=by kernel_rfl
 m17:=by kernel_rfl
 m18:=by kernel_rfl
 m19:=by kernel_rfl }
open Go.RowKit Go.Sort Go.Lib in
/-- strconv.Itoa: "Itoa is equivalent to FormatInt(int64(i), 10).": i's DECIMAL NUMERAL ('Lib.itoa': a '-' where i is negative, then the digits), FOR EVERY int. The world behind the call: the world before it, new blocks behind the heap (the library's 'var a [24]byte'), draws. (LAID: no walk: one application.) -/
theorem Tryz.strconv_Itoa (n:Int) (h0:-9223372036854775808<=n) (h1:n<=9223372036854775807) (w:World) (htab:Lib.TabIs Tryz.prog w "internal/strconv.uint64pow10" .u64 Lib.pow10Tab) :
    Calls Tryz.prog 83 #[.int .i64 n] w fun e w'=>e=.returned (.string ⟨(Lib.itoa n).toArray⟩) /\ ∃ k os,w'=grow (w.drewN k) os:=Any.strconv_Itoa Tryz.laysM171 n h0 h1 w htab
def Tryz.lays171_ren:Go.Shelf.Ren:=⟨fun | 171=>83 | 243=>111 | 246=>134 | 283=>157 | 284=>158 | 285=>159 | 286=>160 | 129=>103 | 317=>177 | 318=>178 | 319=>179 | 320=>180 | 337=>186 | 338=>173 | n=>n,fun | 3=>3 | 9=>9 | 2=>2 | 4=>4 | 171=>245 | 0=>0 | 53=>31 | 37=>55 | 5=>5 | 173=>247 | 212=>260 | 51=>189 | 20=>20 | 213=>261 | 46=>155 | 232=>268 | 233=>265 | n=>n,fun | 17=>0 | 18=>2 | 19=>1 | n=>n⟩
theorem Tryz.lays171:Go.Proofs.Lays.n171 Tryz.prog Tryz.lays171_ren:={
 mixed:=by kernel_rfl
 f129:=Tryz.func103.trans (congrArg some (by kernel_rfl))
 f171:=Tryz.func83.trans (congrArg some (by kernel_rfl))
 f243:=Tryz.func111.trans (congrArg some (by kernel_rfl))
 f246:=Tryz.func134.trans (congrArg some (by kernel_rfl))
 f283:=Tryz.func157.trans (congrArg some (by kernel_rfl))
 f284:=Tryz.func158.trans (congrArg some (by kernel_rfl))
 f285:=Tryz.func159.trans (congrArg some (by kernel_rfl))
 f286:=Tryz.func160.trans (congrArg some (by kernel_rfl))
 f317:=Tryz.func177.trans (congrArg some (by kernel_rfl))
 f318:=Tryz.func178.trans (congrArg some (by kernel_rfl))
 f319:=Tryz.func179.trans (congrArg some (by kernel_rfl))
 f320:=Tryz.func180.trans (congrArg some (by kernel_rfl))
 f337:=Tryz.func186.trans (congrArg some (by kernel_rfl))
 f338:=Tryz.func173.trans (congrArg some (by kernel_rfl))
 t0:=Tryz.underlying0
 a0:=Tryz.isAgg0
 z0:=Tryz.sizeOf0
 v0:=Tryz.zeroValue0
 t2:=Tryz.underlying2
 a2:=Tryz.isAgg2
 z2:=Tryz.sizeOf2
 v2:=Tryz.zeroValue2
 t3:=Tryz.underlying3
 a3:=Tryz.isAgg3
 z3:=Tryz.sizeOf3
 v3:=Tryz.zeroValue3
 t4:=Tryz.underlying4
 a4:=Tryz.isAgg4
 z4:=Tryz.sizeOf4
 v4:=Tryz.zeroValue4
 t5:=Tryz.underlying5
 a5:=Tryz.isAgg5
 z5:=Tryz.sizeOf5
 v5:=Tryz.zeroValue5
 t9:=Tryz.underlying9
 a9:=Tryz.isAgg9
 z9:=Tryz.sizeOf9
 v9:=Tryz.zeroValue9
 t20:=Tryz.underlying20
 a20:=Tryz.isAgg20
 z20:=Tryz.sizeOf20
 v20:=Tryz.zeroValue20
 t37:=Tryz.underlying55
 a37:=Tryz.isAgg55
 z37:=Tryz.sizeOf55
 v37:=Tryz.zeroValue55
 t46:=Tryz.underlying155
 a46:=Tryz.isAgg155
 z46:=Tryz.sizeOf155
 v46:=Tryz.zeroValue155
 t51:=Tryz.underlying189
 a51:=Tryz.isAgg189
 z51:=Tryz.sizeOf189
 v51:=Tryz.zeroValue189
 t53:=Tryz.underlying31
 a53:=Tryz.isAgg31
 z53:=Tryz.sizeOf31
 v53:=Tryz.zeroValue31
 t171:=Tryz.underlying245
 a171:=Tryz.isAgg245
 z171:=Tryz.sizeOf245
 v171:=Tryz.zeroValue245
 t173:=Tryz.underlying247
 a173:=Tryz.isAgg247
 z173:=Tryz.sizeOf247
 v173:=Tryz.zeroValue247
 t212:=Tryz.underlying260
 a212:=Tryz.isAgg260
 z212:=Tryz.sizeOf260
 v212:=Tryz.zeroValue260
 t213:=Tryz.underlying261
 a213:=Tryz.isAgg261
 z213:=Tryz.sizeOf261
 t232:=Tryz.underlying268
 a232:=Tryz.isAgg268
 z232:=Tryz.sizeOf268
 v232:=Tryz.zeroValue268
 t233:=Tryz.underlying265
 a233:=Tryz.isAgg265
 z233:=Tryz.sizeOf265
 v233:=Tryz.zeroValue265
 g17:=by kernel_rfl
 g18:=by kernel_rfl
 g19:=by kernel_rfl }
open Go.RowKit Go.Sort Go.Lib in
/-- THE ROAD WITHOUT THE TABLE: 0 <= i < 100: NO PREMISE ON THE WORLD, AND THE WORLD IS AS IT WAS: a row that keeps its argument in that range need list no table ('laid = []'). (LAID: no walk: one application.) -/
theorem Tryz.strconv_Itoa_small (i:Nat) (hi:i<100) (w:World) :
    Calls Tryz.prog 83 #[.int .i64 i] w fun e w'=>e=.returned (.string ⟨(Lib.decDigits i).toArray⟩) /\ w'=w:=Any.strconv_Itoa_small Tryz.lays171 i hi w
end Go.Proofs
namespace Go.Proofs.YthiochcpmfkgcaaGreatDoor.Mx
open Go Go.RowKit

def SeqO (F:Fence) (n:Nat) (P:Program) (g:Nat) (lb:Array Value) (encs:Nat->Array Value) (Kp:World->World->Prop) (N:Nat) (w:World):Prop :=
 ∀ (l:Nat) (J Jx:Nat->World->Prop) (W:World),Below w.heap.size w W->AbidesFrom W.heap.size J->AbidesFrom W.heap.size Jx ->
  (∀ k W1,J k W1->k<N->YieldAt F (n - 1) P l (encs k) W1 fun e W' =>
   (e=.returned (.bool true) /\ J (k+1) W' /\ Kp W1 W')∨(e=.returned (.bool false) /\ Jx (k+1) W')) ->
  J 0 W ->
  CallsIn F n P g (#[.func (.yield l) #[] #[]]++lb) W fun e W'=>(∃ v,e=.returned v) /\ (J N W'∨(∃ k,k<=N /\ Jx k W'))

def ownPostO (Kp:World->World->Prop) (I:Nat->World->Prop) (Ix:Code->Nat->World->Prop) (k:Nat) (W:World):Exit->Act->World->Prop
 | .normal,_,W'=>KeepsOthers W W' /\ Kp W W' /\ I k W'
 | .ret,_,W'=>KeepsOthers W W' /\ Ix .ret k W'
 | .exit id,_,W'=>KeepsOthers W W' /\ Ix (.exit id) k W'
 | .goto t,_,W'=>KeepsOthers W W' /\ Ix (.goto t) k W'
 | .panic _,_,_=>False
 | .outgrown,_,_=>False

variable {F:Fence} {n:Nat} {P:Program}

end Go.Proofs.YthiochcpmfkgcaaGreatDoor.Mx
namespace Go.Proofs.YthiochcpmfkgcaaGreatDoor.Mx
open Go Go.RowKit
section
variable {F:Fence} {n:Nat} {P:Program} {ops:Array Oper} {md:Region.Mode} {C:World → Prop}
def noDefer (l:List Oper):Bool:=l.all fun o=>match o.op with | .defer _=>false | _=>true
theorem noDefer_spec {l:List Oper} (h:noDefer l=true) {i:Nat} {o:Oper} (ho:l[i]?=some o):∀ c,o.op≠.defer c:=by
 intro c hc;have:=List.all_eq_true.1 h o (List.mem_of_getElem? ho);rw [hc] at this
 cases this
end
end Go.Proofs.YthiochcpmfkgcaaGreatDoor.Mx
namespace Go.Proofs.YthiochcpmfkgcaaGreatDoor.Mx
open Go Go.RowKit
variable {F:Fence} {n:Nat} {P:Program}
end Go.Proofs.YthiochcpmfkgcaaGreatDoor.Mx
namespace Go.Proofs.YthiochcpmfkgcaaGreatDoor.Mx
open Go
end Go.Proofs.YthiochcpmfkgcaaGreatDoor.Mx
namespace Go.Proofs.YthiochcpmfkgcaaGreatDoor.Mx
open Go Go.RowKit
def SeqP (F:Fence) (n:Nat) (P:Program) (g:Nat) (lb:Array Value) (encs:Nat->Array Value) (Kp:World->World->Prop) (N:Nat) (w:World):Prop :=
 ∀ (l:Nat) (J Jx:Nat->World->Prop) (W:World),Below w.heap.size w W ->
  (∀ k W1,J k W1->k<N->YieldAt F (n - 1) P l (encs k) W1 fun e W' =>
   (e=.returned (.bool true) /\ J (k+1) W' /\ Kp W1 W')∨(e=.returned (.bool false) /\ Jx (k+1) W')) ->
  J 0 W ->
  CallsIn F n P g (#[.func (.yield l) #[] #[]]++lb) W fun e W'=>(∃ v,e=.returned v) /\ (J N W'∨(∃ k,k<=N /\ Jx k W'))
structure OwnP {β:Type} (B:Nat) (I:β->World->Prop):Prop where
 alloc:∀ {s:β} {W:World} (o:Obj),I s W->I s (W.alloc o)
 putObj:∀ {s:β} {W:World} {l:Nat} {o:Obj} (o':Obj),I s W->B<=l->W.heap[l]?=some o->o.isCells=false->I s (W.putObj l o')
def Grew (w w':World):Prop:=∃ q os,w'=Sort.grow (w.drewN q) os
section
variable {w w' w'':World}
theorem Grew.refl (w:World):Grew w w:=⟨0,#[],by rw [Sort.grow_empty];rfl⟩
theorem Grew.trans (h:Grew w w') (k:Grew w' w''):Grew w w'':=by
 obtain ⟨q,os,rfl⟩:=h;obtain ⟨q',os',rfl⟩:=k;refine ⟨q+q',os++os',?_⟩
 show Sort.grow (Sort.grow ((w.drewN q).drewN q') os) os'=_
 rw [Sort.grow_grow]
 show Sort.grow { w with drawn:=w.drawn+q+q' } _=Sort.grow { w with drawn:=w.drawn+(q+q') } _
 rw [Nat.add_assoc]
theorem Grew.drewN (h:Grew w w') (n:Nat):Grew w (w'.drewN n):=h.trans ⟨n,#[],by rw [Sort.grow_empty]⟩
theorem Grew.drew (h:Grew w w'):Grew w w'.drew:=h.drewN 1
theorem Grew.alloc (h:Grew w w') (o:Obj):Grew w (w'.alloc o):=h.trans ⟨0,#[o],by rw [Sort.alloc_eq_grow];rfl⟩
theorem Grew.below (h:Grew w w'):Below w.heap.size w w':=by
 obtain ⟨q,os,rfl⟩:=h;refine ⟨rfl,rfl,rfl,by simp [Sort.grow,World.drewN],fun k hk=>?_⟩
 show (w.heap++os)[k]?=_
 rw [Array.getElem?_append_left hk]
theorem Grew.modify (h:Grew w w') (l:Nat) (hl:w.heap.size<=l) (f:Obj->Obj):Grew w { w' with heap:=w'.heap.modify l f }:=by
 obtain ⟨q,os,rfl⟩:=h;refine ⟨q,os.modify (l - w.heap.size) f,?_⟩
 show ({ w with heap:=(w.heap++os).modify l f,drawn:=_ }:World)={ w with heap:=w.heap++os.modify (l - w.heap.size) f,drawn:=_ }
 congr 1
 apply Array.ext_getElem?
 intro i;rw [Array.getElem?_modify]
 by_cases hi:i<w.heap.size
 ·rw [Array.getElem?_append_left hi,Array.getElem?_append_left hi,if_neg (by omega)]
 ·rw [Array.getElem?_append_right (by omega),Array.getElem?_append_right (by omega),Array.getElem?_modify]
  by_cases e:l=i
  ·subst e;simp
  ·rw [if_neg e,if_neg (by omega)]
theorem Grew.setCell (h:Grew w w') {p:Addr} (hp:w.heap.size<=p.block) (u:Value):Grew w (w'.setCell p u):=h.modify p.block hp _
theorem Grew.putObj (h:Grew w w') {l:Nat} (hl:w.heap.size<=l) (o:Obj):Grew w (w'.putObj l o):=by
 have e:w'.heap.setIfInBounds l o=w'.heap.modify l (fun _=>o):=by
  apply Array.ext_getElem?
  intro i;rw [Array.getElem?_modify,Array.getElem?_setIfInBounds]
  by_cases hi:l=i
  ·subst hi
   by_cases hs:l<w'.heap.size
   ·rw [if_pos rfl,if_pos hs,if_pos rfl,Array.getElem?_eq_getElem hs];rfl
   ·rw [if_pos rfl,if_neg hs,if_pos rfl,Array.getElem?_eq_none (by omega)];rfl
  ·rw [if_neg hi,if_neg hi]
 have k:=h.modify l hl (fun _=>o)
 unfold World.putObj;rw [e];exact k
theorem Blk.putObj {g l:Nat} {t:TypeId} {cs:Array Value} (h:Blk w g t cs) (hl:g≠l) (o:Obj):Blk (w.putObj l o) g t cs:=(World.putObj_heap_other hl).trans h
end
section
variable {F:Fence} {n:Nat} {P:Program}
theorem wpIn_rangeFunc_ownP {g:Operand} {ps:Array Tmp} {assign body:Code} {Q:Exit->Act->World->Prop} {a:Act} {w:World}
  (hro:F.round=none) (h1:1<=n) {gf:Nat} {lb:Array Value} (hg:a.eval g=.func (.func gf) #[] lb) (hFg:F.fn gf) (eg:∀ args w,(callFunc gf args).run P w=.ok (.enter gf args) w)
  {encs:Nat->Array Value} {Kp:World->World->Prop} {N:Nat} {w0:World} (hseq:SeqP F (n - 1) P gf lb encs Kp N w0)
  (hKt:∀ {A B C:World},Kp A B->Kp B C->Kp A C) (hKb:∀ (W:World) (l:Nat) (o o':Obj),w.heap.size<=l->W.heap[l]?=some o->o.isCells=false->o.isWalk=false->Kp W (W.putObj l o')) (hb0:Below w0.heap.size w0 w) (hps:∀ k,k<N->(encs k).size=ps.size)
  (I:Nat->World->Prop) (Ix:Code->Nat->World->Prop) (hI:OwnP w.heap.size I) (hIx:∀ c,OwnP w.heap.size (Ix c)) (h0:I 0 w) (a₁:Nat->Act)
  (hassign:∀ (l:Nat) (x:Nat) (W:World) (K:Act->World->Prop),x<N->K (a₁ x) W ->
   assign.wpIn (F.inRound l) (n - 1 - 1) P (Exit.then K (fun _ _ _=>False)) { tmps:=(ps.zip (encs x)).foldl (fun t (p,v)=>t.setIfInBounds p v) a.tmps,defers:=[] } W)
  (hbody:∀ (l:Nat) (k:Nat) (W:World),I k W->k<N->body.wpIn (F.inRound l) (n - 1 - 1) P (ownPostO Kp I Ix (k+1) W) (a₁ k) W)
  (hdone:∀ (D:Nat) (W:World),w.heap.size<=D->I N W->W.heap[D]?=some (.deferred (some []))->Q .normal { a with defers:={ target:=.collected D,args:=#[] }::a.defers } W)
  (hstop:∀ (D:Nat) (c:Code) (k:Nat) (W:World),w.heap.size<=D->k<=N->Ix c k W->W.heap[D]?=some (.deferred (some []))->c.wpIn F n P Q { a with defers:={ target:=.collected D,args:=#[] }::a.defers } W) :
  (Code.rangeFunc g ps assign body).wpIn F n P Q a w:=by
 refine wpIn_rangeFunc ?_;intro fn hfn;rw [hro];obtain ⟨rec,hrec⟩:∃ rec:LoopState->Option Code->Loop,rec=fun st pe=>{ state:=st,pending:=pe,fn,tmps:=a.tmps,params:=ps,assign,body,defers:=w.heap.size }:=⟨_,rfl⟩
 obtain ⟨W1,hW1⟩:∃ W1,(w.alloc (.deferred (some []))).alloc (.loop (rec .ready none))=W1:=⟨_,rfl⟩;have hL1:W1.heap[w.heap.size+1]?=some (.loop (rec .ready none)):=by
  rw [<- hW1];have:=World.alloc_heap_new (w.alloc (.deferred (some []))) (.loop (rec .ready none));rwa [World.size_alloc] at this
 have hK1:W1.heap[w.heap.size]?=some (.deferred (some [])):=by
  rw [<- hW1];exact (Below.heap_alloc _ _ _ (by simp)).trans (World.alloc_heap_new w _)
 have hI1:I 0 W1:=by rw [<- hW1];exact hI.alloc _ (hI.alloc _ h0)
 have hb1:Below w0.heap.size w0 W1:=by
  rw [<- hW1];exact hb0.trans ((((Below.refl _ w).alloc (Nat.le_refl _) _).alloc (by simp) _).mono hb0.size)
 refine ⟨w.heap.size+1,[{ target:=.collected w.heap.size,args:=#[] }],W1,{ target:=.fn (.func gf) lb,args:=#[.func (.yield (w.heap.size+1)) #[] #[]] },W1,gf,
  #[.func (.yield (w.heap.size+1)) #[] #[]]++lb,W1,?_,?_,?_,?_,fun _=>h1,?_⟩
 ·rw [<- hW1,hrec];exact run_enterLoop_outer _ _ _ _ _
 ·simp only [resolve,hg]
  simp [go_sem]
 ·intro f' hf';simp [Target.leads] at hf';subst hf';exact hFg
 ·simp [invoke,go_sem,eg]
 ·-- THE ITERATOR's CONTRACT,AT THE CALLER's INVARIANT WITH THE TWO FACTS OF BOOK-KEEPING BESIDE IT
  refine (hseq (w.heap.size+1)
   (fun pre W=>I pre W /\ W.heap[w.heap.size+1]?=some (.loop (rec .ready none)) /\ W.heap[w.heap.size]?=some (.deferred (some [])))
   (fun pre W=>∃ c,Ix c pre W /\ W.heap[w.heap.size+1]?=some (.loop (rec .done (some c))) /\ W.heap[w.heap.size]?=some (.deferred (some [])))
   W1 hb1
   ?_ ⟨hI1,hL1,hK1⟩).mono ?_
  ·-- ONE ROUND
   rintro k W ⟨hi,hl,hk⟩ hlen;have hlt:w.heap.size+1<W.heap.size:=(Array.getElem?_eq_some_iff.1 hl).1;have hy:=run_yield (P:=P) (args:=encs k) hl (by rw [hrec];exact hps k hlen)
   rw [hrec] at hy;refine ⟨fn,_,assign,body,hy,roundIn_of_wpIn hfn (hassign _ k W _ hlen ⟨_,run_beginRound hl (by rw [hrec]),?_⟩)⟩
   have hl2:(W.putObj (w.heap.size+1) (.loop { rec .ready none with state:=.busy })).heap[w.heap.size+1]?=some (.loop { rec .ready none with state:=.busy }):=World.putObj_heap_same hlt;have hk2:(W.putObj (w.heap.size+1) (.loop { rec .ready none with state:=.busy })).heap[w.heap.size]?=some (.deferred (some [])):=(World.putObj_heap_other (by omega)).trans hk
   have hw2:Kp W (W.putObj (w.heap.size+1) (.loop { rec .ready none with state:=.busy })):=hKb _ _ _ _ (by omega) hl rfl rfl
   refine wpIn_mono (hbody _ k _ (hI.putObj _ hi (by omega) hl rfl) hlen) ?_
   have fin:∀ (jump:Option Code) (W3:World),KeepsOthers (W.putObj (w.heap.size+1) (.loop { rec .ready none with state:=.busy })) W3 ->
     (Instr.endRound (w.heap.size+1) jump).run P W3=.ok (.bool jump.isNone) (W3.putObj (w.heap.size+1) (.loop (rec (if jump.isNone then .ready else .done) jump))) /\
     W3.heap[w.heap.size+1]?=some (.loop { rec .ready none with state:=.busy }) /\
     (W3.putObj (w.heap.size+1) (.loop (rec (if jump.isNone then .ready else .done) jump))).heap[w.heap.size+1]?=some (.loop (rec (if jump.isNone then .ready else .done) jump)) /\
     (W3.putObj (w.heap.size+1) (.loop (rec (if jump.isNone then .ready else .done) jump))).heap[w.heap.size]?=some (.deferred (some [])):=fun jump W3 hk3=>by
    have hl3:=hk3.same _ _ hl2 rfl;have:=run_endRound (P:=P) jump hl3;rw [hrec] at this ⊢;exact ⟨this,by rw [hrec] at hl3;exact hl3,World.putObj_heap_same (Array.getElem?_eq_some_iff.1 hl3).1,(World.putObj_heap_other (by omega)).trans (hk3.same _ _ hk2 rfl)⟩
   rintro e a3 W3 hp
   cases e with
   | normal =>
    obtain ⟨hk3,hkp3,hi3⟩:=hp;obtain ⟨hr,hl3,hl4,hk4⟩:=fin none W3 hk3;exact ⟨_,_,hr,.inl ⟨rfl,⟨hI.putObj _ hi3 (by omega) hl3 rfl,hl4,hk4⟩,hKt (hKt hw2 hkp3) (hKb _ _ _ _ (by omega) hl3 rfl rfl)⟩⟩
   | ret =>
    obtain ⟨hk3,hi3⟩:=hp;obtain ⟨hr,hl3,hl4,hk4⟩:=fin (some .ret) W3 hk3;exact ⟨_,_,hr,.inr ⟨rfl,.ret,(hIx _).putObj _ hi3 (by omega) hl3 rfl,hl4,hk4⟩⟩
   | exit id =>
    obtain ⟨hk3,hi3⟩:=hp;obtain ⟨hr,hl3,hl4,hk4⟩:=fin (some (.exit id)) W3 hk3;exact ⟨_,_,hr,.inr ⟨rfl,.exit id,(hIx _).putObj _ hi3 (by omega) hl3 rfl,hl4,hk4⟩⟩
   | goto t =>
    obtain ⟨hk3,hi3⟩:=hp;obtain ⟨hr,hl3,hl4,hk4⟩:=fin (some (.goto t)) W3 hk3;exact ⟨_,_,hr,.inr ⟨rfl,.goto t,(hIx _).putObj _ hi3 (by omega) hl3 rfl,hl4,hk4⟩⟩
   | panic ch=>exact hp.elim
   | outgrown=>exact hp.elim
  ·-- BEHIND THE ITERATOR
   rintro e W2 ⟨⟨v,rfl⟩,(⟨hi,hl,hk⟩ | ⟨k,hkN,c,hi,hl,hk⟩)⟩
   ·exact ⟨none,_,by have:=run_endLoop (P:=P) hl (by rw [hrec];simp);rw [hrec] at this;exact this,hdone _ _ (Nat.le_refl _) (hI.putObj _ hi (by omega) hl rfl) ((World.putObj_heap_other (by omega)).trans hk)⟩
   ·exact ⟨some c,_,by have:=run_endLoop (P:=P) hl (by rw [hrec];simp);rw [hrec] at this;exact this,hstop _ c k _ (Nat.le_refl _) hkN ((hIx c).putObj _ hi (by omega) hl rfl) ((World.putObj_heap_other (by omega)).trans hk)⟩
end
end Go.Proofs.YthiochcpmfkgcaaGreatDoor.Mx
namespace Go.Proofs.YthiochcpmfkgcaaGreatDoor.Mx
open Go Go.RowKit
def ownPostN (B:Nat) (Kp:World->World->Prop) (I:Nat->World->Prop) (Ix:Code->Nat->World->Prop) (k:Nat) (W:World):Exit->Act->World->Prop
 | .normal,_,W'=>KeepsFrom B W W' /\ Kp W W' /\ I k W'
 | .ret,_,W'=>KeepsFrom B W W' /\ Ix .ret k W'
 | .exit id,_,W'=>KeepsFrom B W W' /\ Ix (.exit id) k W'
 | .goto t,_,W'=>KeepsFrom B W W' /\ Ix (.goto t) k W'
 | .panic _,_,_=>False
 | .outgrown,_,_=>False
section
variable {F:Fence} {n:Nat} {P:Program}
theorem wpIn_rangeFunc_ownN {g:Operand} {ps:Array Tmp} {assign body:Code} {Q:Exit->Act->World->Prop} {a:Act} {w:World}
  (hro:F.round=none) (h1:1<=n) {gf:Nat} {lb:Array Value} (hg:a.eval g=.func (.func gf) #[] lb) (hFg:F.fn gf) (eg:∀ args w,(callFunc gf args).run P w=.ok (.enter gf args) w)
  {encs:Nat->Array Value} {Kp:World->World->Prop} {N:Nat} {w0:World} (hseq:SeqO F (n - 1) P gf lb encs Kp N w0)
  (hKt:∀ {A B C:World},Kp A B->Kp B C->Kp A C) (hKb:∀ (W:World) (l:Nat) (o o':Obj),w.heap.size<=l->W.heap[l]?=some o->o.isCells=false->o.isWalk=false->Kp W (W.putObj l o')) (hb0:Below w0.heap.size w0 w) (hps:∀ k,k<N->(encs k).size=ps.size)
  (I:Nat->World->Prop) (Ix:Code->Nat->World->Prop) (hI:OwnFrom w.heap.size I) (hIx:∀ c,OwnFrom w.heap.size (Ix c)) (h0:I 0 w) (I₁:Nat->Act->World->Prop) (hI₁:∀ a',OwnFrom w.heap.size (fun k W=>I₁ k a' W))
  (hassign:∀ (l:Nat) (x:Nat) (W:World) (K:Act->World->Prop),x<N->I x W->(∀ a' W',KeepsFrom w.heap.size W W'->Kp W W'->I₁ x a' W'->K a' W') ->
   assign.wpIn (F.inRound l) (n - 1 - 1) P (Exit.then K (fun _ _ _=>False)) { tmps:=(ps.zip (encs x)).foldl (fun t (p,v)=>t.setIfInBounds p v) a.tmps,defers:=[] } W)
  (hbody:∀ (l:Nat) (k:Nat) (a':Act) (W:World),I₁ k a' W->k<N->body.wpIn (F.inRound l) (n - 1 - 1) P (ownPostN w.heap.size Kp I Ix (k+1) W) a' W)
  (hdone:∀ (D:Nat) (W:World),w.heap.size<=D->I N W->W.heap[D]?=some (.deferred (some []))->Q .normal { a with defers:={ target:=.collected D,args:=#[] }::a.defers } W)
  (hstop:∀ (D:Nat) (c:Code) (k:Nat) (W:World),w.heap.size<=D->k<=N->Ix c k W->W.heap[D]?=some (.deferred (some []))->c.wpIn F n P Q { a with defers:={ target:=.collected D,args:=#[] }::a.defers } W) :
  (Code.rangeFunc g ps assign body).wpIn F n P Q a w:=by
 refine wpIn_rangeFunc ?_;intro fn hfn;rw [hro];obtain ⟨rec,hrec⟩:∃ rec:LoopState->Option Code->Loop,rec=fun st pe=>{ state:=st,pending:=pe,fn,tmps:=a.tmps,params:=ps,assign,body,defers:=w.heap.size }:=⟨_,rfl⟩
 obtain ⟨W1,hW1⟩:∃ W1,(w.alloc (.deferred (some []))).alloc (.loop (rec .ready none))=W1:=⟨_,rfl⟩;have hL1:W1.heap[w.heap.size+1]?=some (.loop (rec .ready none)):=by
  rw [<- hW1];have:=World.alloc_heap_new (w.alloc (.deferred (some []))) (.loop (rec .ready none));rwa [World.size_alloc] at this
 have hK1:W1.heap[w.heap.size]?=some (.deferred (some [])):=by
  rw [<- hW1];exact (Below.heap_alloc _ _ _ (by simp)).trans (World.alloc_heap_new w _)
 have hI1:I 0 W1:=by rw [<- hW1];exact hI.alloc _ (hI.alloc _ h0)
 have hb1:Below w0.heap.size w0 W1:=by
  rw [<- hW1];exact hb0.trans ((((Below.refl _ w).alloc (Nat.le_refl _) _).alloc (by simp) _).mono hb0.size)
 refine ⟨w.heap.size+1,[{ target:=.collected w.heap.size,args:=#[] }],W1,{ target:=.fn (.func gf) lb,args:=#[.func (.yield (w.heap.size+1)) #[] #[]] },W1,gf,
  #[.func (.yield (w.heap.size+1)) #[] #[]]++lb,W1,?_,?_,?_,?_,fun _=>h1,?_⟩
 ·rw [<- hW1,hrec];exact run_enterLoop_outer _ _ _ _ _
 ·simp only [resolve,hg]
  simp [go_sem]
 ·intro f' hf';simp [Target.leads] at hf';subst hf';exact hFg
 ·simp [invoke,go_sem,eg]
 ·-- THE ITERATOR's CONTRACT,AT THE CALLER's INVARIANT WITH THE TWO FACTS OF BOOK-KEEPING BESIDE IT
  have hnw:∀ {A B:World} {row:Option Nat},(∀ r,row=some r->W1.heap.size<=r /\ ∃ o:Obj,A.heap[r]?=some o /\ o.isWalk=true)->(∀ r,row=some r->w.heap.size<=r /\ ∃ o:Obj,A.heap[r]?=some o /\ o.isCells=false) :=
   fun hr r e=>by obtain ⟨hB,o,ho,hw⟩:=hr r e;exact ⟨by rw [<- hW1] at hB;simp at hB;omega,o,ho,Obj.not_cells_of_walk hw⟩
  refine (hseq (w.heap.size+1)
   (fun pre W=>I pre W /\ W.heap[w.heap.size+1]?=some (.loop (rec .ready none)) /\ W.heap[w.heap.size]?=some (.deferred (some [])))
   (fun pre W=>∃ c,Ix c pre W /\ W.heap[w.heap.size+1]?=some (.loop (rec .done (some c))) /\ W.heap[w.heap.size]?=some (.deferred (some [])))
   W1 hb1
   (fun s A B row hs hg' hr=>⟨hI s A B row hs.1 hg' (hnw (B:=B) hr),(grownBy_keeps hg' (fun r e=>(hr r e).2) hs.2.1 rfl).trans hs.2.1,(grownBy_keeps hg' (fun r e=>(hr r e).2) hs.2.2 rfl).trans hs.2.2⟩)
   (fun s A B row hs hg' hr=>by
    obtain ⟨c,hc,hl,hk⟩:=hs;exact ⟨c,hIx c s A B row hc hg' (hnw (B:=B) hr),(grownBy_keeps hg' (fun r e=>(hr r e).2) hl rfl).trans hl,(grownBy_keeps hg' (fun r e=>(hr r e).2) hk rfl).trans hk⟩)
   ?_ ⟨hI1,hL1,hK1⟩).mono ?_
  ·-- ONE ROUND
   rintro k W ⟨hi,hl,hk⟩ hlen;have hlt:w.heap.size+1<W.heap.size:=(Array.getElem?_eq_some_iff.1 hl).1;have hy:=run_yield (P:=P) (args:=encs k) hl (by rw [hrec];exact hps k hlen)
   rw [hrec] at hy;refine ⟨fn,_,assign,body,hy,roundIn_of_wpIn hfn (hassign _ k W _ hlen hi ?_)⟩;intro a' Wa hka hkpa hia;have hla:=hka.same _ _ (by omega) hl rfl
   have hkk:=hka.same _ _ (Nat.le_refl _) hk rfl;have hlta:w.heap.size+1<Wa.heap.size:=(Array.getElem?_eq_some_iff.1 hla).1;refine ⟨_,run_beginRound hla (by rw [hrec]),?_⟩
   have hl2:(Wa.putObj (w.heap.size+1) (.loop { rec .ready none with state:=.busy })).heap[w.heap.size+1]?=some (.loop { rec .ready none with state:=.busy }):=World.putObj_heap_same hlta;have hk2:(Wa.putObj (w.heap.size+1) (.loop { rec .ready none with state:=.busy })).heap[w.heap.size]?=some (.deferred (some [])):=(World.putObj_heap_other (by omega)).trans hkk
   have hw2:Kp W (Wa.putObj (w.heap.size+1) (.loop { rec .ready none with state:=.busy })):=hKt hkpa (hKb _ _ _ _ (by omega) hla rfl rfl)
   refine wpIn_mono (hbody _ k _ _ ((hI₁ a').putObj _ hia (by omega) hla rfl) hlen) ?_
   have fin:∀ (jump:Option Code) (W3:World),KeepsFrom w.heap.size (Wa.putObj (w.heap.size+1) (.loop { rec .ready none with state:=.busy })) W3 ->
     (Instr.endRound (w.heap.size+1) jump).run P W3=.ok (.bool jump.isNone) (W3.putObj (w.heap.size+1) (.loop (rec (if jump.isNone then .ready else .done) jump))) /\
     W3.heap[w.heap.size+1]?=some (.loop { rec .ready none with state:=.busy }) /\
     (W3.putObj (w.heap.size+1) (.loop (rec (if jump.isNone then .ready else .done) jump))).heap[w.heap.size+1]?=some (.loop (rec (if jump.isNone then .ready else .done) jump)) /\
     (W3.putObj (w.heap.size+1) (.loop (rec (if jump.isNone then .ready else .done) jump))).heap[w.heap.size]?=some (.deferred (some [])):=fun jump W3 hk3=>by
    have hl3:=hk3.same _ _ (by omega) hl2 rfl
    have:=run_endRound (P:=P) jump hl3;rw [hrec] at this ⊢;exact ⟨this,by rw [hrec] at hl3;exact hl3,World.putObj_heap_same (Array.getElem?_eq_some_iff.1 hl3).1,(World.putObj_heap_other (by omega)).trans (hk3.same _ _ (Nat.le_refl _) hk2 rfl)⟩
   rintro e a3 W3 hp
   cases e with
   | normal =>
    obtain ⟨hk3,hkp3,hi3⟩:=hp;obtain ⟨hr,hl3,hl4,hk4⟩:=fin none W3 hk3;exact ⟨_,_,hr,.inl ⟨rfl,⟨hI.putObj _ hi3 (by omega) hl3 rfl,hl4,hk4⟩,hKt (hKt hw2 hkp3) (hKb _ _ _ _ (by omega) hl3 rfl rfl)⟩⟩
   | ret =>
    obtain ⟨hk3,hi3⟩:=hp;obtain ⟨hr,hl3,hl4,hk4⟩:=fin (some .ret) W3 hk3;exact ⟨_,_,hr,.inr ⟨rfl,.ret,(hIx _).putObj _ hi3 (by omega) hl3 rfl,hl4,hk4⟩⟩
   | exit id =>
    obtain ⟨hk3,hi3⟩:=hp;obtain ⟨hr,hl3,hl4,hk4⟩:=fin (some (.exit id)) W3 hk3;exact ⟨_,_,hr,.inr ⟨rfl,.exit id,(hIx _).putObj _ hi3 (by omega) hl3 rfl,hl4,hk4⟩⟩
   | goto t =>
    obtain ⟨hk3,hi3⟩:=hp;obtain ⟨hr,hl3,hl4,hk4⟩:=fin (some (.goto t)) W3 hk3;exact ⟨_,_,hr,.inr ⟨rfl,.goto t,(hIx _).putObj _ hi3 (by omega) hl3 rfl,hl4,hk4⟩⟩
   | panic ch=>exact hp.elim
   | outgrown=>exact hp.elim
  ·-- BEHIND THE ITERATOR
   rintro e W2 ⟨⟨v,rfl⟩,(⟨hi,hl,hk⟩ | ⟨k,hkN,c,hi,hl,hk⟩)⟩
   ·exact ⟨none,_,by have:=run_endLoop (P:=P) hl (by rw [hrec];simp);rw [hrec] at this;exact this,hdone _ _ (Nat.le_refl _) (hI.putObj _ hi (by omega) hl rfl) ((World.putObj_heap_other (by omega)).trans hk)⟩
   ·exact ⟨some c,_,by have:=run_endLoop (P:=P) hl (by rw [hrec];simp);rw [hrec] at this;exact this,hstop _ c k _ (Nat.le_refl _) hkN ((hIx c).putObj _ hi (by omega) hl rfl) ((World.putObj_heap_other (by omega)).trans hk)⟩
theorem wpIn_rangeFunc_ownT {g:Operand} {ps:Array Tmp} {assign body:Code} {Q:Exit->Act->World->Prop} {tm:Array Value} {ds:List Deferred} {w:World}
  (hro:F.round=none) (h1:1<=n) {gf:Nat} {lb:Array Value} (hg:({ tmps:=tm,defers:=ds }:Act).eval g=.func (.func gf) #[] lb) (hFg:F.fn gf) (eg:∀ args w,(callFunc gf args).run P w=.ok (.enter gf args) w)
  {encs:Nat->Array Value} {Kp:World->World->Prop} {N:Nat} {w0:World} (hseq:SeqO F (n - 1) P gf lb encs Kp N w0)
  (hKt:∀ {A B C:World},Kp A B->Kp B C->Kp A C) (hKb:∀ (W:World) (l:Nat) (o o':Obj),w.heap.size<=l->W.heap[l]?=some o->o.isCells=false->o.isWalk=false->Kp W (W.putObj l o')) (hb0:Below w0.heap.size w0 w) (hps:∀ k,k<N->(encs k).size=ps.size)
  (I:Nat->World->Prop) (Ix:Code->Nat->World->Prop) (hI:OwnFrom w.heap.size I) (hIx:∀ c,OwnFrom w.heap.size (Ix c)) (h0:I 0 w) (I₁:Array Value->Nat->Act->World->Prop) (hI₁:∀ a',OwnFrom w.heap.size (fun k W=>I₁ tm k a' W))
  (hassign:∀ (l:Nat) (x:Nat) (W:World) (K:Act->World->Prop),x<N->I x W->(∀ a' W',KeepsFrom w.heap.size W W'->Kp W W'->I₁ tm x a' W'->K a' W') ->
   assign.wpIn (F.inRound l) (n - 1 - 1) P (Exit.then K (fun _ _ _=>False)) { tmps:=(ps.zip (encs x)).foldl (fun t (p,v)=>t.setIfInBounds p v) tm,defers:=[] } W)
  (hbody:∀ (l:Nat) (k:Nat) (a':Act) (W:World),I₁ tm k a' W->k<N->body.wpIn (F.inRound l) (n - 1 - 1) P (ownPostN w.heap.size Kp I Ix (k+1) W) a' W)
  (hdone:∀ (D:Nat) (W:World),w.heap.size<=D->I N W->W.heap[D]?=some (.deferred (some []))->Q .normal { tmps:=tm,defers:={ target:=.collected D,args:=#[] }::ds } W)
  (hstop:∀ (D:Nat) (c:Code) (k:Nat) (W:World),w.heap.size<=D->k<=N->Ix c k W->W.heap[D]?=some (.deferred (some []))->c.wpIn F n P Q { tmps:=tm,defers:={ target:=.collected D,args:=#[] }::ds } W) :
  (Code.rangeFunc g ps assign body).wpIn F n P Q { tmps:=tm,defers:=ds } w :=
 wpIn_rangeFunc_ownN hro h1 hg hFg eg hseq hKt hKb hb0 hps I Ix hI hIx h0 (I₁ tm) hI₁ hassign hbody hdone hstop
theorem KeepsFrom.grown {B:Nat} {W W':World} {row:Option Nat} (hg:W.grownBy W' row) (hrow:∀ j,row=some j->j<B∨∃ c t fz,W.heap[j]?=some (.cells c t fz)):KeepsFrom B W W' :=
 ⟨hg.size,fun k o hB hk ho=>(hg.block k (Array.getElem?_eq_some_iff.1 hk).1 (fun e=>by
  rcases hrow k e.symm with h | ⟨c,t,fz,h⟩
  ·omega
  ·rw [hk] at h;injection h with h;subst h;cases ho)).trans hk⟩
end
def laidF (tm:Array Value) (S:List Nat) (u:Nat->Value):Array Value:=S.foldl (fun t i=>t.setIfInBounds i (u i)) tm
theorem wp_loop_free {P:Program} {Q:Exit->Act->World->Prop} {tm:Array Value} {ds:List Deferred} {w:World} {c:Code} (S:List Nat) (rel:Nat->(Nat->Value)->List Deferred->World->Prop) (n₀:Nat)
  (h₀:rel n₀ (fun i=>tm.getD i undef) ds w /\ tm=laidF tm S (fun i=>tm.getD i undef))
  (round:∀ n u ds w,rel n u ds w->∀ (J:Nat->Act->World->Prop) (K:Act->World->Prop),(∀ k a' w',rel k (fun i=>a'.tmps.getD i undef) a'.defers w'->a'.tmps=laidF tm S (fun i=>a'.tmps.getD i undef)->J k a' w')->(∀ a' w',Handed J n a' w'->K a' w') ->
   c.wp P (Exit.then K Q) { tmps:=laidF tm S u,defers:=ds } w):(Code.loop c).wp P Q { tmps:=tm,defers:=ds } w :=
 wp_loop_ghost_k (fun k a w=>∃ u ds,rel k u ds w /\ a={ tmps:=laidF tm S u,defers:=ds }) n₀ ⟨_,ds,h₀.1,by rw [<- h₀.2]⟩ fun n a w h J K hJ hK=>by
  obtain ⟨u,ds,hr,rfl⟩:=h;exact round n u ds w hr J K (fun k a' w' h1 h2=>hJ k a' w' ⟨_,_,h1,by rw [<- h2]⟩) hK
def marksD (ds:List Nat):List Deferred:=ds.map fun D=>{ target:=.collected D,args:=#[] }
structure MarksAt (ds:List Nat) (w:World):Prop where
 here:∀ D∈ds,w.heap[D]?=some (.deferred (some []))
 apart:ds.Nodup
theorem MarksAt.nil (w:World):MarksAt [] w:=⟨by simp,List.nodup_nil⟩
theorem MarksAt.cons {ds:List Nat} {w:World} (h:MarksAt ds w) {D:Nat} (hD:w.heap[D]?=some (.deferred (some []))) (hn:D ∉ ds):MarksAt (D::ds) w :=
 ⟨fun E hE=>(List.mem_cons.1 hE).elim (fun e=>by rw [e];exact hD) (h.here E),List.nodup_cons.2 ⟨hn,h.apart⟩⟩
structure ShutD (ds:List Nat) (w w':World):Prop where
 os:w'.os=w.os
 tape:w'.tape=w.tape
 output:w'.output=w.output
 size:w'.heap.size=w.heap.size
 block:∀ b,b ∉ ds->w'.heap[b]?=w.heap[b]?
theorem leaves_marks {F:Fence} {n:Nat} {P:Program} {fn:Func} {tmps:Array Value} {R:Ending->World->Prop} {u:FrameMode} (hu:u≠.run):∀ (ds:List Nat) (w:World),MarksAt ds w ->
  (∀ w',ShutD ds w w'->LeavesIn F n P fn tmps R [] u w')->LeavesInM F n P fn tmps R (marksD ds) u w
 | [],w,_,h=>h w ⟨rfl,rfl,rfl,rfl,fun _ _=>rfl⟩
 | D::ds,w,hm,h=>by
  have hD:=hm.here D (by simp)
  have hnd:=List.nodup_cons.1 hm.apart;refine ⟨hu,.inl ⟨D,_,rfl,run_takeDeferred hD,?_⟩⟩;refine leaves_marks hu ds _ ⟨fun E hE=>?_,hnd.2⟩ (fun w' hw'=>h w' ⟨hw'.os,hw'.tape,hw'.output,hw'.size.trans (by simp [World.putObj]),fun b hb=>?_⟩)
  ·rw [World.putObj_heap_other (by rintro rfl;exact hnd.1 hE)]
   exact hm.here E (by simp [hE])
  ·simp only [List.mem_cons,not_or] at hb
   rw [hw'.block b hb.2,World.putObj_heap_other hb.1]
def PostL (P:Program) (fn:Func) (R:Ending->World->Prop):Exit->Act->World->Prop
 | .normal,a,w=>∃ ds,a.defers=marksD ds /\ MarksAt ds w /\ ∀ w',ShutD ds w w'->∃ v,(results fn a.tmps).run P w'=.ok v w' /\ R (.returned v) w'
 | .ret,a,w=>∃ ds,a.defers=marksD ds /\ MarksAt ds w /\ ∀ w',ShutD ds w w'->∃ v,(results fn a.tmps).run P w'=.ok v w' /\ R (.returned v) w'
 | .panic chain,a,w=>∃ ds,a.defers=marksD ds /\ MarksAt ds w /\ ∀ w',ShutD ds w w'->R (.panicked chain) w'
 | _,_,_=>False
theorem calls_of_wp_post {P:Program} {f:FuncId} {fn:Func} {c:Code} {args:Array Value} {w:World} {R:Ending->World->Prop} (hf:P.funcs[f]?=some fn) (hb:fn.body=some c)
  (h:c.wp P (PostL P fn R) { tmps:=args++Array.replicate (fn.ntmps - args.size) undef,defers:=[] } w):Calls P f args w R:=by
 refine (callsIn_wide (n:=5)).1 (callsIn_of_wp_marks hf hb trivial (wpIn_wide.2 (wp_mono h ?_)) rfl);rintro e a w hq
 cases e with
 | normal =>
  obtain ⟨ds,h1,h2,h3⟩:=hq
  show LeavesInM _ _ _ _ _ _ a.defers _ _
  rw [h1];exact leaves_marks (by intro h;cases h) ds w h2 h3
 | ret =>
  obtain ⟨ds,h1,h2,h3⟩:=hq
  show LeavesInM _ _ _ _ _ _ a.defers _ _
  rw [h1];exact leaves_marks (by intro h;cases h) ds w h2 h3
 | panic chain =>
  obtain ⟨ds,h1,h2,h3⟩:=hq
  show LeavesInM _ _ _ _ _ _ a.defers _ _
  rw [h1];exact leaves_marks (by intro h;cases h) ds w h2 h3
 | exit _=>exact hq.elim
 | goto _=>exact hq.elim
 | outgrown=>exact hq.elim
end Go.Proofs.YthiochcpmfkgcaaGreatDoor.Mx
namespace Go.Proofs.YthiochcpmfkgcaaGreatDoor.Mx
open Go Go.RowKit
structure WideF (F:Fence):Prop where
 fn:∀ f,F.fn f
 dep:F.depth=none
 calls:∀ {n:Nat} {P:Program} {f:FuncId} {args:Array Value} {w:World} {R:Ending->World->Prop},Calls P f args w R->CallsIn F n P f args w R
 rows:∀ {n:Nat} {P:Program} {row:String} {args:Array Value} {w:World} {R:Value->World->Prop},Rows P row args w R->RowsIn F n P row args w R
theorem wideF_wide:WideF Fence.wide :=
 ⟨fun _=>trivial,rfl,fun h=>callsIn_wide.2 h,fun h c cs _=>by
  obtain ⟨v,w',r,s⟩:=h c cs;exact ⟨v,w',r,stepsIn_wide.2 s⟩⟩
theorem WideF.inRound {F:Fence} (h:WideF F) (l:Nat):WideF (F.inRound l):=⟨h.fn,h.dep,fun hc=>h.calls hc,fun hr=>h.rows hr⟩
section
variable {F:Fence} {n:Nat} {P:Program} {ops:Array Oper} {md:Region.Mode} {w:World}
theorem wpIn_of_wp_ (hF:WideF F) {o:Oper} {a:Act} {K:Act->World->Prop} {Q:Exit->Act->World->Prop} (hd:∀ c,o.op≠.defer c) (h:o.wp P a w K Q):o.wpIn F n P a w K Q:=by
 have hdep:F.depth.isSome=true->1<=n:=by rw [hF.dep];intro h;cases h
 unfold Oper.wp at h;unfold Oper.wpIn;refine ⟨fun f _=>hF.fn f,?_⟩
 rw [Oper.semAt_plain F _ _ hd];generalize (execOp a.eval o).run P w=r at *
 cases r with
 | ok x w' =>
  cases x <;> simp only [Oper.upon] at h <;> simp only [Oper.uponIn]
  case value u=>exact h
  case skip=>exact h
  case defer d=>exact h
  case enter f args=>exact ⟨hdep,hF.calls h⟩
  case row row args=>exact ⟨hdep,hF.rows h⟩
 | halt x w' =>
  cases x <;> simp only [Oper.upon] at h <;> simp only [Oper.uponIn]
  case panic v=>exact h
theorem wpOpIn_of_wpOp (hF:WideF F) {Q:Exit->Act->World->Prop} (hd:∀ (i:Nat) (o:Oper),ops[i]?=some o->∀ c,o.op≠.defer c) (hQ:¬ LetsOut Q) {i:Nat} {K K':Act->World->Prop} {a:Act} (h:∀ a w,K a w->K' a w) (hh:wpOp P ops Q i K a w):wpOpIn F n P ops Q i K' a w:=by
 unfold wpOp at hh;unfold wpOpIn
 cases ho:ops[i]? with
 | none=>simp only [ho] at hh ⊢;exact h _ _ hh
 | some o =>
  simp only [ho] at hh ⊢
  cases hw:Region.wanted o (yielded ops a.tmps) with
  | true =>
   simp only [hw,if_true] at hh ⊢
   rcases hh with hh | hh
   ·exact wpIn_of_wp_ hF (hd i o ho) (Oper.wp_mono h hh)
   ·exact absurd hh.2 hQ
  | false =>
   simp only [hw,Bool.false_eq_true,if_false] at hh ⊢;exact ⟨fun f _=>hF.fn f,h _ _ hh⟩
theorem wpAnyIn_of_wpAny (hF:WideF F) {Q:Exit->Act->World->Prop} (hd:∀ (i:Nat) (o:Oper),ops[i]?=some o->∀ c,o.op≠.defer c) (hQ:¬ LetsOut Q):∀ (fuel:Nat) (listed:Array Bool) (a:Act) (w:World),wpAny P md ops Q fuel listed a w->wpAnyIn F n P md ops Q fuel listed a w
 | 0,_,_,_,h=>h
 | fuel+1,_,_,_,h=>⟨h.1,fun i hi=>wpOpIn_of_wpOp hF hd hQ (fun a w=>wpAnyIn_of_wpAny hF hd hQ fuel _ a w) (h.2 i hi)⟩
theorem wpIn_region_out (hF:WideF F) {id:Nat} {Q:Exit->Act->World->Prop} {a:Act} {l:List Oper} (hm:P.follows .mixedOrders=true) (hn:noDefer l=true) (hQ:¬ LetsOut Q) (h:wpAny P .any l.toArray Q l.toArray.size (Array.replicate l.toArray.size false) a w.drew) :
  (Code.region id l.toArray true).wpIn F n P Q a w :=
 wpIn_region_any hm (wpAnyIn_of_wpAny hF (fun i o ho=>noDefer_spec hn (by simpa using ho)) hQ _ _ _ _ h)
theorem wpOpIn_of_stOp (hF:WideF F) {Q:Exit->Act->World->Prop} (hd:∀ (i:Nat) (o:Oper),ops[i]?=some o->∀ c,o.op≠.defer c) {i:Nat} {K:Act->Prop} {K':Act->World->Prop} {a:Act} (h:∀ a,K a->K' a w) (hh:stOp P ops w i K a):wpOpIn F n P ops Q i K' a w:=by
 unfold stOp at hh;unfold wpOpIn
 cases ho:ops[i]? with
 | none=>simp only [ho] at hh ⊢;exact h _ hh
 | some o =>
  simp only [ho] at hh ⊢
  cases hw:Region.wanted o (yielded ops a.tmps) with
  | true =>
   simp only [hw,if_true] at hh ⊢;exact wpIn_of_wp_ hF (hd i o ho) (Oper.wp_of_still h hh)
  | false =>
   simp only [hw,Bool.false_eq_true,if_false] at hh ⊢;exact ⟨fun f _=>hF.fn f,h _ hh⟩
theorem wpAnyIn_of_head (hF:WideF F) {m g:Nat} {L:Array Bool->Act->Prop} {Q':Exit->Act->World->Prop} (hd:∀ (i:Nat) (o:Oper),ops[i]?=some o->∀ c,o.op≠.defer c) (hL:∀ listed a,L listed a->wpAnyIn F n P md ops Q' g listed a w) :
  ∀ (f:Nat) (listed:Array Bool) (a:Act),wpAnyL P md ops w m L f listed a->wpAnyIn F n P md ops Q' (f+g) listed a w
 | 0,listed,a,h=>by rw [Nat.zero_add];exact hL _ _ h
 | f+1,listed,a,h=>by
  rw [show f+1+g=(f+g)+1 by omega]
  exact ⟨fun h0=>absurd h0 h.1,fun i hi=>wpOpIn_of_stOp hF hd (fun a' h'=>wpAnyIn_of_head hF hd hL f _ a' h') (h.2 i hi).2⟩
theorem wpAnyIn_of_seq {Q':Exit->Act->World->Prop}:∀ (l:List Oper) (k:Nat) (listed:Array Bool) (a:Act) (w:World),(∀ j,l[j]?=ops[k+j]?) ->
  Region.seqB md ops l.length k listed=true->wpListIn F n P ops Q' l a w->wpAnyIn F n P md ops Q' l.length listed a w
 | [],_,_,_,_,_,hB,h=>⟨by simpa [Region.seqB] using hB,h⟩
 | o::l,k,listed,a,w,hl,hB,h=>by
  have h0:ops[k]?=some o:=by simpa using (hl 0).symm
  simp only [List.length_cons,Region.seqB,Bool.and_eq_true,decide_eq_true_eq] at hB;refine ⟨fun h1=>(by rw [hB.1] at h1;cases h1),fun i hi=>?_⟩
  rw [hB.1] at hi;have hik:i=k:=by simpa using hi
  subst hik;have hw:wpOpIn F n P ops Q' i (wpListIn F n P ops Q' l) a w:=by unfold wpOpIn;simp only [h0];exact h
  exact wpOpIn_mono (fun a' w' h'=>wpAnyIn_of_seq l (i+1) _ a' w' (fun j=>by have:=hl (j+1);simpa [Nat.add_assoc,Nat.add_comm 1 j] using this) hB.2 h') hw
theorem wpIn_region_still_tail (hF:WideF F) {id:Nat} {Q:Exit->Act->World->Prop} {a:Act} {l:List Oper} (m:Nat) (hm:P.follows .mixedOrders=true) (hnd:noDefer l=true) (hB:Region.lexTailB .any l.toArray m=true)
  (h:wpStill P l.toArray w.drew (fun a'=>wpListIn F n P l.toArray Q (l.drop m) a' w.drew) (l.take m) a):(Code.region id l.toArray true).wpIn F n P Q a w:=by
 simp only [Region.lexTailB,Bool.and_eq_true,decide_eq_true_eq] at hB;obtain ⟨⟨⟨⟨hsel,hn⟩,hs⟩,hc⟩,hlex⟩:=hB;have hn':m<l.length:=by simpa using hn
 have htl:(l.take m).length=m:=by simp;omega
 have hdl:(l.drop m).length=l.toArray.size - m:=by simp
 have hd:∀ (i:Nat) (o:Oper),l.toArray[i]?=some o->∀ c,o.op≠.defer c:=fun i o ho=>noDefer_spec hnd (by simpa using ho)
 have inv0:HeadInv .any l.toArray m (Array.replicate l.toArray.size false) :=
  ⟨by simp,fun j oj _ hl=>(by rw [getD_replicate_false] at hl;cases hl),fun t _ ht=>getD_in (by simpa using ht) (getD_replicate_false _ _)⟩
 have H:=wpAnyL_lex (md:=.any) (g:=l.toArray.size - m) hsel hs hc hn (l.take m) 0 _ a (fun j hj=>by
  have hj':j<m:=by rw [htl] at hj;exact hj
  simp [hj']) (by simpa using htl) inv0 (by rw [htl];exact hlex) h
 refine wpIn_region_any hm ?_;have:=wpAnyIn_of_head hF (n:=n) (Q':=Q) (g:=l.toArray.size - m) hd (fun listed a' hL=>by
  have:=wpAnyIn_of_seq (F:=F) (n:=n) (P:=P) (md:=.any) (Q':=Q) (l.drop m) m listed a' w.drew (fun j=>by simp [List.getElem?_drop]) (by rw [hdl];exact hL.1) hL.2
  rwa [hdl] at this) _ _ _ H
 rw [htl,show m+(l.toArray.size - m)=l.toArray.size by omega] at this
 exact this
/-! Moves of a walk by hand in a region whose readers yield the same in every world that meets S. -/
theorem wanted_none {o:Oper} (h:o.guard=none) (b:Nat->Option Bool):Region.wanted o b=true:=by simp [Region.wanted,h]
theorem held_take {S:World->Prop} {Q:Exit->Act->World->Prop} {i:Nat} {oi:Oper} {v:Value} {fuel:Nat} {listed:Array Bool} {a:Act} {w:World} (hi:ops[i]?=some oi)
  (hc:(Region.noSelect ops&&Region.free md ops listed i&&(Region.ready md ops listed).contains i)=true) (hg:oi.guard=none)
  (hQ:∀ c a w,Q (.panic c) (a.put oi.dst v) w->Q (.panic c) a w) (hy:∀ W,S W->(execOp a.eval oi).run P W=.ok (.value v) W) (hS:S w)
  (h:wpAnyH P md ops Q S fuel (listed.setIfInBounds i true) (a.put oi.dst v) w):wpAnyH P md ops Q S (fuel+1) listed a w:=by
 simp only [Bool.and_eq_true] at hc;exact wpAnyH_take hi hc.1.1 hc.1.2 hc.2 hQ (.inl ⟨wanted_none hg _,hy⟩) hS h
theorem wpOp_do {Q:Exit->Act->World->Prop} {i:Nat} {o:Oper} {K:Act->World->Prop} {a:Act} {w:World} (hi:ops[i]?=some o) (hg:o.guard=none) (h:o.wp P a w K Q):wpOp P ops Q i K a w:=by
 unfold wpOp;simp only [hi,wanted_none hg,if_true];exact .inl h
theorem held_one {S:World->Prop} {Q:Exit->Act->World->Prop} {i:Nat} {o:Oper} {fuel:Nat} {listed:Array Bool} {a:Act} {w:World} (hr:Region.ready md ops listed=[i]) (hi:ops[i]?=some o) (hg:o.guard=none)
  (h:∀ K:Act->World->Prop,(∀ a' w',S w'->wpAnyH P md ops Q S fuel (listed.setIfInBounds i true) a' w'->K a' w')->o.wp P a w K Q):wpAnyH P md ops Q S (fuel+1) listed a w :=
 wpAnyH_all hr (by simp) (fun j hj=>by rw [List.mem_singleton] at hj;subst hj;exact wpOp_do hi hg (h _ fun _ _ h1 h2=>⟨h1,h2⟩))
theorem held_two {S:World->Prop} {Q:Exit->Act->World->Prop} {i j:Nat} {o o':Oper} {fuel:Nat} {listed:Array Bool} {a:Act} {w:World} (hr:Region.ready md ops listed=[i,j]) (hi:ops[i]?=some o) (hg:o.guard=none) (hj:ops[j]?=some o') (hg':o'.guard=none)
  (h:∀ K:Act->World->Prop,(∀ a' w',S w'->wpAnyH P md ops Q S fuel (listed.setIfInBounds i true) a' w'->K a' w')->o.wp P a w K Q)
  (h':∀ K:Act->World->Prop,(∀ a' w',S w'->wpAnyH P md ops Q S fuel (listed.setIfInBounds j true) a' w'->K a' w')->o'.wp P a w K Q):wpAnyH P md ops Q S (fuel+1) listed a w :=
 wpAnyH_all hr (by simp) (fun k hk=>by
  rcases List.mem_cons.1 hk with rfl | hk
  ·exact wpOp_do hi hg (h _ fun _ _ h1 h2=>⟨h1,h2⟩)
  ·rw [List.mem_singleton] at hk;subst hk;exact wpOp_do hj hg' (h' _ fun _ _ h1 h2=>⟨h1,h2⟩))
end
end Go.Proofs.YthiochcpmfkgcaaGreatDoor.Mx
