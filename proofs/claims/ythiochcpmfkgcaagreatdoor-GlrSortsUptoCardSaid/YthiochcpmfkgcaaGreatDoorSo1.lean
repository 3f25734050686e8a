/- Walks and plain laws that the last text stands on: RowsA, RangeA, ConcT, GlA. -/
import Derived.Lib.Hide
import Derived.WalkSpells
import Derived.WalkLawsBesides
import Derived.Handy
import Derived.Deep.LoopGhost
import Derived.Lib.BufferRead
import Derived.Deep.AppendLies
import Derived.OwnWalkIn
import Derived.RangeFuncNested
import Derived.RangeFuncBound
import Derived.Sort.QuietIn
import Derived.Sort.Grow
import Derived.StillTailTactics
import Derived.OrdersHeld
set_option linter.unusedVariables false
set_option linter.unusedSimpArgs false
set_option maxRecDepth 100000
set_option maxHeartbeats 16000000
theorem Go.Proofs.YthiochcpmfkgcaaGreatDoor.A3 {a b c:Prop} (h0:a) (h1:b) (h2:c):a /\ b /\ c:=⟨h0,h1,h2⟩
theorem Go.Proofs.YthiochcpmfkgcaaGreatDoor.A4 {a b c d:Prop} (h0:a) (h1:b) (h2:c) (h3:d):a /\ b /\ c /\ d:=⟨h0,h1,h2,h3⟩
theorem Go.Proofs.YthiochcpmfkgcaaGreatDoor.A5 {a b c d e:Prop} (h0:a) (h1:b) (h2:c) (h3:d) (h4:e):a /\ b /\ c /\ d /\ e:=⟨h0,h1,h2,h3,h4⟩
theorem Go.Proofs.YthiochcpmfkgcaaGreatDoor.A6 {a b c d e f:Prop} (h0:a) (h1:b) (h2:c) (h3:d) (h4:e) (h5:f):a /\ b /\ c /\ d /\ e /\ f:=⟨h0,h1,h2,h3,h4,h5⟩
theorem Go.Proofs.YthiochcpmfkgcaaGreatDoor.A7 {a b c d e f g:Prop} (h0:a) (h1:b) (h2:c) (h3:d) (h4:e) (h5:f) (h6:g):a /\ b /\ c /\ d /\ e /\ f /\ g:=⟨h0,h1,h2,h3,h4,h5,h6⟩
theorem Go.Proofs.YthiochcpmfkgcaaGreatDoor.A8 {a b c d e f g h:Prop} (h0:a) (h1:b) (h2:c) (h3:d) (h4:e) (h5:f) (h6:g) (h7:h):a /\ b /\ c /\ d /\ e /\ f /\ g /\ h:=⟨h0,h1,h2,h3,h4,h5,h6,h7⟩
theorem Go.Proofs.YthiochcpmfkgcaaGreatDoor.A9 {a b c d e f g h i:Prop} (h0:a) (h1:b) (h2:c) (h3:d) (h4:e) (h5:f) (h6:g) (h7:h) (h8:i):a /\ b /\ c /\ d /\ e /\ f /\ g /\ h /\ i:=⟨h0,h1,h2,h3,h4,h5,h6,h7,h8⟩
theorem Go.Proofs.YthiochcpmfkgcaaGreatDoor.A10 {a b c d e f g h i j:Prop} (h0:a) (h1:b) (h2:c) (h3:d) (h4:e) (h5:f) (h6:g) (h7:h) (h8:i) (h9:j):a /\ b /\ c /\ d /\ e /\ f /\ g /\ h /\ i /\ j:=⟨h0,h1,h2,h3,h4,h5,h6,h7,h8,h9⟩
theorem Go.Proofs.YthiochcpmfkgcaaGreatDoor.A11 {a b c d e f g h i j k:Prop} (h0:a) (h1:b) (h2:c) (h3:d) (h4:e) (h5:f) (h6:g) (h7:h) (h8:i) (h9:j) (h10:k):a /\ b /\ c /\ d /\ e /\ f /\ g /\ h /\ i /\ j /\ k:=⟨h0,h1,h2,h3,h4,h5,h6,h7,h8,h9,h10⟩
theorem Go.Proofs.YthiochcpmfkgcaaGreatDoor.A12 {a b c d e f g h i j k l:Prop} (h0:a) (h1:b) (h2:c) (h3:d) (h4:e) (h5:f) (h6:g) (h7:h) (h8:i) (h9:j) (h10:k) (h11:l):a /\ b /\ c /\ d /\ e /\ f /\ g /\ h /\ i /\ j /\ k /\ l:=⟨h0,h1,h2,h3,h4,h5,h6,h7,h8,h9,h10,h11⟩
theorem Go.Proofs.YthiochcpmfkgcaaGreatDoor.A13 {a b c d e f g h i j k l m:Prop} (h0:a) (h1:b) (h2:c) (h3:d) (h4:e) (h5:f) (h6:g) (h7:h) (h8:i) (h9:j) (h10:k) (h11:l) (h12:m):a /\ b /\ c /\ d /\ e /\ f /\ g /\ h /\ i /\ j /\ k /\ l /\ m:=⟨h0,h1,h2,h3,h4,h5,h6,h7,h8,h9,h10,h11,h12⟩
theorem Go.Proofs.YthiochcpmfkgcaaGreatDoor.A14 {a b c d e f g h i j k l m n:Prop} (h0:a) (h1:b) (h2:c) (h3:d) (h4:e) (h5:f) (h6:g) (h7:h) (h8:i) (h9:j) (h10:k) (h11:l) (h12:m) (h13:n):a /\ b /\ c /\ d /\ e /\ f /\ g /\ h /\ i /\ j /\ k /\ l /\ m /\ n:=⟨h0,h1,h2,h3,h4,h5,h6,h7,h8,h9,h10,h11,h12,h13⟩
theorem Go.Proofs.YthiochcpmfkgcaaGreatDoor.A15 {a b c d e f g h i j k l m n o:Prop} (h0:a) (h1:b) (h2:c) (h3:d) (h4:e) (h5:f) (h6:g) (h7:h) (h8:i) (h9:j) (h10:k) (h11:l) (h12:m) (h13:n) (h14:o):a /\ b /\ c /\ d /\ e /\ f /\ g /\ h /\ i /\ j /\ k /\ l /\ m /\ n /\ o:=⟨h0,h1,h2,h3,h4,h5,h6,h7,h8,h9,h10,h11,h12,h13,h14⟩
theorem Go.Proofs.YthiochcpmfkgcaaGreatDoor.A16 {a b c d e f g h i j k l m n o p:Prop} (h0:a) (h1:b) (h2:c) (h3:d) (h4:e) (h5:f) (h6:g) (h7:h) (h8:i) (h9:j) (h10:k) (h11:l) (h12:m) (h13:n) (h14:o) (h15:p):a /\ b /\ c /\ d /\ e /\ f /\ g /\ h /\ i /\ j /\ k /\ l /\ m /\ n /\ o /\ p:=⟨h0,h1,h2,h3,h4,h5,h6,h7,h8,h9,h10,h11,h12,h13,h14,h15⟩
structure Go.Proofs.YthiochcpmfkgcaaGreatDoor.Z2 (a b:Prop):Prop where
 o1:a
 o2:b
structure Go.Proofs.YthiochcpmfkgcaaGreatDoor.Z3 (a b c:Prop):Prop where
 o1:a
 o2:b
 o3:c
structure Go.Proofs.YthiochcpmfkgcaaGreatDoor.Z4 (a b c d:Prop):Prop where
 o1:a
 o2:b
 o3:c
 o4:d
structure Go.Proofs.YthiochcpmfkgcaaGreatDoor.Z5 (a b c d e:Prop):Prop where
 o1:a
 o2:b
 o3:c
 o4:d
 o5:e
structure Go.Proofs.YthiochcpmfkgcaaGreatDoor.Z6 (a b c d e f:Prop):Prop where
 o1:a
 o2:b
 o3:c
 o4:d
 o5:e
 o6:f
structure Go.Proofs.YthiochcpmfkgcaaGreatDoor.Z7 (a b c d e f g:Prop):Prop where
 o1:a
 o2:b
 o3:c
 o4:d
 o5:e
 o6:f
 o7:g
structure Go.Proofs.YthiochcpmfkgcaaGreatDoor.Z8 (a b c d e f g h:Prop):Prop where
 o1:a
 o2:b
 o3:c
 o4:d
 o5:e
 o6:f
 o7:g
 o8:h
structure Go.Proofs.YthiochcpmfkgcaaGreatDoor.Z9 (a b c d e f g h i:Prop):Prop where
 o1:a
 o2:b
 o3:c
 o4:d
 o5:e
 o6:f
 o7:g
 o8:h
 o9:i
structure Go.Proofs.YthiochcpmfkgcaaGreatDoor.Z10 (a b c d e f g h i j:Prop):Prop where
 o1:a
 o2:b
 o3:c
 o4:d
 o5:e
 o6:f
 o7:g
 o8:h
 o9:i
 o10:j
structure Go.Proofs.YthiochcpmfkgcaaGreatDoor.Z11 (a b c d e f g h i j k:Prop):Prop where
 o1:a
 o2:b
 o3:c
 o4:d
 o5:e
 o6:f
 o7:g
 o8:h
 o9:i
 o10:j
 o11:k
structure Go.Proofs.YthiochcpmfkgcaaGreatDoor.Z12 (a b c d e f g h i j k l:Prop):Prop where
 o1:a
 o2:b
 o3:c
 o4:d
 o5:e
 o6:f
 o7:g
 o8:h
 o9:i
 o10:j
 o11:k
 o12:l
structure Go.Proofs.YthiochcpmfkgcaaGreatDoor.Z13 (a b c d e f g h i j k l m:Prop):Prop where
 o1:a
 o2:b
 o3:c
 o4:d
 o5:e
 o6:f
 o7:g
 o8:h
 o9:i
 o10:j
 o11:k
 o12:l
 o13:m
structure Go.Proofs.YthiochcpmfkgcaaGreatDoor.Z14 (a b c d e f g h i j k l m n:Prop):Prop where
 o1:a
 o2:b
 o3:c
 o4:d
 o5:e
 o6:f
 o7:g
 o8:h
 o9:i
 o10:j
 o11:k
 o12:l
 o13:m
 o14:n
structure Go.Proofs.YthiochcpmfkgcaaGreatDoor.Z15 (a b c d e f g h i j k l m n o:Prop):Prop where
 o1:a
 o2:b
 o3:c
 o4:d
 o5:e
 o6:f
 o7:g
 o8:h
 o9:i
 o10:j
 o11:k
 o12:l
 o13:m
 o14:n
 o15:o
structure Go.Proofs.YthiochcpmfkgcaaGreatDoor.Z16 (a b c d e f g h i j k l m n o p:Prop):Prop where
 o1:a
 o2:b
 o3:c
 o4:d
 o5:e
 o6:f
 o7:g
 o8:h
 o9:i
 o10:j
 o11:k
 o12:l
 o13:m
 o14:n
 o15:o
 o16:p
theorem Go.Proofs.YthiochcpmfkgcaaGreatDoor.gE {α:Type} {l:List α} {i:Nat} (h:i<l.length):l[i]?=some l[i]:=List.getElem?_eq_getElem h
theorem Go.Proofs.YthiochcpmfkgcaaGreatDoor.gS {α:Type} {l:List α} {i:Nat} {a:α}:l[i]?=some a <-> exists h:i<l.length,l[i]=a:=List.getElem?_eq_some_iff
theorem Go.Proofs.YthiochcpmfkgcaaGreatDoor.gM {α:Type} {l:List α} {i:Nat} {a:α} (e:l[i]?=some a):a∈l:=List.mem_of_getElem? e
theorem Go.Proofs.YthiochcpmfkgcaaGreatDoor.wB {w w':Go.World} {a:Go.Addr} (h:w'.heap[a.block]?=w.heap[a.block]?):w'.cell? a=w.cell? a:=Go.World.cell?_of_block h
theorem Go.Proofs.YthiochcpmfkgcaaGreatDoor.wL (w:Go.World) (a:Go.Addr) {u:Go.Value} (h:w.cell? a=some u):a.block<w.heap.size:=Go.World.block_lt_of_cell? w a h
theorem Go.Proofs.YthiochcpmfkgcaaGreatDoor.bR (B:Nat) (w:Go.World):Go.RowKit.Below B w w:=Go.RowKit.Below.refl B w
theorem Go.Proofs.YthiochcpmfkgcaaGreatDoor.nL {n m k:Nat} (h:n<m) (h2:m<=k):n<k:=Nat.lt_of_lt_of_le h h2
theorem Go.Proofs.YthiochcpmfkgcaaGreatDoor.eX {α:Type} (x:α):exists y,x=y:=⟨x,rfl⟩
theorem Go.Proofs.YthiochcpmfkgcaaGreatDoor.nR (n:Nat):n<=n:=Nat.le_refl n
theorem Go.Proofs.YthiochcpmfkgcaaGreatDoor.qZ:(forall {a:Type} (n:Nat) (x:a) (l:List a),List.take (n+1) (x::l)=x::List.take n l) /\ (forall {a:Type} (l:List a),List.take 0 l=[]) /\ (forall {a:Type} (n:Nat) (x:a) (l:List a),List.drop (n+1) (x::l)=List.drop n l) /\ (forall {a:Type} (l:List a),List.drop 0 l=l) /\ (forall {a b:Type} (f:a->Option b) (x:a) (l:List a),List.filterMap f (x::l)=match f x with | none=>List.filterMap f l | some y=>y::List.filterMap f l) /\ (forall {a b:Type} (f:a->Option b),List.filterMap f []=[]) /\ (forall {a b:Type} (f:b->a->b) (x:b) (y:a) (l:List a),List.foldl f x (y::l)=List.foldl f (f x y) l) /\ (forall {a b:Type} (f:b->a->b) (x:b),List.foldl f x []=x) /\ (forall {a:Type} (l:List a) (i:Nat) (x:a),l.toArray.setIfInBounds i x=(l.set i x).toArray) /\ (forall {a:Type} (x y:a) (l:List a),(x::l).set 0 y=y::l) /\ (forall {a:Type} (n:Nat) (x y:a) (l:List a),(x::l).set (n+1) y=x::l.set n y):=by
  refine ⟨fun _ _ _=>rfl,fun _=>rfl,fun _ _ _=>rfl,fun _=>rfl,fun f x l=>?_,fun _=>rfl,fun _ _ _ _=>rfl,fun _ _=>rfl,fun l i x=>by simp,fun _ _ _=>rfl,fun _ _ _ _=>rfl⟩;rw [List.filterMap_cons]
  cases f x <;> rfl
theorem Go.Proofs.YthiochcpmfkgcaaGreatDoor.An {a b:Prop} (h:a) (k:b):a /\ b:=And.intro h k
theorem Go.Proofs.YthiochcpmfkgcaaGreatDoor.Hd {p:Prop} (h:p):Go.RowKit.Hid p:=Go.Lib.hid h
namespace Go.Proofs.YthiochcpmfkgcaaGreatDoor.Mx
structure Held (p:Prop):Prop where
 out:p
theorem via {G:Prop} (P:Prop) (f:Held P->G) (h:P):G:=f ⟨h⟩
end Go.Proofs.YthiochcpmfkgcaaGreatDoor.Mx
namespace Go.Proofs.YthiochcpmfkgcaaGreatDoor.Mx
open Go.RowKit

def Blk (w:World) (g:Nat) (t:TypeId) (cs:Array Value):Prop:=w.heap[g]?=some (.cells cs t (0,0))
section
variable {w w':World} {g:Nat} {t:TypeId} {cs:Array Value}
theorem Blk.lt (h:Blk w g t cs):g<w.heap.size:=by
 rcases Nat.lt_or_ge g w.heap.size with hlt | hge
 ·exact hlt
 ·unfold Blk at h;rw [Array.getElem?_eq_none hge] at h;cases h
theorem Blk.cell (h:Blk w g t cs) (i:Nat):w.cell? ⟨g,i,none⟩=cs[i]?:=cell_of_row w g i cs t (0,0) h
theorem Blk.frozen (h:Blk w g t cs) (i:Nat):w.frozen? ⟨g,i,none⟩=false:=by
 unfold Blk at h;simp [World.frozen?,h]
theorem Blk.new (w:World) (t:TypeId) (cs:Array Value):Blk (w.alloc (.cells cs t)) w.heap.size t cs:=heap_alloc_new w _
theorem Blk.new_ {w:World} {g:Nat} (h:w.heap.size=g) (t:TypeId) (cs:Array Value):Blk (w.alloc (.cells cs t)) g t cs:=h ▸ Blk.new w t cs
theorem Blk.drew (h:Blk w g t cs):Blk w.drew g t cs:=h
theorem Blk.drewN (h:Blk w g t cs) (n:Nat):Blk (w.drewN n) g t cs:=h
theorem Blk.alloc (h:Blk w g t cs) (o:Obj):Blk (w.alloc o) g t cs:=(Below.heap_alloc w o g h.lt).trans h
theorem Blk.set_ (h:Blk w g t cs) (i:Nat) (u:Value):Blk (w.setCell ⟨g,i,none⟩ u) g t (cs.setIfInBounds i u):=by
 unfold Blk at h ⊢;simp [World.setCell,Array.getElem?_modify,h]
theorem Blk.far (h:Blk w g t cs) {p:Addr} (hp:g≠p.block) (u:Value):Blk (w.setCell p u) g t cs:=(Below.heap_setCell w p u g hp).trans h
theorem Blk.below {B:Nat} (h:Blk w g t cs) (hb:Below B w w') (hg:g<B):Blk w' g t cs:=(hb.block g hg).trans h
theorem Blk.grown {row:Option Nat} (h:Blk w g t cs) (hb:w.grownBy w' row) (hg:some g≠row):Blk w' g t cs:=(hb.block g h.lt hg).trans h
end
theorem Blk.facts1 {w:World} {g:Nat} {t:TypeId} {v0:Value} (h:Blk w g t #[v0]):w.cell? ⟨g,0,none⟩=some v0 /\ (∀ i,w.frozen? ⟨g,i,none⟩=false) :=
 ⟨h.cell 0,h.frozen⟩
theorem Blk.facts2 {w:World} {g:Nat} {t:TypeId} {v0 v1:Value} (h:Blk w g t #[v0,v1]):w.cell? ⟨g,0,none⟩=some v0 /\ w.cell? ⟨g,1,none⟩=some v1 /\ (∀ i,w.frozen? ⟨g,i,none⟩=false) :=
 ⟨h.cell 0,h.cell 1,h.frozen⟩
theorem Blk.facts3 {w:World} {g:Nat} {t:TypeId} {v0 v1 v2:Value} (h:Blk w g t #[v0,v1,v2]):w.cell? ⟨g,0,none⟩=some v0 /\ w.cell? ⟨g,1,none⟩=some v1 /\ w.cell? ⟨g,2,none⟩=some v2 /\ (∀ i,w.frozen? ⟨g,i,none⟩=false) :=
 ⟨h.cell 0,h.cell 1,h.cell 2,h.frozen⟩
theorem Blk.facts4 {w:World} {g:Nat} {t:TypeId} {v0 v1 v2 v3:Value} (h:Blk w g t #[v0,v1,v2,v3]):w.cell? ⟨g,0,none⟩=some v0 /\ w.cell? ⟨g,1,none⟩=some v1 /\ w.cell? ⟨g,2,none⟩=some v2 /\ w.cell? ⟨g,3,none⟩=some v3 /\ (∀ i,w.frozen? ⟨g,i,none⟩=false) :=
 ⟨h.cell 0,h.cell 1,h.cell 2,h.cell 3,h.frozen⟩
theorem cell_alloc_ {w:World} {a:Addr} {v:Value} (h:w.cell? a=some v) (o:Obj):(w.alloc o).cell? a=some v:=by
 rw [World.cell?_alloc_lt w o a (wL w a h)];exact h
theorem grown_trans {w w' w'':World} {g:Nat} (h:w.grownBy w' (some g)) (k:w'.grownBy w'' (some g)):w.grownBy w'' (some g) :=
 ⟨k.os.trans h.os,k.tape.trans h.tape,k.output.trans h.output,Nat.le_trans h.size k.size,fun i hi hne=>(k.block i (nL hi h.size) hne).trans (h.block i hi hne)⟩
theorem grown_drewN {a w:World} {row:Option Nat} (h:a.grownBy w row) (n:Nat):a.grownBy (w.drewN n) row:=⟨h.os,h.tape,h.output,h.size,h.block⟩
theorem grown_set {a w:World} {g:Nat} (h:a.grownBy w (some g)) {p:Addr} (hp:p.block=g) (u:Value):a.grownBy (w.setCell p u) (some g) :=
 ⟨h.os,h.tape,h.output,by simpa [World.setCell] using h.size,fun i hi hne=>(Below.heap_setCell w p u i (by rintro rfl;exact hne (by rw [hp]))).trans (h.block i hi hne)⟩
theorem grown_alloc {a w:World} {row:Option Nat} (h:a.grownBy w row) (o:Obj):a.grownBy (w.alloc o) row :=
 ⟨h.os,h.tape,h.output,Nat.le_trans h.size (by simp),fun i hi hne=>(Below.heap_alloc w o i (nL hi h.size)).trans (h.block i hi hne)⟩
theorem grown_below {a w w':World} {row:Option Nat} (h:a.grownBy w row) (hb:Below w.heap.size w w'):a.grownBy w' row :=
 ⟨hb.os.trans h.os,hb.tape.trans h.tape,hb.output.trans h.output,Nat.le_trans h.size hb.size,fun i hi hne=>(hb.block i (nL hi h.size)).trans (h.block i hi hne)⟩
theorem grown_refl (w:World) (row:Option Nat):w.grownBy w row:=⟨rfl,rfl,rfl,nR _,fun _ _ _=>rfl⟩
theorem below_of_grown {B g:Nat} {w w':World} (h:w.grownBy w' (some g)) (hB:B<=w.heap.size) (hg:B<=g):Below B w w' :=
 ⟨h.os,h.tape,h.output,h.size,fun k hk=>h.block k (by omega) (by intro e;injection e with e;omega)⟩
theorem below_drewN {B:Nat} {a w:World} (h:Below B a w) (n:Nat):Below B a (w.drewN n):=⟨h.os,h.tape,h.output,h.size,h.block⟩
end Go.Proofs.YthiochcpmfkgcaaGreatDoor.Mx
namespace Go.Proofs.YthiochcpmfkgcaaGreatDoor.Mx
open Go.RowKit Go.Lib

end Go.Proofs.YthiochcpmfkgcaaGreatDoor.Mx
namespace Go.Proofs.YthiochcpmfkgcaaGreatDoor.Mx
open Go Go.RowKit

section
variable {α:Type}
structure RowAt (enc:α->List Value) (k:Nat) (w:World) (g o:Nat) (l:List α):Prop where
 lt:g<w.heap.size
 cells:∀ i x,l[i]?=some x->∀ j v,(enc x)[j]?=some v->w.cell? ⟨g,o+i * k+j,none⟩=some v
def OptK (D:Nat->Prop) (enc:α->List Value) (k:Nat) (w:World) (a:Option Addr) (l:List α):Prop :=
 l≠[]->∃ g o,a=some ⟨g,o,none⟩ /\ D g /\ RowAt enc k w g o l
def SliceK (D:Nat->Prop) (enc:α->List Value) (k:Nat) (w:World) (v:Value) (l:List α):Prop :=
 ∃ a cap,v=.slice a l.length cap /\ l.length<=cap /\ cap<=maxLen /\ OptK D enc k w a l
variable {D D':Nat → Prop} {enc:α → List Value} {k:Nat} {w w':World} {v:Value} {l:List α} {a:Option Addr}
theorem cell_same {g i:Nat} (e:w'.heap[g]?=w.heap[g]?):w'.cell? ⟨g,i,none⟩=w.cell? ⟨g,i,none⟩:=wB e
theorem lt_same {g:Nat} (e:w'.heap[g]?=w.heap[g]?) (h:g<w.heap.size):g<w'.heap.size:=by
 rcases Nat.lt_or_ge g w'.heap.size with h1 | h1
 ·exact h1
 ·rw [Array.getElem?_eq_none h1,Array.getElem?_eq_getElem h] at e;cases e
theorem RowAt.same {g o:Nat} (h:RowAt enc k w g o l) (e:w'.heap[g]?=w.heap[g]?):RowAt enc k w' g o l :=
 ⟨lt_same e h.lt,fun i x hx j u hu=>(cell_same e).trans (h.cells i x hx j u hu)⟩
theorem OptK.keep (h:OptK D enc k w a l) (hD:∀ g,D g->g<w.heap.size->D' g /\ w'.heap[g]?=w.heap[g]?):OptK D' enc k w' a l:=fun hl=>by
 obtain ⟨g,o,e,hg,hr⟩:=h hl;exact ⟨g,o,e,(hD g hg hr.lt).1,hr.same (hD g hg hr.lt).2⟩
theorem SliceK.keep (h:SliceK D enc k w v l) (hD:∀ g,D g->g<w.heap.size->D' g /\ w'.heap[g]?=w.heap[g]?):SliceK D' enc k w' v l:=by
 obtain ⟨a,cap,e,h1,h2,h3⟩:=h;exact ⟨a,cap,e,h1,h2,h3.keep hD⟩
theorem SliceK.imp (h:SliceK D enc k w v l) (hD:∀ g,D g->g<w.heap.size->D' g):SliceK D' enc k w v l:=h.keep fun g hg hl=>⟨hD g hg hl,rfl⟩
theorem SliceK.all (h:SliceK D enc k w v l) (hb:Below w.heap.size w w'):SliceK D enc k w' v l:=h.keep fun g hg hl=>⟨hg,hb.block g hl⟩
theorem OptK.at_ (h:OptK D enc k w a l) {i:Nat} (hi:i<l.length):∃ g o,a=some ⟨g,o,none⟩ /\ D g /\ g<w.heap.size /\ ∀ j u,(enc l[i])[j]?=some u->w.cell? ⟨g,o+i * k+j,none⟩=some u:=by
 obtain ⟨g,o,e,hg,hr⟩:=h (by rintro rfl;exact absurd hi (by simp));exact ⟨g,o,e,hg,hr.lt,hr.cells i _ (gE hi)⟩
theorem SliceK.nil:SliceK D enc k w (.slice none 0 0) ([]:List α):=⟨none,0,rfl,nR _,Nat.zero_le _,fun h=>absurd rfl h⟩

def flatK (enc:α->List Value) (l:List α):List Value:=l.flatMap enc
theorem flatK_cons (x:α) (l:List α):flatK enc (x::l)=enc x++flatK enc l:=by simp [flatK]
theorem flatK_append (l m:List α):flatK enc (l++m)=flatK enc l++flatK enc m:=by simp [flatK]
theorem flatK_snoc (l:List α) (x:α):flatK enc l++enc x=flatK enc (l++[x]):=by simp [flatK]
theorem flatK_len (hk:∀ x,(enc x).length=k):∀ l:List α,(flatK enc l).length=l.length * k
 | []=>by simp [flatK]
 | x::l=>by rw [flatK_cons,List.length_append,hk,flatK_len hk l,List.length_cons,Nat.succ_mul,Nat.add_comm]
theorem flatK_get (hk:∀ x,(enc x).length=k):∀ (l:List α) (i:Nat) (x:α) (j:Nat) (v:Value),l[i]?=some x->(enc x)[j]?=some v->(flatK enc l)[i * k+j]?=some v
 | [],i,x,j,v,h,_=>by simp at h
 | y::l,0,x,j,v,h,hv=>by
  have:y=x:=by simpa using h
  subst this;rw [flatK_cons,Nat.zero_mul,Nat.zero_add,List.getElem?_append_left (gS.1 hv).1];exact hv
 | y::l,i+1,x,j,v,h,hv=>by
  rw [flatK_cons,List.getElem?_append_right (by rw [hk,Nat.succ_mul];omega),hk,show (i+1) * k+j - k=i * k+j by rw [Nat.succ_mul];omega];exact flatK_get hk l i x j v (by simpa using h) hv
theorem own_sliceK {B:Nat} {t:TypeId} (hk:∀ x,(enc x).length=k) (h:w.ownsRow B t k v l.length (flatK enc l)):SliceK (fun g=>B<=g) enc k w v l:=by
 have hc:=fun g hg=>h.cells (g:=g) hg;have hlt:=h.lt
 rcases h.2 with ⟨rfl,h1⟩ | ⟨g,cap,cur,rfl,hg,hh,hn,hm,_⟩
 ·have:l=[]:=List.eq_nil_of_length_eq_zero h1;subst this;exact SliceK.nil
 ·refine ⟨some ⟨g,0,none⟩,cap,rfl,hn,hm,fun hl=>⟨g,0,rfl,hg,(hlt g rfl).2,fun i x hx j u hu=>?_⟩⟩;have:=hc g rfl (i * k+j) u (flatK_get hk l i x j u hx hu);rw [show (⟨g,0,none⟩:Addr).add (i * k+j)=⟨g,i * k+j,none⟩ by unfold Addr.add;split <;> simp_all] at this;rw [Nat.zero_add];exact this
def TyD (B:Nat) (t:TypeId) (w:World) (g:Nat):Prop:=B<=g /\ ∃ c fz,w.heap[g]?=some (.cells c t fz)
theorem TyD.low {B B':Nat} {t:TypeId} {g:Nat} (h:TyD B t w g) (hB:B'<=B):TyD B' t w g:=⟨Nat.le_trans hB h.1,h.2⟩
theorem TyD.same {B:Nat} {t:TypeId} {g:Nat} (h:TyD B t w g) (e:w'.heap[g]?=w.heap[g]?):TyD B t w' g:=⟨h.1,by rw [e];exact h.2⟩
theorem own_sliceT {B:Nat} {t:TypeId} (hk:∀ x,(enc x).length=k) (h:w.ownsRow B t k v l.length (flatK enc l)):SliceK (TyD B t w) enc k w v l:=by
 obtain ⟨a,cap,e,h1,h2,h3⟩:=own_sliceK hk h;refine ⟨a,cap,e,h1,h2,fun hl=>?_⟩;obtain ⟨g,o,ea,hg,hr⟩:=h3 hl;refine ⟨g,o,ea,⟨hg,?_⟩,hr⟩
 rcases h.2 with ⟨h4,h5⟩ | ⟨g',cap',cur,e',_,hh,_⟩
 ·exact absurd (List.eq_nil_of_length_eq_zero h5) hl
 ·rw [e] at e';injection e' with e1;rw [ea] at e1;injection e1 with e1;injection e1 with e1;subst e1;exact ⟨cur,_,hh⟩
theorem SliceK.ty {B:Nat} {t:TypeId} (h:SliceK (TyD B t w) enc k w v l) (hb:∀ g c fz,w.heap[g]?=some (.cells c t fz)->B<=g->w'.heap[g]?=w.heap[g]?):SliceK (TyD B t w') enc k w' v l :=
 h.keep fun g hg _=>by
  obtain ⟨hB,c,fz,e⟩:=hg;exact ⟨⟨hB,by rw [hb g c fz e hB];exact ⟨c,fz,e⟩⟩,hb g c fz e hB⟩
theorem SliceK.tyBelow {B:Nat} {t:TypeId} (h:SliceK (TyD B t w) enc k w v l) (hb:Below w.heap.size w w'):SliceK (TyD B t w') enc k w' v l :=
 h.keep fun g hg hl=>⟨hg.same (hb.block g hl),hb.block g hl⟩
theorem SliceK.tyLow {B B':Nat} {t:TypeId} (h:SliceK (TyD B t w) enc k w v l) (hB:B'<=B):SliceK (TyD B' t w) enc k w v l:=h.imp fun g hg _=>hg.low hB
end
end Go.Proofs.YthiochcpmfkgcaaGreatDoor.Mx
namespace Go.Proofs.YthiochcpmfkgcaaGreatDoor.Mx
open Go Go.RowKit

section
variable {w:World} {B:Nat} {e:TypeId} {size g n m cap:Nat} {xs:List Value}
theorem own_shape {w:World} {B:Nat} {e:TypeId} {size:Nat} {v:Value} {n:Nat} {xs:List Value} (h:w.ownsRow B e size v n xs):∃ a c,v=.slice a n c:=by
 rcases h.2 with ⟨rfl,rfl⟩ | ⟨g,cap,cur,rfl,_⟩
 ·exact ⟨_,_,rfl⟩
 ·exact ⟨_,_,rfl⟩
theorem own_low {w:World} {B B':Nat} {e:TypeId} {size:Nat} {v:Value} {n:Nat} {xs:List Value} (h:w.ownsRow B e size v n xs) (hB:B'<=B):w.ownsRow B' e size v n xs:=by
 refine ⟨h.1,?_⟩
 rcases h.2 with h | ⟨g,cap,cur,hv,hg,hh,r⟩
 ·exact .inl h
 ·exact .inr ⟨g,cap,cur,hv,by omega,hh,r⟩
theorem own_some {w:World} {B:Nat} {e:TypeId} {size:Nat} {v:Value} {n:Nat} {xs:List Value} (h:w.ownsRow B e size v n xs) (hn:0<n):∃ g cap,v=.slice (some ⟨g,0,none⟩) n cap /\ B<=g /\ n<=cap /\ cap<=maxLen:=by
 rcases h.2 with ⟨_,h2⟩ | ⟨g,cap,cur,rfl,hg,_,h3,h4,_⟩
 ·omega
 ·exact ⟨g,cap,rfl,hg,h3,h4⟩
theorem row_below {w w':World} {B:Nat} {e:TypeId} {z:Nat} {v:Value} {n:Nat} {xs:List Value} (h:w.ownsRow B e z v n xs) (hb:Below w.heap.size w w'):w'.ownsRow B e z v n xs :=
 h.kept (row:=none) ⟨hb.os,hb.tape,hb.output,hb.size,fun k hk _=>hb.block k hk⟩ (by cases hv:v.ownBlock <;> simp)
theorem own_put (h:w.ownsRow B e size (.slice (some ⟨g,0,none⟩) n cap) n xs) (i:Nat) (hi:i<n * size) (u:Value) :
  (w.setCell ⟨g,i,none⟩ u).ownsRow B e size (.slice (some ⟨g,0,none⟩) n cap) n (xs.set i u):=by
 obtain ⟨h1,h2⟩:=h;refine ⟨by simpa using h1,?_⟩
 rcases h2 with ⟨h,_⟩ | ⟨g',cap',cur,hv,hB,hh,hn,hm,hs,ht⟩
 ·cases h
 ·injection hv with e1 e2 e3
  injection e1 with e1;injection e1 with e1;subst e1;subst e3;refine .inr ⟨g,cap,cur.setIfInBounds i u,rfl,hB,?_,hn,hm,by simpa using hs,?_⟩
  ·simp [World.setCell,Array.getElem?_modify,hh]
  ·rw [Array.toList_setIfInBounds,List.take_set,ht]
theorem own_cut (h:w.ownsRow B e size (.slice (some ⟨g,0,none⟩) n cap) n xs) (hmn:m<=n) :
  w.ownsRow B e size (.slice (some ⟨g,0,none⟩) m cap) m (xs.take (m * size)):=by
 obtain ⟨h1,h2⟩:=h;have hle:m * size<=n * size:=Nat.mul_le_mul_right _ hmn;refine ⟨by rw [List.length_take];omega,?_⟩
 rcases h2 with ⟨h,_⟩ | ⟨g',cap',cur,hv,hB,hh,hn,hm,hs,ht⟩
 ·cases h
 ·injection hv with e1 e2 e3
  injection e1 with e1;injection e1 with e1;subst e1;subst e3;refine .inr ⟨g,cap,cur,rfl,hB,hh,by omega,hm,hs,?_⟩
  rw [<- ht,List.take_take,Nat.min_eq_left hle]
theorem own_far (h:w.ownsRow B e size (.slice (some ⟨g,0,none⟩) n cap) n xs) (i:Nat) (hi:n * size<=i) (u:Value) :
  (w.setCell ⟨g,i,none⟩ u).ownsRow B e size (.slice (some ⟨g,0,none⟩) n cap) n xs:=by
 obtain ⟨h1,h2⟩:=h;refine ⟨h1,?_⟩
 rcases h2 with ⟨h,_⟩ | ⟨g',cap',cur,hv,hB,hh,hn,hm,hs,ht⟩
 ·cases h
 ·injection hv with e1 e2 e3
  injection e1 with e1;injection e1 with e1;subst e1;subst e3;refine .inr ⟨g,cap,cur.setIfInBounds i u,rfl,hB,?_,hn,hm,by simpa using hs,?_⟩
  ·simp [World.setCell,Array.getElem?_modify,hh]
  ·rw [Array.toList_setIfInBounds,List.take_set_of_le hi,ht]
end
theorem own_fresh (w:World) {B:Nat} (t:TypeId) (k n:Nat) (cs:Array Value) (hB:B<=w.heap.size) (hs:cs.size=n * k) (hn:n<=maxLen):(w.alloc (.cells cs t)).ownsRow B t k (.slice (some ⟨w.heap.size,0,none⟩) n n) n cs.toList:=by
 refine ⟨by simpa using hs,.inr ⟨w.heap.size,n,cs,rfl,hB,heap_alloc_new w _,nR _,hn,hs,?_⟩⟩;rw [List.take_of_length_le (by simp;omega)]
theorem addr_add_ (g o j:Nat):(⟨g,o,none⟩:Addr).add j=⟨g,o+j,none⟩:=by
 unfold Addr.add
 by_cases h:j=0 <;> simp [h]
theorem own_fars {B:Nat} {e:TypeId} {size g n cap:Nat} {xs:List Value}:∀ (vs:List Value) (o:Nat) (w:World),n * size<=o->w.ownsRow B e size (.slice (some ⟨g,0,none⟩) n cap) n xs ->
  (w.setCells g o vs).ownsRow B e size (.slice (some ⟨g,0,none⟩) n cap) n xs
 | [],_,_,_,h=>h
 | v::vs,o,w,ho,h=>own_fars vs (o+1) _ (by omega) (own_far h o ho v)
theorem grown_sets {a:World} {g:Nat}:∀ (vs:List Value) (o:Nat) (w:World),a.grownBy w (some g)->a.grownBy (w.setCells g o vs) (some g)
 | [],_,_,h=>h
 | v::vs,o,w,h=>grown_sets vs (o+1) _ (grown_set (p:=⟨g,o,none⟩) h rfl v)
theorem run_clear_cells {P:Program} (w:World) (t e ty:TypeId) (z:Value) (ht:P.underlying t=some (.slice e)) (hv:∀ w,(zeroValue e).run P w=.ok z w) (vs:List Value) (b o n c:Nat) (hn:0<n)
  (hz:(Builtin.zeroCells z.cells n).toList=vs) (h1:∀ u∈vs,u.oneCell'=true)
  (hc:∀ j,j<vs.length->(w.cell? ⟨b,o+j,none⟩).isSome=true) (hf:∀ j,j<vs.length->w.frozen? ⟨b,o+j,none⟩=false) :
  (Builtin.clear_ #[t] ty #[.slice (some ⟨b,o,none⟩) n c]).run P w=.ok (.tuple #[]) (w.setCells b o vs):=by
 have hst:=run_storeCells_cells (P:=P) b o vs 0 w (by simpa using hc) (by simpa using hf) h1;simp only [Nat.add_zero] at hst;obtain ⟨m,rfl⟩:∃ m,n=m+1:=⟨n - 1,by omega⟩;simp [Builtin.clear_,run_underlying ht,hv,hz,hst]
theorem zero_cells_len (c:Array Value) (n:Nat):(Builtin.zeroCells c n).toList.length=n * c.size:=by simp [Builtin.zeroCells]
theorem flatK_take {α:Type} {enc:α->List Value} {k:Nat} (hk:∀ x,(enc x).length=k):∀ (l:List α) (m:Nat),(flatK enc l).take (m * k)=flatK enc (l.take m)
 | [],m=>by simp [flatK]
 | x::l,0=>by simp [flatK]
 | x::l,m+1=>by
  rw [flatK_cons,List.take_succ_cons,flatK_cons,<- flatK_take hk l m,Nat.succ_mul,Nat.add_comm (m * k) k,List.take_append,hk,Nat.add_sub_cancel_left,List.take_of_length_le (by rw [hk];omega)]
end Go.Proofs.YthiochcpmfkgcaaGreatDoor.Mx
namespace Go.Proofs.YthiochcpmfkgcaaGreatDoor.Mx
open Go Go.RowKit
section
variable {P:Program} (w:World)
theorem run_append_ownF (base:Nat) (t ty e:TypeId) (i:TypeInfo) (z:Value) (size bytes:Nat) (ht:P.underlying t=some (.slice e)) (hi:P.info? e=some i) (hz:i.zero=some z)
  (hsize:i.size=size) (hby:i.bytes=bytes) (hzs:z.cells.size=size) (hsz:0<size)
  (v:Value) (n:Nat) (xs:List Value) (hown:w.ownsRow base e size v n xs)
  (a:Addr) (m c:Nat) (news:List Value) (hl:news.length=m * size) (hnews:∀ j u,news[j]?=some u->w.cell? (a.add j)=some u) (h1:∀ u∈news,u.oneCell'=true)
  (h63:n+m<=maxLen) (hbytes:(n+m) * bytes<=140737488355328) (hbase:base<=w.heap.size) :
  ∃ v' w',(Builtin.append_ #[t,t] ty #[v,.slice (some a) m c]).run P w=.ok v' w' /\ w'.ownsRow base e size v' (n+m) (xs++news) /\ w.grownBy w' v.ownBlock /\
   ∀ b,v'.ownBlock=some b->v.ownBlock=some b∨w.heap.size<=b:=by
 obtain ⟨v',w',hr,h2,h3,h4⟩:=run_append_own (P:=P) w base t ty e i z size bytes ht hi hz hsize hby hzs hsz v n xs hown a m c news hl hnews h1 h63 hbytes hbase;refine ⟨v',w',hr,h2,h3,?_⟩
 rcases hown.2 with ⟨rfl,rfl⟩ | ⟨g,cap,cur,rfl,hbg,hg,hnc,hcm,hcs,htake⟩
 ·have hx:xs=[]:=List.eq_nil_of_length_eq_zero (by simpa using hown.1);subst hx;obtain ⟨v2,w2,hr2,k2,_,_⟩:=run_append_own (P:=P) w w.heap.size t ty e i z size bytes ht hi hz hsize hby hzs hsz (.slice none 0 0) 0 [] (World.ownsRow_nil w _ e size) a m c news hl hnews h1 h63 hbytes (nR _);rw [hr] at hr2;injection hr2 with e1 e2;subst e1;intro b hb;exact .inr (k2.lt b hb).1
 ·by_cases hroom:n+m<=cap
  ·have hfit:n * i.size+news.length<=cur.size:=by rw [hl,hcs,hsize,<- Nat.add_mul];exact Nat.mul_le_mul_right _ hroom
   have hr2:=run_append_room (P:=P) w t ty e i ht hi g n cap cur hg a m c news (by rw [hsize];exact hl) hnews h1 hroom hfit;rw [hr] at hr2;injection hr2 with e1 e2;subst e1;intro b hb;exact .inl hb
  ·have holds:∀ j u,xs[j]?=some u->w.cell? ((⟨g,0,none⟩:Addr).add j)=some u:=hown.cells (g:=g) rfl;have hsmall:n+m<=9223372036854775807:=by simp only [maxLen] at h63;omega
   have hr2:=run_append_grow (P:=P) w t ty e i z ht hi hz ⟨g,0,none⟩ n cap xs (by rw [hsize];exact hown.1) holds a m c news (by rw [hsize];exact hl) hnews (by omega) (by omega) (by rw [hby];exact growslice_fits (by omega) hbytes);rw [hr] at hr2;injection hr2 with e1 e2;subst e1;intro b hb;simp [Value.ownBlock] at hb;exact .inr (by omega)
theorem wpList_append_ownF {ops:Array Oper} {rest:List Oper} {o:Oper} {act:Act} {Q:Exit->Act->World->Prop} (hgd:o.guard=none) (s x:Operand) (t:TypeId)
  (ho:o.op=.call { callee:=.builtin .append,args:=#[s,x],argTypes:=#[t,t] })
  (base:Nat) (e:TypeId) (i:TypeInfo) (z:Value) (size bytes:Nat) (ht:P.underlying t=some (.slice e)) (hi:P.info? e=some i) (hz:i.zero=some z)
  (hsize:i.size=size) (hby:i.bytes=bytes) (hzs:z.cells.size=size) (hsz:0<size)
  (v:Value) (n:Nat) (xs:List Value) (hs:act.eval s=v) (hown:w.ownsRow base e size v n xs)
  (ad:Addr) (m c:Nat) (news:List Value) (hx:act.eval x=.slice (some ad) m c) (hl:news.length=m * size) (hnews:∀ j u,news[j]?=some u->w.cell? (ad.add j)=some u) (h1:∀ u∈news,u.oneCell'=true)
  (h63:n+m<=maxLen) (hbytes:(n+m) * bytes<=140737488355328) (hbase:base<=w.heap.size)
  (h:∀ v' w',w'.ownsRow base e size v' (n+m) (xs++news)->w.grownBy w' v.ownBlock->(∀ b,v'.ownBlock=some b->v.ownBlock=some b∨w.heap.size<=b)->wpList P ops Q rest (act.put o.dst v') w'):wpList P ops Q (o::rest) act w:=by
 refine wpList_plain hgd fun K hK=>?_;obtain ⟨v',w',hr,h2,h3,h4⟩:=run_append_ownF (P:=P) w base t o.type e i z size bytes ht hi hz hsize hby hzs hsz v n xs hown ad m c news hl hnews h1 h63 hbytes hbase;unfold Oper.wp execOp;simp only [ho,resolve,invoke,builtin,Sem.run_bind,Sem.run_pure,Result.andThen_ok,List.map_toArray,List.map_cons,List.map_nil,hs,hx,hr];exact hK _ _ (h v' w' h2 h3 h4)
theorem wp_append_ownF {o:Oper} {act:Act} {K:Act->World->Prop} {Q:Exit->Act->World->Prop} (s x:Operand) (t:TypeId)
  (ho:o.op=.call { callee:=.builtin .append,args:=#[s,x],argTypes:=#[t,t] })
  (base:Nat) (e:TypeId) (i:TypeInfo) (z:Value) (size bytes:Nat) (ht:P.underlying t=some (.slice e)) (hi:P.info? e=some i) (hz:i.zero=some z)
  (hsize:i.size=size) (hby:i.bytes=bytes) (hzs:z.cells.size=size) (hsz:0<size)
  (v:Value) (n:Nat) (xs:List Value) (hs:act.eval s=v) (hown:w.ownsRow base e size v n xs)
  (ad:Addr) (m c:Nat) (news:List Value) (hx:act.eval x=.slice (some ad) m c) (hl:news.length=m * size) (hnews:∀ j u,news[j]?=some u->w.cell? (ad.add j)=some u) (h1:∀ u∈news,u.oneCell'=true)
  (h63:n+m<=maxLen) (hbytes:(n+m) * bytes<=140737488355328) (hbase:base<=w.heap.size)
  (h:∀ v' w',w'.ownsRow base e size v' (n+m) (xs++news)->w.grownBy w' v.ownBlock->(∀ b,v'.ownBlock=some b->v.ownBlock=some b∨w.heap.size<=b)->K (act.put o.dst v') w'):o.wp P act w K Q:=by
 obtain ⟨v',w',hr,h2,h3,h4⟩:=run_append_ownF (P:=P) w base t o.type e i z size bytes ht hi hz hsize hby hzs hsz v n xs hown ad m c news hl hnews h1 h63 hbytes hbase;unfold Oper.wp execOp;simp only [ho,resolve,invoke,builtin,Sem.run_bind,Sem.run_pure,Result.andThen_ok,List.map_toArray,List.map_cons,List.map_nil,hs,hx,hr];exact h v' w' h2 h3 h4
end
end Go.Proofs.YthiochcpmfkgcaaGreatDoor.Mx
namespace Go.Proofs.YthiochcpmfkgcaaGreatDoor.Mx
open Go Go.RowKit
section
variable {P:Program} {md:Region.Mode}
def concDsts (l:List Oper) (n:Nat):List Nat:=(l.take n).filterMap (·.dst)
theorem nodup_filterMap {l:List Oper}:∀ {i j:Nat} {oi oj:Oper} {s:Nat},(l.filterMap (·.dst)).Nodup->l[i]?=some oi->l[j]?=some oj->oi.dst=some s->oj.dst=some s->i=j:=by
 induction l with
 | nil=>intro i j oi oj s _ h;simp at h
 | cons o t ih =>
  intro i j oi oj s hn hi hj hsi hsj;have hmem:∀ (k:Nat) (ok:Oper),t[k]?=some ok->ok.dst=some s->s∈t.filterMap (·.dst):=fun k ok hk hs=>List.mem_filterMap.2 ⟨ok,gM hk,hs⟩;rw [List.filterMap_cons] at hn
  cases i with
  | zero =>
   cases j with
   | zero=>rfl
   | succ j =>
    simp at hi hj;subst hi;rw [hsi] at hn;exact absurd (hmem j oj hj hsj) (List.nodup_cons.1 hn).1
  | succ i =>
   cases j with
   | zero =>
    simp at hi hj;subst hj;rw [hsj] at hn;exact absurd (hmem i oi hi hsi) (List.nodup_cons.1 hn).1
   | succ j =>
    simp at hi hj;have hn2:(t.filterMap (·.dst)).Nodup:=by
     cases ho:o.dst with
     | none=>rw [ho] at hn;exact hn
     | some d=>rw [ho] at hn;exact (List.nodup_cons.1 hn).2
    rw [ih hn2 hi hj hsi hsj]
def ConcOb (P:Program) (md:Region.Mode) (l:List Oper) (n:Nat) (R:Nat->Value->World->Prop) (G:World->World->Prop) (J:Array Bool->World->Prop) (Q:Exit->Act->World->Prop) (a0:Act) (w0:World) (i:Nat) (o:Oper):Prop :=
 ∀ (L:Array Bool) (T:Array Value) (w:World),G w0 w->J L w->L.size=l.length->L.getD i true=false->(∀ e∈o.after,Region.binds md e=true->L.getD e.on false=true) ->
  (∀ s,s ∉ concDsts l n->T.getD s undef=a0.tmps.getD s undef) ->
  (∀ e∈o.after,Region.binds md e=true->∀ s,(l[e.on]?).bind (·.dst)=some s->R e.on (T.getD s undef) w) ->
  ∀ K:Act->World->Prop,(∀ v w',G w w'->(∀ j u,j<n->j≠i->L.getD j false=true->R j u w->R j u w')->J (L.setIfInBounds i true) w'->R i v w'->K (Act.put { tmps:=T,defers:=a0.defers } o.dst v) w')->o.wp P { tmps:=T,defers:=a0.defers } w K Q
def ConcObs (P:Program) (md:Region.Mode) (l:List Oper) (n:Nat) (R:Nat->Value->World->Prop) (G:World->World->Prop) (J:Array Bool->World->Prop) (Q:Exit->Act->World->Prop) (a0:Act) (w0:World):List Oper->Nat->Prop
 | [],_=>True
 | o::r,i=>ConcOb P md l n R G J Q a0 w0 i o /\ ConcObs P md l n R G J Q a0 w0 r (i+1)
theorem concObs_at {l:List Oper} {n:Nat} {R:Nat->Value->World->Prop} {G:World->World->Prop} {J:Array Bool->World->Prop} {Q:Exit->Act->World->Prop} {a0:Act} {w0:World} :
  ∀ (r:List Oper) (k:Nat),ConcObs P md l n R G J Q a0 w0 r k->∀ (i:Nat) (o:Oper),r[i]?=some o->ConcOb P md l n R G J Q a0 w0 (k+i) o
 | [],k,_,i,o,h=>by simp at h
 | x::r,k,hobs,0,o,h=>by
  simp at h;subst h;exact hobs.1
 | x::r,k,hobs,i+1,o,h=>by
  have:=concObs_at r (k+1) hobs.2 i o (by simpa using h);rw [show k+(i+1)=k+1+i by omega];exact this
structure ConcInv (md:Region.Mode) (l:List Oper) (n:Nat) (R:Nat->Value->World->Prop) (G:World->World->Prop) (J:Array Bool->World->Prop) (a0:Act) (w0:World) (L:Array Bool) (a:Act) (w:World):Prop where
 size:L.size=l.length
 tail:∀ j,n<=j->L.getD j false=false
 grow:G w0 w
 inv:J L w
 defers:a.defers=a0.defers
 tmps:a.tmps.size=a0.tmps.size
 frame:∀ s,s ∉ concDsts l n->a.tmps.getD s undef=a0.tmps.getD s undef
 vals:∀ i,L.getD i false=true->∀ s,(l[i]?).bind (·.dst)=some s->R i (a.tmps.getD s undef) w
theorem getD_set_self {L:Array Bool} {i:Nat} (h:i<L.size):(L.setIfInBounds i true).getD i false=true:=by simp [h]
theorem getD_flip {L:Array Bool} {i:Nat} (h:i<L.size):L.getD i true=L.getD i false:=by simp [h]
theorem conc_rebuild:∀ (ds:List Nat) (t u:Array Value),t.size=u.size->(∀ s,s ∉ ds->t.getD s undef=u.getD s undef)->t=ds.foldl (fun x s=>x.setIfInBounds s (t.getD s undef)) u
 | [],t,u,hs,h=>by
  apply Array.ext hs;intro i h1 h2;have:=h i (by simp)
  simpa [h1,h2] using this
 | d::ds,t,u,hs,h=>by
  rw [List.foldl_cons];refine conc_rebuild ds t _ (by simp [hs]) (fun s hsd=>?_)
  by_cases e:s=d
  ·subst e
   by_cases hlt:s<u.size
   ·simp [hlt]
   ·simp [Array.getElem?_eq_none (show t.size<=s by omega)]
  ·rw [h s (by simp [e,hsd])];simp [Array.getElem?_setIfInBounds_ne (Ne.symm e)]
end

def SeqO (F:Fence) (n:Nat) (P:Program) (g:Nat) (lb:Array Value) (encs:Nat->Array Value) (Kp:World->World->Prop) (N:Nat) (w:World):Prop :=
 ∀ (l:Nat) (J Jx:Nat->World->Prop) (W:World),Below w.heap.size w W->AbidesFrom W.heap.size J->AbidesFrom W.heap.size Jx ->
  (∀ k W1,J k W1->k<N->YieldAt F (n - 1) P l (encs k) W1 fun e W' =>
   (e=.returned (.bool true) /\ J (k+1) W' /\ Kp W1 W')∨(e=.returned (.bool false) /\ Jx (k+1) W')) ->
  J 0 W ->
  CallsIn F n P g (#[.func (.yield l) #[] #[]]++lb) W fun e W'=>(∃ v,e=.returned v) /\ (J N W'∨(∃ k,k<=N /\ Jx k W'))

def ownPostO (Kp:World->World->Prop) (I:Nat->World->Prop) (Ix:Code->Nat->World->Prop) (k:Nat) (W:World):Exit->Act->World->Prop
 | .normal,_,W'=>KeepsOthers W W' /\ Kp W W' /\ I k W'
 | .ret,_,W'=>KeepsOthers W W' /\ Ix .ret k W'
 | .exit id,_,W'=>KeepsOthers W W' /\ Ix (.exit id) k W'
 | .goto t,_,W'=>KeepsOthers W W' /\ Ix (.goto t) k W'
 | .panic _,_,_=>False
 | .outgrown,_,_=>False

variable {F:Fence} {n:Nat} {P:Program}

end Go.Proofs.YthiochcpmfkgcaaGreatDoor.Mx
namespace Go.Proofs.YthiochcpmfkgcaaGreatDoor.Mx
open Go Go.RowKit
section
variable {F:Fence} {n:Nat} {P:Program} {ops:Array Oper} {md:Region.Mode} {C:World → Prop}
def noDefer (l:List Oper):Bool:=l.all fun o=>match o.op with | .defer _=>false | _=>true
theorem noDefer_spec {l:List Oper} (h:noDefer l=true) {i:Nat} {o:Oper} (ho:l[i]?=some o):∀ c,o.op≠.defer c:=by
 intro c hc;have:=List.all_eq_true.1 h o (gM ho);rw [hc] at this
 cases this
end
end Go.Proofs.YthiochcpmfkgcaaGreatDoor.Mx
namespace Go.Proofs.YthiochcpmfkgcaaGreatDoor.Mx
open Go Go.RowKit
variable {F:Fence} {n:Nat} {P:Program}
end Go.Proofs.YthiochcpmfkgcaaGreatDoor.Mx
namespace Go.Proofs.YthiochcpmfkgcaaGreatDoor.Mx
open Go
end Go.Proofs.YthiochcpmfkgcaaGreatDoor.Mx
namespace Go.Proofs.YthiochcpmfkgcaaGreatDoor.Mx
open Go Go.RowKit
def SeqP (F:Fence) (n:Nat) (P:Program) (g:Nat) (lb:Array Value) (encs:Nat->Array Value) (Kp:World->World->Prop) (N:Nat) (w:World):Prop :=
 ∀ (l:Nat) (J Jx:Nat->World->Prop) (W:World),Below w.heap.size w W ->
  (∀ k W1,J k W1->k<N->YieldAt F (n - 1) P l (encs k) W1 fun e W' =>
   (e=.returned (.bool true) /\ J (k+1) W' /\ Kp W1 W')∨(e=.returned (.bool false) /\ Jx (k+1) W')) ->
  J 0 W ->
  CallsIn F n P g (#[.func (.yield l) #[] #[]]++lb) W fun e W'=>(∃ v,e=.returned v) /\ (J N W'∨(∃ k,k<=N /\ Jx k W'))
structure OwnP {β:Type} (B:Nat) (I:β->World->Prop):Prop where
 alloc:∀ {s:β} {W:World} (o:Obj),I s W->I s (W.alloc o)
 putObj:∀ {s:β} {W:World} {l:Nat} {o:Obj} (o':Obj),I s W->B<=l->W.heap[l]?=some o->o.isCells=false->I s (W.putObj l o')
def Grew (w w':World):Prop:=∃ q os,w'=Sort.grow (w.drewN q) os
section
variable {w w' w'':World}
theorem Grew.refl (w:World):Grew w w:=⟨0,#[],by rw [Sort.grow_empty];rfl⟩
theorem Grew.trans (h:Grew w w') (k:Grew w' w''):Grew w w'':=by
 obtain ⟨q,os,rfl⟩:=h;obtain ⟨q',os',rfl⟩:=k;refine ⟨q+q',os++os',?_⟩;show Sort.grow (Sort.grow ((w.drewN q).drewN q') os) os'=_;rw [Sort.grow_grow];show Sort.grow { w with drawn:=w.drawn+q+q' } _=Sort.grow { w with drawn:=w.drawn+(q+q') } _;rw [Nat.add_assoc]
theorem Grew.drewN (h:Grew w w') (n:Nat):Grew w (w'.drewN n):=h.trans ⟨n,#[],by rw [Sort.grow_empty]⟩
theorem Grew.drew (h:Grew w w'):Grew w w'.drew:=h.drewN 1
theorem Grew.alloc (h:Grew w w') (o:Obj):Grew w (w'.alloc o):=h.trans ⟨0,#[o],by rw [Sort.alloc_eq_grow];rfl⟩
theorem Grew.below (h:Grew w w'):Below w.heap.size w w':=by
 obtain ⟨q,os,rfl⟩:=h;refine ⟨rfl,rfl,rfl,by simp [Sort.grow,World.drewN],fun k hk=>?_⟩;show (w.heap++os)[k]?=_;rw [Array.getElem?_append_left hk]
theorem Grew.modify (h:Grew w w') (l:Nat) (hl:w.heap.size<=l) (f:Obj->Obj):Grew w { w' with heap:=w'.heap.modify l f }:=by
 obtain ⟨q,os,rfl⟩:=h;refine ⟨q,os.modify (l - w.heap.size) f,?_⟩;show ({ w with heap:=(w.heap++os).modify l f,drawn:=_ }:World)={ w with heap:=w.heap++os.modify (l - w.heap.size) f,drawn:=_ };congr 1;apply Array.ext_getElem?;intro i;rw [Array.getElem?_modify]
 by_cases hi:i<w.heap.size
 ·rw [Array.getElem?_append_left hi,Array.getElem?_append_left hi,if_neg (by omega)]
 ·rw [Array.getElem?_append_right (by omega),Array.getElem?_append_right (by omega),Array.getElem?_modify]
  by_cases e:l=i
  ·subst e;simp
  ·rw [if_neg e,if_neg (by omega)]
theorem Grew.setCell (h:Grew w w') {p:Addr} (hp:w.heap.size<=p.block) (u:Value):Grew w (w'.setCell p u):=h.modify p.block hp _
theorem Grew.putObj (h:Grew w w') {l:Nat} (hl:w.heap.size<=l) (o:Obj):Grew w (w'.putObj l o):=by
 have e:w'.heap.setIfInBounds l o=w'.heap.modify l (fun _=>o):=by
  apply Array.ext_getElem?;intro i;rw [Array.getElem?_modify,Array.getElem?_setIfInBounds]
  by_cases hi:l=i
  ·subst hi
   by_cases hs:l<w'.heap.size
   ·rw [if_pos rfl,if_pos hs,if_pos rfl,Array.getElem?_eq_getElem hs];rfl
   ·rw [if_pos rfl,if_neg hs,if_pos rfl,Array.getElem?_eq_none (by omega)];rfl
  ·rw [if_neg hi,if_neg hi]
 have k:=h.modify l hl (fun _=>o);unfold World.putObj;rw [e];exact k
theorem Blk.putObj {g l:Nat} {t:TypeId} {cs:Array Value} (h:Blk w g t cs) (hl:g≠l) (o:Obj):Blk (w.putObj l o) g t cs:=(World.putObj_heap_other hl).trans h
end
section
variable {F:Fence} {n:Nat} {P:Program}
theorem wpIn_rangeFunc_ownP {g:Operand} {ps:Array Tmp} {assign body:Code} {Q:Exit->Act->World->Prop} {a:Act} {w:World}
  (hro:F.round=none) (h1:1<=n) {gf:Nat} {lb:Array Value} (hg:a.eval g=.func (.func gf) #[] lb) (hFg:F.fn gf) (eg:∀ args w,(callFunc gf args).run P w=.ok (.enter gf args) w)
  {encs:Nat->Array Value} {Kp:World->World->Prop} {N:Nat} {w0:World} (hseq:SeqP F (n - 1) P gf lb encs Kp N w0)
  (hKt:∀ {A B C:World},Kp A B->Kp B C->Kp A C) (hKb:∀ (W:World) (l:Nat) (o o':Obj),w.heap.size<=l->W.heap[l]?=some o->o.isCells=false->o.isWalk=false->Kp W (W.putObj l o')) (hb0:Below w0.heap.size w0 w) (hps:∀ k,k<N->(encs k).size=ps.size)
  (I:Nat->World->Prop) (Ix:Code->Nat->World->Prop) (hI:OwnP w.heap.size I) (hIx:∀ c,OwnP w.heap.size (Ix c)) (h0:I 0 w) (a₁:Nat->Act)
  (hassign:∀ (l:Nat) (x:Nat) (W:World) (K:Act->World->Prop),x<N->K (a₁ x) W ->
   assign.wpIn (F.inRound l) (n - 1 - 1) P (Exit.then K (fun _ _ _=>False)) { tmps:=(ps.zip (encs x)).foldl (fun t (p,v)=>t.setIfInBounds p v) a.tmps,defers:=[] } W)
  (hbody:∀ (l:Nat) (k:Nat) (W:World),I k W->k<N->body.wpIn (F.inRound l) (n - 1 - 1) P (ownPostO Kp I Ix (k+1) W) (a₁ k) W)
  (hdone:∀ (D:Nat) (W:World),w.heap.size<=D->I N W->W.heap[D]?=some (.deferred (some []))->Q .normal { a with defers:={ target:=.collected D,args:=#[] }::a.defers } W)
  (hstop:∀ (D:Nat) (c:Code) (k:Nat) (W:World),w.heap.size<=D->k<=N->Ix c k W->W.heap[D]?=some (.deferred (some []))->c.wpIn F n P Q { a with defers:={ target:=.collected D,args:=#[] }::a.defers } W) :
  (Code.rangeFunc g ps assign body).wpIn F n P Q a w:=by
 refine wpIn_rangeFunc ?_;intro fn hfn;rw [hro];obtain ⟨rec,hrec⟩:∃ rec:LoopState->Option Code->Loop,rec=fun st pe=>{ state:=st,pending:=pe,fn,tmps:=a.tmps,params:=ps,assign,body,defers:=w.heap.size }:=⟨_,rfl⟩
 obtain ⟨W1,hW1⟩:=eX ((w.alloc (.deferred (some []))).alloc (.loop (rec .ready none)));have hL1:W1.heap[w.heap.size+1]?=some (.loop (rec .ready none)):=by
  rw [<- hW1];have:=World.alloc_heap_new (w.alloc (.deferred (some []))) (.loop (rec .ready none));rwa [World.size_alloc] at this
 have hK1:W1.heap[w.heap.size]?=some (.deferred (some [])):=by
  rw [<- hW1];exact (Below.heap_alloc _ _ _ (by simp)).trans (World.alloc_heap_new w _)
 have hI1:I 0 W1:=by rw [<- hW1];exact hI.alloc _ (hI.alloc _ h0)
 have hb1:Below w0.heap.size w0 W1:=by
  rw [<- hW1];exact hb0.trans ((((bR _ w).alloc (nR _) _).alloc (by simp) _).mono hb0.size)
 refine ⟨w.heap.size+1,[{ target:=.collected w.heap.size,args:=#[] }],W1,{ target:=.fn (.func gf) lb,args:=#[.func (.yield (w.heap.size+1)) #[] #[]] },W1,gf,
  #[.func (.yield (w.heap.size+1)) #[] #[]]++lb,W1,?_,?_,?_,?_,fun _=>h1,?_⟩
 ·rw [<- hW1,hrec];exact run_enterLoop_outer _ _ _ _ _
 ·simp only [resolve,hg];simp [go_sem]
 ·intro f' hf';simp [Target.leads] at hf';subst hf';exact hFg
 ·simp [invoke,go_sem,eg]
 ·-- THE ITERATOR's CONTRACT,AT THE CALLER's INVARIANT WITH THE TWO FACTS OF BOOK-KEEPING BESIDE IT
  refine (hseq (w.heap.size+1)
   (fun pre W=>I pre W /\ W.heap[w.heap.size+1]?=some (.loop (rec .ready none)) /\ W.heap[w.heap.size]?=some (.deferred (some [])))
   (fun pre W=>∃ c,Ix c pre W /\ W.heap[w.heap.size+1]?=some (.loop (rec .done (some c))) /\ W.heap[w.heap.size]?=some (.deferred (some [])))
   W1 hb1
   ?_ ⟨hI1,hL1,hK1⟩).mono ?_
  ·-- ONE ROUND
   rintro k W ⟨hi,hl,hk⟩ hlen;have hlt:w.heap.size+1<W.heap.size:=(Array.getElem?_eq_some_iff.1 hl).1;have hy:=run_yield (P:=P) (args:=encs k) hl (by rw [hrec];exact hps k hlen);rw [hrec] at hy;refine ⟨fn,_,assign,body,hy,roundIn_of_wpIn hfn (hassign _ k W _ hlen ⟨_,run_beginRound hl (by rw [hrec]),?_⟩)⟩;have hl2:(W.putObj (w.heap.size+1) (.loop { rec .ready none with state:=.busy })).heap[w.heap.size+1]?=some (.loop { rec .ready none with state:=.busy }):=World.putObj_heap_same hlt;have hk2:(W.putObj (w.heap.size+1) (.loop { rec .ready none with state:=.busy })).heap[w.heap.size]?=some (.deferred (some [])):=(World.putObj_heap_other (by omega)).trans hk;have hw2:Kp W (W.putObj (w.heap.size+1) (.loop { rec .ready none with state:=.busy })):=hKb _ _ _ _ (by omega) hl rfl rfl;refine wpIn_mono (hbody _ k _ (hI.putObj _ hi (by omega) hl rfl) hlen) ?_
   have fin:∀ (jump:Option Code) (W3:World),KeepsOthers (W.putObj (w.heap.size+1) (.loop { rec .ready none with state:=.busy })) W3 ->
     (Instr.endRound (w.heap.size+1) jump).run P W3=.ok (.bool jump.isNone) (W3.putObj (w.heap.size+1) (.loop (rec (if jump.isNone then .ready else .done) jump))) /\
     W3.heap[w.heap.size+1]?=some (.loop { rec .ready none with state:=.busy }) /\
     (W3.putObj (w.heap.size+1) (.loop (rec (if jump.isNone then .ready else .done) jump))).heap[w.heap.size+1]?=some (.loop (rec (if jump.isNone then .ready else .done) jump)) /\
     (W3.putObj (w.heap.size+1) (.loop (rec (if jump.isNone then .ready else .done) jump))).heap[w.heap.size]?=some (.deferred (some [])):=fun jump W3 hk3=>by
    have hl3:=hk3.same _ _ hl2 rfl;have:=run_endRound (P:=P) jump hl3;rw [hrec] at this ⊢;exact ⟨this,by rw [hrec] at hl3;exact hl3,World.putObj_heap_same (Array.getElem?_eq_some_iff.1 hl3).1,(World.putObj_heap_other (by omega)).trans (hk3.same _ _ hk2 rfl)⟩
   rintro e a3 W3 hp
   cases e with
   | normal =>
    obtain ⟨hk3,hkp3,hi3⟩:=hp;obtain ⟨hr,hl3,hl4,hk4⟩:=fin none W3 hk3;exact ⟨_,_,hr,.inl ⟨rfl,⟨hI.putObj _ hi3 (by omega) hl3 rfl,hl4,hk4⟩,hKt (hKt hw2 hkp3) (hKb _ _ _ _ (by omega) hl3 rfl rfl)⟩⟩
   | ret =>
    obtain ⟨hk3,hi3⟩:=hp;obtain ⟨hr,hl3,hl4,hk4⟩:=fin (some .ret) W3 hk3;exact ⟨_,_,hr,.inr ⟨rfl,.ret,(hIx _).putObj _ hi3 (by omega) hl3 rfl,hl4,hk4⟩⟩
   | exit id =>
    obtain ⟨hk3,hi3⟩:=hp;obtain ⟨hr,hl3,hl4,hk4⟩:=fin (some (.exit id)) W3 hk3;exact ⟨_,_,hr,.inr ⟨rfl,.exit id,(hIx _).putObj _ hi3 (by omega) hl3 rfl,hl4,hk4⟩⟩
   | goto t =>
    obtain ⟨hk3,hi3⟩:=hp;obtain ⟨hr,hl3,hl4,hk4⟩:=fin (some (.goto t)) W3 hk3;exact ⟨_,_,hr,.inr ⟨rfl,.goto t,(hIx _).putObj _ hi3 (by omega) hl3 rfl,hl4,hk4⟩⟩
   | panic ch=>exact hp.elim
   | outgrown=>exact hp.elim
  ·-- BEHIND THE ITERATOR
   rintro e W2 ⟨⟨v,rfl⟩,(⟨hi,hl,hk⟩ | ⟨k,hkN,c,hi,hl,hk⟩)⟩
   ·exact ⟨none,_,by have:=run_endLoop (P:=P) hl (by rw [hrec];simp);rw [hrec] at this;exact this,hdone _ _ (nR _) (hI.putObj _ hi (by omega) hl rfl) ((World.putObj_heap_other (by omega)).trans hk)⟩
   ·exact ⟨some c,_,by have:=run_endLoop (P:=P) hl (by rw [hrec];simp);rw [hrec] at this;exact this,hstop _ c k _ (nR _) hkN ((hIx c).putObj _ hi (by omega) hl rfl) ((World.putObj_heap_other (by omega)).trans hk)⟩
end
end Go.Proofs.YthiochcpmfkgcaaGreatDoor.Mx
namespace Go.Proofs.YthiochcpmfkgcaaGreatDoor.Mx
open Go Go.RowKit
def ownPostN (B:Nat) (Kp:World->World->Prop) (I:Nat->World->Prop) (Ix:Code->Nat->World->Prop) (k:Nat) (W:World):Exit->Act->World->Prop
 | .normal,_,W'=>KeepsFrom B W W' /\ Kp W W' /\ I k W'
 | .ret,_,W'=>KeepsFrom B W W' /\ Ix .ret k W'
 | .exit id,_,W'=>KeepsFrom B W W' /\ Ix (.exit id) k W'
 | .goto t,_,W'=>KeepsFrom B W W' /\ Ix (.goto t) k W'
 | .panic _,_,_=>False
 | .outgrown,_,_=>False
section
variable {F:Fence} {n:Nat} {P:Program}
theorem wpIn_rangeFunc_ownN {g:Operand} {ps:Array Tmp} {assign body:Code} {Q:Exit->Act->World->Prop} {a:Act} {w:World}
  (hro:F.round=none) (h1:1<=n) {gf:Nat} {lb:Array Value} (hg:a.eval g=.func (.func gf) #[] lb) (hFg:F.fn gf) (eg:∀ args w,(callFunc gf args).run P w=.ok (.enter gf args) w)
  {encs:Nat->Array Value} {Kp:World->World->Prop} {N:Nat} {w0:World} (hseq:SeqO F (n - 1) P gf lb encs Kp N w0)
  (hKt:∀ {A B C:World},Kp A B->Kp B C->Kp A C) (hKb:∀ (W:World) (l:Nat) (o o':Obj),w.heap.size<=l->W.heap[l]?=some o->o.isCells=false->o.isWalk=false->Kp W (W.putObj l o')) (hb0:Below w0.heap.size w0 w) (hps:∀ k,k<N->(encs k).size=ps.size)
  (I:Nat->World->Prop) (Ix:Code->Nat->World->Prop) (hI:OwnFrom w.heap.size I) (hIx:∀ c,OwnFrom w.heap.size (Ix c)) (h0:I 0 w) (I₁:Nat->Act->World->Prop) (hI₁:∀ a',OwnFrom w.heap.size (fun k W=>I₁ k a' W))
  (hassign:∀ (l:Nat) (x:Nat) (W:World) (K:Act->World->Prop),x<N->I x W->(∀ a' W',KeepsFrom w.heap.size W W'->Kp W W'->I₁ x a' W'->K a' W') ->
   assign.wpIn (F.inRound l) (n - 1 - 1) P (Exit.then K (fun _ _ _=>False)) { tmps:=(ps.zip (encs x)).foldl (fun t (p,v)=>t.setIfInBounds p v) a.tmps,defers:=[] } W)
  (hbody:∀ (l:Nat) (k:Nat) (a':Act) (W:World),I₁ k a' W->k<N->body.wpIn (F.inRound l) (n - 1 - 1) P (ownPostN w.heap.size Kp I Ix (k+1) W) a' W)
  (hdone:∀ (D:Nat) (W:World),w.heap.size<=D->I N W->W.heap[D]?=some (.deferred (some []))->Q .normal { a with defers:={ target:=.collected D,args:=#[] }::a.defers } W)
  (hstop:∀ (D:Nat) (c:Code) (k:Nat) (W:World),w.heap.size<=D->k<=N->Ix c k W->W.heap[D]?=some (.deferred (some []))->c.wpIn F n P Q { a with defers:={ target:=.collected D,args:=#[] }::a.defers } W) :
  (Code.rangeFunc g ps assign body).wpIn F n P Q a w:=by
 refine wpIn_rangeFunc ?_;intro fn hfn;rw [hro];obtain ⟨rec,hrec⟩:∃ rec:LoopState->Option Code->Loop,rec=fun st pe=>{ state:=st,pending:=pe,fn,tmps:=a.tmps,params:=ps,assign,body,defers:=w.heap.size }:=⟨_,rfl⟩
 obtain ⟨W1,hW1⟩:=eX ((w.alloc (.deferred (some []))).alloc (.loop (rec .ready none)));have hL1:W1.heap[w.heap.size+1]?=some (.loop (rec .ready none)):=by
  rw [<- hW1];have:=World.alloc_heap_new (w.alloc (.deferred (some []))) (.loop (rec .ready none));rwa [World.size_alloc] at this
 have hK1:W1.heap[w.heap.size]?=some (.deferred (some [])):=by
  rw [<- hW1];exact (Below.heap_alloc _ _ _ (by simp)).trans (World.alloc_heap_new w _)
 have hI1:I 0 W1:=by rw [<- hW1];exact hI.alloc _ (hI.alloc _ h0)
 have hb1:Below w0.heap.size w0 W1:=by
  rw [<- hW1];exact hb0.trans ((((bR _ w).alloc (nR _) _).alloc (by simp) _).mono hb0.size)
 refine ⟨w.heap.size+1,[{ target:=.collected w.heap.size,args:=#[] }],W1,{ target:=.fn (.func gf) lb,args:=#[.func (.yield (w.heap.size+1)) #[] #[]] },W1,gf,
  #[.func (.yield (w.heap.size+1)) #[] #[]]++lb,W1,?_,?_,?_,?_,fun _=>h1,?_⟩
 ·rw [<- hW1,hrec];exact run_enterLoop_outer _ _ _ _ _
 ·simp only [resolve,hg];simp [go_sem]
 ·intro f' hf';simp [Target.leads] at hf';subst hf';exact hFg
 ·simp [invoke,go_sem,eg]
 ·-- THE ITERATOR's CONTRACT,AT THE CALLER's INVARIANT WITH THE TWO FACTS OF BOOK-KEEPING BESIDE IT
  have hnw:∀ {A B:World} {row:Option Nat},(∀ r,row=some r->W1.heap.size<=r /\ ∃ o:Obj,A.heap[r]?=some o /\ o.isWalk=true)->(∀ r,row=some r->w.heap.size<=r /\ ∃ o:Obj,A.heap[r]?=some o /\ o.isCells=false) :=
   fun hr r e=>by obtain ⟨hB,o,ho,hw⟩:=hr r e;exact ⟨by rw [<- hW1] at hB;simp at hB;omega,o,ho,Obj.not_cells_of_walk hw⟩
  refine (hseq (w.heap.size+1)
   (fun pre W=>I pre W /\ W.heap[w.heap.size+1]?=some (.loop (rec .ready none)) /\ W.heap[w.heap.size]?=some (.deferred (some [])))
   (fun pre W=>∃ c,Ix c pre W /\ W.heap[w.heap.size+1]?=some (.loop (rec .done (some c))) /\ W.heap[w.heap.size]?=some (.deferred (some [])))
   W1 hb1
   (fun s A B row hs hg' hr=>⟨hI s A B row hs.1 hg' (hnw (B:=B) hr),(grownBy_keeps hg' (fun r e=>(hr r e).2) hs.2.1 rfl).trans hs.2.1,(grownBy_keeps hg' (fun r e=>(hr r e).2) hs.2.2 rfl).trans hs.2.2⟩)
   (fun s A B row hs hg' hr=>by
    obtain ⟨c,hc,hl,hk⟩:=hs;exact ⟨c,hIx c s A B row hc hg' (hnw (B:=B) hr),(grownBy_keeps hg' (fun r e=>(hr r e).2) hl rfl).trans hl,(grownBy_keeps hg' (fun r e=>(hr r e).2) hk rfl).trans hk⟩)
   ?_ ⟨hI1,hL1,hK1⟩).mono ?_
  ·-- ONE ROUND
   rintro k W ⟨hi,hl,hk⟩ hlen;have hlt:w.heap.size+1<W.heap.size:=(Array.getElem?_eq_some_iff.1 hl).1;have hy:=run_yield (P:=P) (args:=encs k) hl (by rw [hrec];exact hps k hlen);rw [hrec] at hy;refine ⟨fn,_,assign,body,hy,roundIn_of_wpIn hfn (hassign _ k W _ hlen hi ?_)⟩;intro a' Wa hka hkpa hia;have hla:=hka.same _ _ (by omega) hl rfl;have hkk:=hka.same _ _ (nR _) hk rfl;have hlta:w.heap.size+1<Wa.heap.size:=(Array.getElem?_eq_some_iff.1 hla).1;refine ⟨_,run_beginRound hla (by rw [hrec]),?_⟩;have hl2:(Wa.putObj (w.heap.size+1) (.loop { rec .ready none with state:=.busy })).heap[w.heap.size+1]?=some (.loop { rec .ready none with state:=.busy }):=World.putObj_heap_same hlta;have hk2:(Wa.putObj (w.heap.size+1) (.loop { rec .ready none with state:=.busy })).heap[w.heap.size]?=some (.deferred (some [])):=(World.putObj_heap_other (by omega)).trans hkk;have hw2:Kp W (Wa.putObj (w.heap.size+1) (.loop { rec .ready none with state:=.busy })):=hKt hkpa (hKb _ _ _ _ (by omega) hla rfl rfl);refine wpIn_mono (hbody _ k _ _ ((hI₁ a').putObj _ hia (by omega) hla rfl) hlen) ?_
   have fin:∀ (jump:Option Code) (W3:World),KeepsFrom w.heap.size (Wa.putObj (w.heap.size+1) (.loop { rec .ready none with state:=.busy })) W3 ->
     (Instr.endRound (w.heap.size+1) jump).run P W3=.ok (.bool jump.isNone) (W3.putObj (w.heap.size+1) (.loop (rec (if jump.isNone then .ready else .done) jump))) /\
     W3.heap[w.heap.size+1]?=some (.loop { rec .ready none with state:=.busy }) /\
     (W3.putObj (w.heap.size+1) (.loop (rec (if jump.isNone then .ready else .done) jump))).heap[w.heap.size+1]?=some (.loop (rec (if jump.isNone then .ready else .done) jump)) /\
     (W3.putObj (w.heap.size+1) (.loop (rec (if jump.isNone then .ready else .done) jump))).heap[w.heap.size]?=some (.deferred (some [])):=fun jump W3 hk3=>by
    have hl3:=hk3.same _ _ (by omega) hl2 rfl;have:=run_endRound (P:=P) jump hl3;rw [hrec] at this ⊢;exact ⟨this,by rw [hrec] at hl3;exact hl3,World.putObj_heap_same (Array.getElem?_eq_some_iff.1 hl3).1,(World.putObj_heap_other (by omega)).trans (hk3.same _ _ (nR _) hk2 rfl)⟩
   rintro e a3 W3 hp
   cases e with
   | normal =>
    obtain ⟨hk3,hkp3,hi3⟩:=hp;obtain ⟨hr,hl3,hl4,hk4⟩:=fin none W3 hk3;exact ⟨_,_,hr,.inl ⟨rfl,⟨hI.putObj _ hi3 (by omega) hl3 rfl,hl4,hk4⟩,hKt (hKt hw2 hkp3) (hKb _ _ _ _ (by omega) hl3 rfl rfl)⟩⟩
   | ret =>
    obtain ⟨hk3,hi3⟩:=hp;obtain ⟨hr,hl3,hl4,hk4⟩:=fin (some .ret) W3 hk3;exact ⟨_,_,hr,.inr ⟨rfl,.ret,(hIx _).putObj _ hi3 (by omega) hl3 rfl,hl4,hk4⟩⟩
   | exit id =>
    obtain ⟨hk3,hi3⟩:=hp;obtain ⟨hr,hl3,hl4,hk4⟩:=fin (some (.exit id)) W3 hk3;exact ⟨_,_,hr,.inr ⟨rfl,.exit id,(hIx _).putObj _ hi3 (by omega) hl3 rfl,hl4,hk4⟩⟩
   | goto t =>
    obtain ⟨hk3,hi3⟩:=hp;obtain ⟨hr,hl3,hl4,hk4⟩:=fin (some (.goto t)) W3 hk3;exact ⟨_,_,hr,.inr ⟨rfl,.goto t,(hIx _).putObj _ hi3 (by omega) hl3 rfl,hl4,hk4⟩⟩
   | panic ch=>exact hp.elim
   | outgrown=>exact hp.elim
  ·-- BEHIND THE ITERATOR
   rintro e W2 ⟨⟨v,rfl⟩,(⟨hi,hl,hk⟩ | ⟨k,hkN,c,hi,hl,hk⟩)⟩
   ·exact ⟨none,_,by have:=run_endLoop (P:=P) hl (by rw [hrec];simp);rw [hrec] at this;exact this,hdone _ _ (nR _) (hI.putObj _ hi (by omega) hl rfl) ((World.putObj_heap_other (by omega)).trans hk)⟩
   ·exact ⟨some c,_,by have:=run_endLoop (P:=P) hl (by rw [hrec];simp);rw [hrec] at this;exact this,hstop _ c k _ (nR _) hkN ((hIx c).putObj _ hi (by omega) hl rfl) ((World.putObj_heap_other (by omega)).trans hk)⟩
theorem wpIn_rangeFunc_ownT {g:Operand} {ps:Array Tmp} {assign body:Code} {Q:Exit->Act->World->Prop} {tm:Array Value} {ds:List Deferred} {w:World}
  (hro:F.round=none) (h1:1<=n) {gf:Nat} {lb:Array Value} (hg:({ tmps:=tm,defers:=ds }:Act).eval g=.func (.func gf) #[] lb) (hFg:F.fn gf) (eg:∀ args w,(callFunc gf args).run P w=.ok (.enter gf args) w)
  {encs:Nat->Array Value} {Kp:World->World->Prop} {N:Nat} {w0:World} (hseq:SeqO F (n - 1) P gf lb encs Kp N w0)
  (hKt:∀ {A B C:World},Kp A B->Kp B C->Kp A C) (hKb:∀ (W:World) (l:Nat) (o o':Obj),w.heap.size<=l->W.heap[l]?=some o->o.isCells=false->o.isWalk=false->Kp W (W.putObj l o')) (hb0:Below w0.heap.size w0 w) (hps:∀ k,k<N->(encs k).size=ps.size)
  (I:Nat->World->Prop) (Ix:Code->Nat->World->Prop) (hI:OwnFrom w.heap.size I) (hIx:∀ c,OwnFrom w.heap.size (Ix c)) (h0:I 0 w) (I₁:Array Value->Nat->Act->World->Prop) (hI₁:∀ a',OwnFrom w.heap.size (fun k W=>I₁ tm k a' W))
  (hassign:∀ (l:Nat) (x:Nat) (W:World) (K:Act->World->Prop),x<N->I x W->(∀ a' W',KeepsFrom w.heap.size W W'->Kp W W'->I₁ tm x a' W'->K a' W') ->
   assign.wpIn (F.inRound l) (n - 1 - 1) P (Exit.then K (fun _ _ _=>False)) { tmps:=(ps.zip (encs x)).foldl (fun t (p,v)=>t.setIfInBounds p v) tm,defers:=[] } W)
  (hbody:∀ (l:Nat) (k:Nat) (a':Act) (W:World),I₁ tm k a' W->k<N->body.wpIn (F.inRound l) (n - 1 - 1) P (ownPostN w.heap.size Kp I Ix (k+1) W) a' W)
  (hdone:∀ (D:Nat) (W:World),w.heap.size<=D->I N W->W.heap[D]?=some (.deferred (some []))->Q .normal { tmps:=tm,defers:={ target:=.collected D,args:=#[] }::ds } W)
  (hstop:∀ (D:Nat) (c:Code) (k:Nat) (W:World),w.heap.size<=D->k<=N->Ix c k W->W.heap[D]?=some (.deferred (some []))->c.wpIn F n P Q { tmps:=tm,defers:={ target:=.collected D,args:=#[] }::ds } W) :
  (Code.rangeFunc g ps assign body).wpIn F n P Q { tmps:=tm,defers:=ds } w :=
 wpIn_rangeFunc_ownN hro h1 hg hFg eg hseq hKt hKb hb0 hps I Ix hI hIx h0 (I₁ tm) hI₁ hassign hbody hdone hstop
theorem KeepsFrom.grown {B:Nat} {W W':World} {row:Option Nat} (hg:W.grownBy W' row) (hrow:∀ j,row=some j->j<B∨∃ c t fz,W.heap[j]?=some (.cells c t fz)):KeepsFrom B W W' :=
 ⟨hg.size,fun k o hB hk ho=>(hg.block k (Array.getElem?_eq_some_iff.1 hk).1 (fun e=>by
  rcases hrow k e.symm with h | ⟨c,t,fz,h⟩
  ·omega
  ·rw [hk] at h;injection h with h;subst h;cases ho)).trans hk⟩
end
def laidF (tm:Array Value) (S:List Nat) (u:Nat->Value):Array Value:=S.foldl (fun t i=>t.setIfInBounds i (u i)) tm
theorem wp_loop_free {P:Program} {Q:Exit->Act->World->Prop} {tm:Array Value} {ds:List Deferred} {w:World} {c:Code} (S:List Nat) (rel:Nat->(Nat->Value)->List Deferred->World->Prop) (n₀:Nat)
  (h₀:rel n₀ (fun i=>tm.getD i undef) ds w /\ tm=laidF tm S (fun i=>tm.getD i undef))
  (round:∀ n u ds w,rel n u ds w->∀ (J:Nat->Act->World->Prop) (K:Act->World->Prop),(∀ k a' w',rel k (fun i=>a'.tmps.getD i undef) a'.defers w'->a'.tmps=laidF tm S (fun i=>a'.tmps.getD i undef)->J k a' w')->(∀ a' w',Handed J n a' w'->K a' w') ->
   c.wp P (Exit.then K Q) { tmps:=laidF tm S u,defers:=ds } w):(Code.loop c).wp P Q { tmps:=tm,defers:=ds } w :=
 wp_loop_ghost_k (fun k a w=>∃ u ds,rel k u ds w /\ a={ tmps:=laidF tm S u,defers:=ds }) n₀ ⟨_,ds,h₀.1,by rw [<- h₀.2]⟩ fun n a w h J K hJ hK=>by
  obtain ⟨u,ds,hr,rfl⟩:=h;exact round n u ds w hr J K (fun k a' w' h1 h2=>hJ k a' w' ⟨_,_,h1,by rw [<- h2]⟩) hK
def marksD (ds:List Nat):List Deferred:=ds.map fun D=>{ target:=.collected D,args:=#[] }
structure MarksAt (ds:List Nat) (w:World):Prop where
 here:∀ D∈ds,w.heap[D]?=some (.deferred (some []))
 apart:ds.Nodup
theorem MarksAt.nil (w:World):MarksAt [] w:=⟨by simp,List.nodup_nil⟩
theorem MarksAt.cons {ds:List Nat} {w:World} (h:MarksAt ds w) {D:Nat} (hD:w.heap[D]?=some (.deferred (some []))) (hn:D ∉ ds):MarksAt (D::ds) w :=
 ⟨fun E hE=>(List.mem_cons.1 hE).elim (fun e=>by rw [e];exact hD) (h.here E),List.nodup_cons.2 ⟨hn,h.apart⟩⟩
structure ShutD (ds:List Nat) (w w':World):Prop where
 os:w'.os=w.os
 tape:w'.tape=w.tape
 output:w'.output=w.output
 size:w'.heap.size=w.heap.size
 block:∀ b,b ∉ ds->w'.heap[b]?=w.heap[b]?
theorem leaves_marks {F:Fence} {n:Nat} {P:Program} {fn:Func} {tmps:Array Value} {R:Ending->World->Prop} {u:FrameMode} (hu:u≠.run):∀ (ds:List Nat) (w:World),MarksAt ds w ->
  (∀ w',ShutD ds w w'->LeavesIn F n P fn tmps R [] u w')->LeavesInM F n P fn tmps R (marksD ds) u w
 | [],w,_,h=>h w ⟨rfl,rfl,rfl,rfl,fun _ _=>rfl⟩
 | D::ds,w,hm,h=>by
  have hD:=hm.here D (by simp);have hnd:=List.nodup_cons.1 hm.apart;refine ⟨hu,.inl ⟨D,_,rfl,run_takeDeferred hD,?_⟩⟩;refine leaves_marks hu ds _ ⟨fun E hE=>?_,hnd.2⟩ (fun w' hw'=>h w' ⟨hw'.os,hw'.tape,hw'.output,hw'.size.trans (by simp [World.putObj]),fun b hb=>?_⟩)
  ·rw [World.putObj_heap_other (by rintro rfl;exact hnd.1 hE)];exact hm.here E (by simp [hE])
  ·simp only [List.mem_cons,not_or] at hb;rw [hw'.block b hb.2,World.putObj_heap_other hb.1]
def PostL (P:Program) (fn:Func) (R:Ending->World->Prop):Exit->Act->World->Prop
 | .normal,a,w=>∃ ds,a.defers=marksD ds /\ MarksAt ds w /\ ∀ w',ShutD ds w w'->∃ v,(results fn a.tmps).run P w'=.ok v w' /\ R (.returned v) w'
 | .ret,a,w=>∃ ds,a.defers=marksD ds /\ MarksAt ds w /\ ∀ w',ShutD ds w w'->∃ v,(results fn a.tmps).run P w'=.ok v w' /\ R (.returned v) w'
 | .panic chain,a,w=>∃ ds,a.defers=marksD ds /\ MarksAt ds w /\ ∀ w',ShutD ds w w'->R (.panicked chain) w'
 | _,_,_=>False
theorem calls_of_wp_post {P:Program} {f:FuncId} {fn:Func} {c:Code} {args:Array Value} {w:World} {R:Ending->World->Prop} (hf:P.funcs[f]?=some fn) (hb:fn.body=some c)
  (h:c.wp P (PostL P fn R) { tmps:=args++Array.replicate (fn.ntmps - args.size) undef,defers:=[] } w):Calls P f args w R:=by
 refine (callsIn_wide (n:=5)).1 (callsIn_of_wp_marks hf hb trivial (wpIn_wide.2 (wp_mono h ?_)) rfl);rintro e a w hq
 cases e with
 | normal =>
  obtain ⟨ds,h1,h2,h3⟩:=hq;show LeavesInM _ _ _ _ _ _ a.defers _ _;rw [h1];exact leaves_marks (by intro h;cases h) ds w h2 h3
 | ret =>
  obtain ⟨ds,h1,h2,h3⟩:=hq;show LeavesInM _ _ _ _ _ _ a.defers _ _;rw [h1];exact leaves_marks (by intro h;cases h) ds w h2 h3
 | panic chain =>
  obtain ⟨ds,h1,h2,h3⟩:=hq;show LeavesInM _ _ _ _ _ _ a.defers _ _;rw [h1];exact leaves_marks (by intro h;cases h) ds w h2 h3
 | exit _=>exact hq.elim
 | goto _=>exact hq.elim
 | outgrown=>exact hq.elim
end Go.Proofs.YthiochcpmfkgcaaGreatDoor.Mx
namespace Go.Proofs.YthiochcpmfkgcaaGreatDoor.Mx
open Go Go.RowKit
structure WideF (F:Fence):Prop where
 fn:∀ f,F.fn f
 dep:F.depth=none
 calls:∀ {n:Nat} {P:Program} {f:FuncId} {args:Array Value} {w:World} {R:Ending->World->Prop},Calls P f args w R->CallsIn F n P f args w R
 rows:∀ {n:Nat} {P:Program} {row:String} {args:Array Value} {w:World} {R:Value->World->Prop},Rows P row args w R->RowsIn F n P row args w R
theorem wideF_wide:WideF Fence.wide :=
 ⟨fun _=>trivial,rfl,fun h=>callsIn_wide.2 h,fun h c cs _=>by
  obtain ⟨v,w',r,s⟩:=h c cs;exact ⟨v,w',r,stepsIn_wide.2 s⟩⟩
theorem WideF.inRound {F:Fence} (h:WideF F) (l:Nat):WideF (F.inRound l):=⟨h.fn,h.dep,fun hc=>h.calls hc,fun hr=>h.rows hr⟩
section
variable {F:Fence} {n:Nat} {P:Program} {ops:Array Oper} {md:Region.Mode} {w:World}
theorem wpIn_of_wp_ (hF:WideF F) {o:Oper} {a:Act} {K:Act->World->Prop} {Q:Exit->Act->World->Prop} (hd:∀ c,o.op≠.defer c) (h:o.wp P a w K Q):o.wpIn F n P a w K Q:=by
 have hdep:F.depth.isSome=true->1<=n:=by rw [hF.dep];intro h;cases h
 unfold Oper.wp at h;unfold Oper.wpIn;refine ⟨fun f _=>hF.fn f,?_⟩;rw [Oper.semAt_plain F _ _ hd];generalize (execOp a.eval o).run P w=r at *
 cases r with
 | ok x w' =>
  cases x <;> simp only [Oper.upon] at h <;> simp only [Oper.uponIn]
  case value u=>exact h
  case skip=>exact h
  case defer d=>exact h
  case enter f args=>exact ⟨hdep,hF.calls h⟩
  case row row args=>exact ⟨hdep,hF.rows h⟩
 | halt x w' =>
  cases x <;> simp only [Oper.upon] at h <;> simp only [Oper.uponIn]
  case panic v=>exact h
theorem wpOpIn_of_wpOp (hF:WideF F) {Q:Exit->Act->World->Prop} (hd:∀ (i:Nat) (o:Oper),ops[i]?=some o->∀ c,o.op≠.defer c) (hQ:¬ LetsOut Q) {i:Nat} {K K':Act->World->Prop} {a:Act} (h:∀ a w,K a w->K' a w) (hh:wpOp P ops Q i K a w):wpOpIn F n P ops Q i K' a w:=by
 unfold wpOp at hh;unfold wpOpIn
 cases ho:ops[i]? with
 | none=>simp only [ho] at hh ⊢;exact h _ _ hh
 | some o =>
  simp only [ho] at hh ⊢
  cases hw:Region.wanted o (yielded ops a.tmps) with
  | true =>
   simp only [hw,if_true] at hh ⊢
   rcases hh with hh | hh
   ·exact wpIn_of_wp_ hF (hd i o ho) (Oper.wp_mono h hh)
   ·exact absurd hh.2 hQ
  | false =>
   simp only [hw,Bool.false_eq_true,if_false] at hh ⊢;exact ⟨fun f _=>hF.fn f,h _ _ hh⟩
theorem wpAnyIn_of_wpAny (hF:WideF F) {Q:Exit->Act->World->Prop} (hd:∀ (i:Nat) (o:Oper),ops[i]?=some o->∀ c,o.op≠.defer c) (hQ:¬ LetsOut Q):∀ (fuel:Nat) (listed:Array Bool) (a:Act) (w:World),wpAny P md ops Q fuel listed a w->wpAnyIn F n P md ops Q fuel listed a w
 | 0,_,_,_,h=>h
 | fuel+1,_,_,_,h=>⟨h.1,fun i hi=>wpOpIn_of_wpOp hF hd hQ (fun a w=>wpAnyIn_of_wpAny hF hd hQ fuel _ a w) (h.2 i hi)⟩
theorem wpIn_region_out (hF:WideF F) {id:Nat} {Q:Exit->Act->World->Prop} {a:Act} {l:List Oper} (hm:P.follows .mixedOrders=true) (hn:noDefer l=true) (hQ:¬ LetsOut Q) (h:wpAny P .any l.toArray Q l.toArray.size (Array.replicate l.toArray.size false) a w.drew) :
  (Code.region id l.toArray true).wpIn F n P Q a w :=
 wpIn_region_any hm (wpAnyIn_of_wpAny hF (fun i o ho=>noDefer_spec hn (by simpa using ho)) hQ _ _ _ _ h)
theorem wpOpIn_of_stOp (hF:WideF F) {Q:Exit->Act->World->Prop} (hd:∀ (i:Nat) (o:Oper),ops[i]?=some o->∀ c,o.op≠.defer c) {i:Nat} {K:Act->Prop} {K':Act->World->Prop} {a:Act} (h:∀ a,K a->K' a w) (hh:stOp P ops w i K a):wpOpIn F n P ops Q i K' a w:=by
 unfold stOp at hh;unfold wpOpIn
 cases ho:ops[i]? with
 | none=>simp only [ho] at hh ⊢;exact h _ hh
 | some o =>
  simp only [ho] at hh ⊢
  cases hw:Region.wanted o (yielded ops a.tmps) with
  | true =>
   simp only [hw,if_true] at hh ⊢;exact wpIn_of_wp_ hF (hd i o ho) (Oper.wp_of_still h hh)
  | false =>
   simp only [hw,Bool.false_eq_true,if_false] at hh ⊢;exact ⟨fun f _=>hF.fn f,h _ hh⟩
theorem wpAnyIn_of_head (hF:WideF F) {m g:Nat} {L:Array Bool->Act->Prop} {Q':Exit->Act->World->Prop} (hd:∀ (i:Nat) (o:Oper),ops[i]?=some o->∀ c,o.op≠.defer c) (hL:∀ listed a,L listed a->wpAnyIn F n P md ops Q' g listed a w) :
  ∀ (f:Nat) (listed:Array Bool) (a:Act),wpAnyL P md ops w m L f listed a->wpAnyIn F n P md ops Q' (f+g) listed a w
 | 0,listed,a,h=>by rw [Nat.zero_add];exact hL _ _ h
 | f+1,listed,a,h=>by
  rw [show f+1+g=(f+g)+1 by omega];exact ⟨fun h0=>absurd h0 h.1,fun i hi=>wpOpIn_of_stOp hF hd (fun a' h'=>wpAnyIn_of_head hF hd hL f _ a' h') (h.2 i hi).2⟩
theorem wpAnyIn_of_seq {Q':Exit->Act->World->Prop}:∀ (l:List Oper) (k:Nat) (listed:Array Bool) (a:Act) (w:World),(∀ j,l[j]?=ops[k+j]?) ->
  Region.seqB md ops l.length k listed=true->wpListIn F n P ops Q' l a w->wpAnyIn F n P md ops Q' l.length listed a w
 | [],_,_,_,_,_,hB,h=>⟨by simpa [Region.seqB] using hB,h⟩
 | o::l,k,listed,a,w,hl,hB,h=>by
  have h0:ops[k]?=some o:=by simpa using (hl 0).symm
  simp only [List.length_cons,Region.seqB,Bool.and_eq_true,decide_eq_true_eq] at hB;refine ⟨fun h1=>(by rw [hB.1] at h1;cases h1),fun i hi=>?_⟩;rw [hB.1] at hi;have hik:i=k:=by simpa using hi
  subst hik;have hw:wpOpIn F n P ops Q' i (wpListIn F n P ops Q' l) a w:=by unfold wpOpIn;simp only [h0];exact h
  exact wpOpIn_mono (fun a' w' h'=>wpAnyIn_of_seq l (i+1) _ a' w' (fun j=>by have:=hl (j+1);simpa [Nat.add_assoc,Nat.add_comm 1 j] using this) hB.2 h') hw
theorem wpIn_region_still_tail (hF:WideF F) {id:Nat} {Q:Exit->Act->World->Prop} {a:Act} {l:List Oper} (m:Nat) (hm:P.follows .mixedOrders=true) (hnd:noDefer l=true) (hB:Region.lexTailB .any l.toArray m=true)
  (h:wpStill P l.toArray w.drew (fun a'=>wpListIn F n P l.toArray Q (l.drop m) a' w.drew) (l.take m) a):(Code.region id l.toArray true).wpIn F n P Q a w:=by
 simp only [Region.lexTailB,Bool.and_eq_true,decide_eq_true_eq] at hB;obtain ⟨⟨⟨⟨hsel,hn⟩,hs⟩,hc⟩,hlex⟩:=hB;have hn':m<l.length:=by simpa using hn
 have htl:(l.take m).length=m:=by simp;omega
 have hdl:(l.drop m).length=l.toArray.size - m:=by simp
 have hd:∀ (i:Nat) (o:Oper),l.toArray[i]?=some o->∀ c,o.op≠.defer c:=fun i o ho=>noDefer_spec hnd (by simpa using ho)
 have inv0:HeadInv .any l.toArray m (Array.replicate l.toArray.size false) :=
  ⟨by simp,fun j oj _ hl=>(by rw [getD_replicate_false] at hl;cases hl),fun t _ ht=>getD_in (by simpa using ht) (getD_replicate_false _ _)⟩
 have H:=wpAnyL_lex (md:=.any) (g:=l.toArray.size - m) hsel hs hc hn (l.take m) 0 _ a (fun j hj=>by
  have hj':j<m:=by rw [htl] at hj;exact hj
  simp [hj']) (by simpa using htl) inv0 (by rw [htl];exact hlex) h
 refine wpIn_region_any hm ?_;have:=wpAnyIn_of_head hF (n:=n) (Q':=Q) (g:=l.toArray.size - m) hd (fun listed a' hL=>by
  have:=wpAnyIn_of_seq (F:=F) (n:=n) (P:=P) (md:=.any) (Q':=Q) (l.drop m) m listed a' w.drew (fun j=>by simp [List.getElem?_drop]) (by rw [hdl];exact hL.1) hL.2
  rwa [hdl] at this) _ _ _ H
 rw [htl,show m+(l.toArray.size - m)=l.toArray.size by omega] at this;exact this
/-! Moves of a walk by hand in a region whose readers yield the same in every world that meets S. -/
theorem wanted_none {o:Oper} (h:o.guard=none) (b:Nat->Option Bool):Region.wanted o b=true:=by simp [Region.wanted,h]
theorem held_take {S:World->Prop} {Q:Exit->Act->World->Prop} {i:Nat} {oi:Oper} {v:Value} {fuel:Nat} {listed:Array Bool} {a:Act} {w:World} (hi:ops[i]?=some oi)
  (hc:(Region.noSelect ops&&Region.free md ops listed i&&(Region.ready md ops listed).contains i)=true) (hg:oi.guard=none)
  (hQ:∀ c a w,Q (.panic c) (a.put oi.dst v) w->Q (.panic c) a w) (hy:∀ W,S W->(execOp a.eval oi).run P W=.ok (.value v) W) (hS:S w)
  (h:wpAnyH P md ops Q S fuel (listed.setIfInBounds i true) (a.put oi.dst v) w):wpAnyH P md ops Q S (fuel+1) listed a w:=by
 simp only [Bool.and_eq_true] at hc;exact wpAnyH_take hi hc.1.1 hc.1.2 hc.2 hQ (.inl ⟨wanted_none hg _,hy⟩) hS h
theorem wpOp_do {Q:Exit->Act->World->Prop} {i:Nat} {o:Oper} {K:Act->World->Prop} {a:Act} {w:World} (hi:ops[i]?=some o) (hg:o.guard=none) (h:o.wp P a w K Q):wpOp P ops Q i K a w:=by
 unfold wpOp;simp only [hi,wanted_none hg,if_true];exact .inl h
theorem held_one {S:World->Prop} {Q:Exit->Act->World->Prop} {i:Nat} {o:Oper} {fuel:Nat} {listed:Array Bool} {a:Act} {w:World} (hr:Region.ready md ops listed=[i]) (hi:ops[i]?=some o) (hg:o.guard=none)
  (h:∀ K:Act->World->Prop,(∀ a' w',S w'->wpAnyH P md ops Q S fuel (listed.setIfInBounds i true) a' w'->K a' w')->o.wp P a w K Q):wpAnyH P md ops Q S (fuel+1) listed a w :=
 wpAnyH_all hr (by simp) (fun j hj=>by rw [List.mem_singleton] at hj;subst hj;exact wpOp_do hi hg (h _ fun _ _ h1 h2=>⟨h1,h2⟩))
theorem held_two {S:World->Prop} {Q:Exit->Act->World->Prop} {i j:Nat} {o o':Oper} {fuel:Nat} {listed:Array Bool} {a:Act} {w:World} (hr:Region.ready md ops listed=[i,j]) (hi:ops[i]?=some o) (hg:o.guard=none) (hj:ops[j]?=some o') (hg':o'.guard=none)
  (h:∀ K:Act->World->Prop,(∀ a' w',S w'->wpAnyH P md ops Q S fuel (listed.setIfInBounds i true) a' w'->K a' w')->o.wp P a w K Q)
  (h':∀ K:Act->World->Prop,(∀ a' w',S w'->wpAnyH P md ops Q S fuel (listed.setIfInBounds j true) a' w'->K a' w')->o'.wp P a w K Q):wpAnyH P md ops Q S (fuel+1) listed a w :=
 wpAnyH_all hr (by simp) (fun k hk=>by
  rcases List.mem_cons.1 hk with rfl | hk
  ·exact wpOp_do hi hg (h _ fun _ _ h1 h2=>⟨h1,h2⟩)
  ·rw [List.mem_singleton] at hk;subst hk;exact wpOp_do hj hg' (h' _ fun _ _ h1 h2=>⟨h1,h2⟩))
end
section
variable {P:Program} {md:Region.Mode}
def reachB (md:Region.Mode) (l:List Oper) (n:Nat):Nat->Nat->Nat->Bool
 | 0,a,i=>a==i
 | f+1,a,i=>a==i || (decide (a<n)&&((l[a]?).map fun o=>o.after.any fun e=>Region.binds md e&&reachB md l n f e.on i).getD false)
theorem reach_done {l:List Oper} {n:Nat} {L:Array Bool} (hcl:∀ (i:Nat) (o:Oper),i<n->l[i]?=some o->L.getD i false=true->∀ e∈o.after,Region.binds md e=true->L.getD e.on false=true) :
  ∀ (f a i:Nat),reachB md l n f a i=true->L.getD a false=true->L.getD i false=true
 | 0,a,i,h,ha=>by
  simp only [reachB,beq_iff_eq] at h;rw [<- h];exact ha
 | f+1,a,i,h,ha=>by
  simp only [reachB,Bool.or_eq_true,beq_iff_eq,Bool.and_eq_true,decide_eq_true_eq] at h
  rcases h with h | ⟨h1,h2⟩
  ·rw [<- h];exact ha
  ·cases ho:l[a]? with
   | none=>rw [ho] at h2;cases h2
   | some o =>
    rw [ho] at h2;simp only [Option.map_some,Option.getD_some] at h2;rw [Array.any_eq_true] at h2;obtain ⟨k,hk,h3⟩:=h2;simp only [Bool.and_eq_true] at h3;exact reach_done hcl f _ i h3.2 (hcl a o h1 ho ha _ (Array.getElem_mem hk) h3.1)
def liveB (gd:Nat->Bool) (o:Oper):Bool:=match o.guard with | none=>true | some (j,b)=>gd j==b
def GuardsOk (R:Nat->Value->World->Prop) (gd:Nat->Bool):List Nat->Prop
 | []=>True
 | j::r=>(∀ v w,R j v w->v=.bool (gd j)) /\ GuardsOk R gd r
theorem guardsOk_at {R:Nat->Value->World->Prop} {gd:Nat->Bool}:∀ {js:List Nat} {j:Nat},GuardsOk R gd js->j∈js->∀ v w,R j v w->v=.bool (gd j)
 | [],_,_,h=>absurd h (by simp)
 | x::r,j,hg,h=>by
  rcases List.mem_cons.1 h with h | h
  ·subst h;exact hg.1
  ·exact guardsOk_at hg.2 h
def concGB (md:Region.Mode) (l:List Oper) (n:Nat) (js:List Nat):Bool :=
 decide (n<=l.length)&&(l.take n).all (fun o=>o.dst.isSome)&&decide (concDsts l n).Nodup &&
 ((List.range n).all fun i=>((l[i]?).map fun o=>(o.after.all fun e=>!Region.binds md e || decide (e.on<i))&&(match o.guard with | none=>true | some (j,_)=>decide (j<n)&&decide (j∈js)&&o.after.any fun e=>Region.binds md e&&e.on==j)).getD false) &&
 ((List.range l.length).all fun j=>decide (j<n) || ((List.range n).all fun i=>((l[j]?).map fun o=>o.after.any fun e=>Region.binds md e&&reachB md l n 12 e.on i).getD false))
structure ConcGOk (md:Region.Mode) (l:List Oper) (n:Nat) (js:List Nat):Prop where
 le:n<=l.length
 guard:∀ (i:Nat) (o:Oper),i<n->l[i]?=some o->∀ j b,o.guard=some (j,b)->j<n /\ j∈js /\ ∃ e∈o.after,Region.binds md e=true /\ e.on=j
 dst:∀ (i:Nat) (o:Oper),i<n->l[i]?=some o->∃ s,o.dst=some s
 apart:∀ (i j:Nat) (oi oj:Oper) (s:Nat),i<n->j<n->l[i]?=some oi->l[j]?=some oj->oi.dst=some s->oj.dst=some s->i=j
 back:∀ (i:Nat) (o:Oper),i<n->l[i]?=some o->∀ e∈o.after,Region.binds md e=true->e.on<i
 waits:∀ (j:Nat) (o:Oper),n<=j->l[j]?=some o->∀ i,i<n->∃ e∈o.after,Region.binds md e=true /\ reachB md l n 12 e.on i=true
theorem concGB_ok {l:List Oper} {n:Nat} {js:List Nat} (h:concGB md l n js=true):ConcGOk md l n js:=by
 unfold concGB at h;simp only [Bool.and_eq_true,decide_eq_true_eq,List.all_eq_true,Bool.or_eq_true] at h;obtain ⟨⟨⟨⟨h1,h2⟩,h3⟩,h4⟩,h5⟩:=h;have tk:∀ (i:Nat) (o:Oper),i<n->l[i]?=some o->(l.take n)[i]?=some o:=fun i o hi ho=>by rw [List.getElem?_take_of_lt hi];exact ho
 refine ⟨h1,?_,?_,?_,?_,?_⟩
 ·intro i o hi ho;intro j b hgu;have:=h4 i (List.mem_range.2 hi);rw [ho] at this;simp only [Option.map_some,Option.getD_some,Bool.and_eq_true,hgu,decide_eq_true_eq] at this;obtain ⟨_,⟨h6,h7⟩,h8⟩:=this;rw [Array.any_eq_true] at h8;obtain ⟨k,hk,h8⟩:=h8;simp only [Bool.and_eq_true,beq_iff_eq] at h8;exact ⟨h6,h7,_,Array.getElem_mem hk,h8.1,h8.2⟩
 ·intro i o hi ho;have:=h2 o (gM (tk i o hi ho));exact Option.isSome_iff_exists.1 this
 ·intro i j oi oj s hi hj hoi hoj hsi hsj;exact nodup_filterMap h3 (tk i oi hi hoi) (tk j oj hj hoj) hsi hsj
 ·intro i o hi ho e he hbe;have:=h4 i (List.mem_range.2 hi);rw [ho] at this;simp only [Option.map_some,Option.getD_some,Bool.and_eq_true,Array.all_eq_true_iff_forall_mem,Bool.or_eq_true,Bool.not_eq_true',decide_eq_true_eq] at this
  rcases this.1 e he with h6 | h6
  ·rw [hbe] at h6;cases h6
  ·exact h6
 ·intro j o hj ho i hi;have hjl:=(gS.1 ho).1;have:=(h5 j (List.mem_range.2 hjl)).resolve_left (by omega) i (List.mem_range.2 hi);rw [ho] at this;simp only [Option.map_some,Option.getD_some] at this;rw [Array.any_eq_true] at this;obtain ⟨k,hk,h⟩:=this;simp only [Bool.and_eq_true] at h;exact ⟨_,Array.getElem_mem hk,h.1,h.2⟩
def ConcObsG (P:Program) (md:Region.Mode) (l:List Oper) (n:Nat) (R:Nat->Value->World->Prop) (G:World->World->Prop) (J:Array Bool->World->Prop) (Q:Exit->Act->World->Prop) (a0:Act) (w0:World) (gd:Nat->Bool):List Oper->Nat->Prop
 | [],_=>True
 | o::r,i=>((liveB gd o=true->ConcOb P md l n R G J Q a0 w0 i o) /\ (liveB gd o=false->∀ (L:Array Bool) (w:World),G w0 w->J L w->G w w /\ J (L.setIfInBounds i true) w /\ R i undef w)) /\ ConcObsG P md l n R G J Q a0 w0 gd r (i+1)
theorem concObsG_at {l:List Oper} {n:Nat} {R:Nat->Value->World->Prop} {G:World->World->Prop} {J:Array Bool->World->Prop} {Q:Exit->Act->World->Prop} {a0:Act} {w0:World} {gd:Nat->Bool} :
  ∀ (r:List Oper) (k:Nat),ConcObsG P md l n R G J Q a0 w0 gd r k->∀ (i:Nat) (o:Oper),r[i]?=some o->(liveB gd o=true->ConcOb P md l n R G J Q a0 w0 (k+i) o) /\ (liveB gd o=false->∀ (L:Array Bool) (w:World),G w0 w->J L w->G w w /\ J (L.setIfInBounds (k+i) true) w /\ R (k+i) undef w)
 | [],k,_,i,o,h=>by simp at h
 | x::r,k,hobs,0,o,h=>by
  simp at h;subst h;exact hobs.1
 | x::r,k,hobs,i+1,o,h=>by
  have:=concObsG_at r (k+1) hobs.2 i o (by simpa using h);rw [show k+(i+1)=k+1+i by omega];exact this
theorem wpAny_concG {l:List Oper} {n:Nat} {R:Nat->Value->World->Prop} {G:World->World->Prop} {J:Array Bool->World->Prop} {Q:Exit->Act->World->Prop} {a0:Act} {w0:World}
  {js:List Nat} {gd:Nat->Bool} (hgd:GuardsOk R gd js) (hB:concGB md l n js=true) (hsz:∀ s∈concDsts l n,s<a0.tmps.size) (htrans:∀ {w1 w2:World},G w0 w1->G w1 w2->G w0 w2)
  (hop:ConcObsG P md l n R G J Q a0 w0 gd (l.take n) 0)
  (hend:∀ (f:Nat->Value) (w:World),G w0 w->J ((Array.replicate n true)++(Array.replicate (l.length - n) false)) w->(∀ i s,i<n->(l[i]?).bind (·.dst)=some s->R i (f s) w) ->
   wpAny P md l.toArray Q (l.length - n) ((Array.replicate n true)++(Array.replicate (l.length - n) false)) { tmps:=(concDsts l n).foldl (fun x s=>x.setIfInBounds s (f s)) a0.tmps,defers:=a0.defers } w) :
  ∀ (m:Nat) (L:Array Bool) (a:Act) (w:World),ConcInv md l n R G J a0 w0 L a w->(∀ (i:Nat) (o:Oper),i<n->l[i]?=some o->L.getD i false=true->∀ e∈o.after,Region.binds md e=true->L.getD e.on false=true)->(List.range n).countP (fun i=>!L.getD i true)=m->wpAny P md l.toArray Q (m+(l.length - n)) L a w:=by
 have ok:=concGB_ok hB;have hle:=ok.le;intro m
 induction m with
 | zero =>
  intro L a w inv hcl hc;have hall:∀ i,i<n->L.getD i false=true:=fun i hi=>by
   rw [List.countP_eq_zero] at hc;have:=hc i (List.mem_range.2 hi);rw [getD_flip (by rw [inv.size];omega)] at this
   simpa using this
  have hL:L=(Array.replicate n true)++(Array.replicate (l.length - n) false):=by
   apply Array.ext (by simp [inv.size];omega);intro i h1 h2
   by_cases hi:i<n
   ·have:=hall i hi;simp [h1] at this;rw [this,Array.getElem_append_left (by simpa using hi)];simp
   ·have:=inv.tail i (by omega);simp [h1] at this;rw [this,Array.getElem_append_right (by simp;omega)];simp
  rw [Nat.zero_add];have h1:=hend (fun s=>a.tmps.getD s undef) w inv.grow (hL ▸ inv.inv) (fun i s hi hs=>inv.vals i (hall i hi) s hs)
  rw [hL];have ha:a={ tmps:=(concDsts l n).foldl (fun x s=>x.setIfInBounds s (a.tmps.getD s undef)) a0.tmps,defers:=a0.defers }:=by
   obtain ⟨t,d⟩:=a;have e1:d=a0.defers:=inv.defers;subst e1;congr 1;exact conc_rebuild _ _ _ inv.tmps inv.frame
  rw [ha];exact h1
 | succ m ih =>
  intro L a w inv hcl hc;obtain ⟨k,hk,hkL⟩:∃ k,k<n /\ L.getD k true=false:=by
   have:0<(List.range n).countP (fun i=>!L.getD i true):=by omega
   rw [List.countP_pos_iff] at this;obtain ⟨k,h1,h2⟩:=this;exact ⟨k,List.mem_range.1 h1,by simpa using h2⟩
  rw [show m+1+(l.length - n)=(m+(l.length - n))+1 by omega,wpAny]
  constructor
  ·intro hr;exfalso
   obtain ⟨i,hin,hiL,hmin⟩:∃ i,i<n /\ L.getD i true=false /\ ∀ j,j<i->L.getD j true=true:=by
    have h:∃ i,i<n /\ L.getD i true=false:=⟨k,hk,hkL⟩;have:∀ b i,i<=b->i<n->L.getD i true=false->∃ i,i<n /\ L.getD i true=false /\ ∀ j,j<i->L.getD j true=true:=by
     intro b
     induction b with
     | zero=>intro i hi h1 h2;exact ⟨i,h1,h2,fun j hj=>by omega⟩
     | succ b ihb =>
      intro i hi h1 h2
      by_cases hx:∃ j,j<i /\ L.getD j true=false
      ·obtain ⟨j,hj,h3⟩:=hx;exact ihb j (by omega) (by omega) h3
      ·refine ⟨i,h1,h2,fun j hj=>?_⟩
       cases h4:L.getD j true with
       | true=>rfl
       | false=>exact absurd ⟨j,hj,h4⟩ hx
    exact this k k (nR _) hk hkL
   have hil:i<l.length:=by omega
   have ho:l[i]?=some l[i]:=gE hil;have hmem:i∈Region.ready md l.toArray L:=by
    rw [mem_ready];refine ⟨hiL,l[i],by simp,fun e he hbe=>?_⟩;have hb:=ok.back i _ hin ho e he hbe;rw [<- getD_flip (by rw [inv.size];omega)];exact hmin e.on hb
   rw [hr] at hmem
   cases hmem
  ·intro i hi;obtain ⟨hiL,o,ho,hdep⟩:=mem_ready.1 hi;have ho':l[i]?=some o:=by simpa using ho
   have hin:i<n:=by
    rcases Nat.lt_or_ge i n with h | h
    ·exact h
    ·exfalso;obtain ⟨e,he,hb,hon⟩:=ok.waits i o h ho' k hk;have h1:=hdep e he hb;have h2:L.getD k false=true:=reach_done hcl 12 _ k hon h1;rw [<- getD_flip (by rw [inv.size];omega)] at h2;rw [hkL] at h2
     cases h2
   have hob:=concObsG_at _ 0 hop i o (by rw [List.getElem?_take_of_lt hin];exact ho');rw [Nat.zero_add] at hob;obtain ⟨d,hd⟩:=ok.dst i o hin ho';have hdm:d∈concDsts l n:=List.mem_filterMap.2 ⟨o,gM (show (l.take n)[i]?=some o by rw [List.getElem?_take_of_lt hin];exact ho'),hd⟩
   unfold wpOp;rw [ho];have hw:Region.wanted o (yielded l.toArray a.tmps)=liveB gd o:=by
    unfold Region.wanted liveB
    cases hgu:o.guard with
    | none=>rfl
    | some q =>
     obtain ⟨j,b⟩:=q;obtain ⟨hjn,hjs,e,he,hbe,hon⟩:=ok.guard i o hin ho' j b hgu;have hjL:=hdep e he hbe;rw [hon] at hjL;obtain ⟨oj,hoj⟩:∃ oj,l[j]?=some oj:=⟨_,gE (show j<l.length by omega)⟩;obtain ⟨s,hs⟩:=ok.dst j oj hjn hoj;have hbind:(l[j]?).bind (·.dst)=some s:=by rw [hoj];exact hs
     have hv:=guardsOk_at hgd hjs _ _ (inv.vals j hjL s hbind);have hsm:s∈concDsts l n:=List.mem_filterMap.2 ⟨oj,gM (show (l.take n)[j]?=some oj by rw [List.getElem?_take_of_lt hjn];exact hoj),hs⟩;have hlt:s<a.tmps.size:=by rw [inv.tmps];exact hsz s hsm
     have hget:a.tmps[s]?=some (.bool (gd j)):=by
      rw [Array.getElem?_eq_getElem hlt];simp [hlt] at hv;rw [hv]
     have hy:yielded l.toArray a.tmps j=some (gd j):=by
      unfold yielded;have e1:(l.toArray[j]?).bind (·.dst)=some s:=by simpa using hbind
      rw [e1];show (match a.tmps[s]? with | some (.bool b)=>some b | _=>none)=_;rw [hget]
     dsimp only;rw [hy]
     cases gd j <;> cases b <;> rfl
   have ea:a={ tmps:=a.tmps,defers:=a0.defers }:=by
    have:=inv.defers;obtain ⟨t,d⟩:=a;have e1:d=a0.defers:=this;subst e1
    rfl
   have fin:∀ (v:Value) (w':World),G w w'->(∀ j u,j<n->j≠i->L.getD j false=true->R j u w->R j u w')->J (L.setIfInBounds i true) w'->R i v w'->wpAny P md l.toArray Q (m+(l.length - n)) (L.setIfInBounds i true) (Act.put a o.dst v) w':=by
    intro v w' hG hst hJ hR;refine ih _ _ _ ⟨by simp [inv.size],?_,htrans inv.grow hG,hJ,by rw [hd];exact inv.defers,?_,?_,?_⟩ ?_ ?_
    ·intro j hj;rw [getD_set_ne false (by omega)];exact inv.tail j hj
    ·rw [hd];simp [Act.put,inv.tmps]
    ·intro s hs;have hne:d≠s:=by rintro rfl;exact hs hdm
     rw [hd];show (a.tmps.setIfInBounds d v).getD s undef=_;rw [<- inv.frame s hs];simp [Array.getElem?_setIfInBounds_ne hne]
    ·intro j hj s hs;rw [hd];show R j ((a.tmps.setIfInBounds d v).getD s undef) w'
     by_cases hji:j=i
     ·subst hji;rw [ho'] at hs;simp at hs;rw [hd] at hs;injection hs with hs;subst hs;have hlt:d<a.tmps.size:=by rw [inv.tmps];exact hsz d hdm
      rw [show (a.tmps.setIfInBounds d v).getD d undef=v by simp [hlt]];exact hR
     ·have hj':L.getD j false=true:=by rwa [getD_set_ne false (Ne.symm hji)] at hj
      have hjn:j<n:=by
       rcases Nat.lt_or_ge j n with h | h
       ·exact h
       ·rw [inv.tail j h] at hj';cases hj'
      obtain ⟨oj,hoj⟩:∃ oj,l[j]?=some oj:=⟨_,gE (show j<l.length by omega)⟩;have hsj:oj.dst=some s:=by rw [hoj] at hs;simpa using hs
      have hne:d≠s:=by
       rintro rfl;exact hji (ok.apart j i oj o d hjn hin hoj ho' hsj hd)
      have hv:=inv.vals j hj' s hs;have e:(a.tmps.setIfInBounds d v).getD s undef=a.tmps.getD s undef:=by simp [Array.getElem?_setIfInBounds_ne hne]
      rw [e];exact hst j _ hjn hji hj' hv
    ·have hup:∀ x,L.getD x false=true->(L.setIfInBounds i true).getD x false=true:=fun x hx=>by
      by_cases hxi:x=i
      ·subst hxi;exact getD_set_self (by rw [inv.size];omega)
      ·rw [getD_set_ne false (Ne.symm hxi)];exact hx
     intro j oj hj hoj hjL e he hb
     by_cases hji:j=i
     ·subst hji;rw [ho'] at hoj;injection hoj with hoj;subst hoj;exact hup _ (hdep e he hb)
     ·rw [getD_set_ne false (Ne.symm hji)] at hjL;exact hup _ (hcl j oj hj hoj hjL e he hb)
    ·have hcnt:∀ (r:List Nat),r.Nodup->i∈r->r.countP (fun x=>!(L.setIfInBounds i true).getD x true)+1=r.countP (fun x=>!L.getD x true):=by
      intro r
      induction r with
      | nil=>intro _ h;cases h
      | cons x r ihr =>
       intro hn hm;rw [List.nodup_cons] at hn;rw [List.countP_cons,List.countP_cons]
       by_cases hx:x=i
       ·subst hx;have h0:∀ y∈r,(L.setIfInBounds x true).getD y true=L.getD y true:=fun y hy=>getD_set_ne true (by rintro rfl;exact hn.1 hy)
        have h1:r.countP (fun y=>!(L.setIfInBounds x true).getD y true)=r.countP (fun y=>!L.getD y true):=by
         apply List.countP_congr;intro y hy;rw [h0 y hy]
        rw [h1,hiL];have h2:(L.setIfInBounds x true).getD x true=true:=by rw [getD_flip (by simp [inv.size];omega)];exact getD_set_self (by rw [inv.size];omega)
        rw [h2];simp
       ·have h2:=ihr hn.2 (by rcases List.mem_cons.1 hm with h | h;exact absurd h.symm hx;exact h);rw [getD_set_ne true (Ne.symm hx)];omega
     have:=hcnt (List.range n) List.nodup_range (List.mem_range.2 hin);omega
   dsimp only;rw [hw]
   cases hlv:liveB gd o with
   | false =>
    rw [if_neg (by decide)];obtain ⟨s1,s2,s3⟩:=hob.2 hlv L w inv.grow inv.inv;exact fin undef w s1 (fun _ _ _ _ _ h=>h) s2 s3
   | true =>
   simp only [if_true];have key:=hob.1 hlv L a.tmps w inv.grow inv.inv inv.size hiL hdep inv.frame (fun e he hb s hs=>inv.vals e.on (hdep e he hb) s hs) (wpAny P md l.toArray Q (m+(l.length - n)) (L.setIfInBounds i true));rw [<- ea] at key;exact .inl (key fin)
theorem wp_region_concG {id:Nat} {l:List Oper} (n:Nat) {Q:Exit->Act->World->Prop} {a0:Act} {w:World} (R:Nat->Value->World->Prop) (G:World->World->Prop) (J:Array Bool->World->Prop)
  (js:List Nat) (gd:Nat->Bool) (hm:P.follows .mixedOrders=true) (hB:concGB .any l n js=true) (hS:Region.seqB .any l.toArray (l.length - n) n ((Array.replicate n true)++(Array.replicate (l.length - n) false))=true)
  (hsz:((concDsts l n).all fun s=>decide (s<a0.tmps.size))=true) (h0:G w.drew w.drew) (hJ:J (Array.replicate l.length false) w.drew)
  (htrans:∀ {w1 w2:World},G w.drew w1->G w1 w2->G w.drew w2)
  (hgd:GuardsOk R gd js) (hop:ConcObsG P .any l n R G J Q a0 w.drew gd (l.take n) 0)
  (hend:∀ (f:Nat->Value) (w1:World),G w.drew w1->J ((Array.replicate n true)++(Array.replicate (l.length - n) false)) w1->(∀ i s,i<n->(l[i]?).bind (·.dst)=some s->R i (f s) w1) ->
   wpList P l.toArray Q (l.drop n) { tmps:=(concDsts l n).foldl (fun x s=>x.setIfInBounds s (f s)) a0.tmps,defers:=a0.defers } w1) :
  (Code.region id l.toArray true).wp P Q a0 w:=by
 refine wp_region_any hm ?_;have hle:=(concGB_ok hB).le;have hrep:∀ j,(Array.replicate l.length false).getD j false=false:=fun j=>by
  by_cases h:j<l.length <;> simp [h]
 have hd:(l.drop n).length=l.length - n:=by simp
 have key:=wpAny_concG (P:=P) (md:=.any) (Q:=Q) (a0:=a0) (w0:=w.drew) hgd hB (by simpa using hsz) htrans hop (fun f w1 h1 h2 h3=>by
  have:=wpAny_of_seq (P:=P) (md:=.any) (Q':=Q) (l.drop n) n _ _ w1 (fun j=>by simp [List.getElem?_drop]) (by rw [hd];exact hS) (hend f w1 h1 h2 h3)
  rwa [hd] at this) n (Array.replicate l.length false) a0 w.drew
  ⟨by simp,fun j _=>hrep j,h0,hJ,rfl,rfl,fun _ _=>rfl,fun i hi=>by rw [hrep] at hi;cases hi⟩ (fun i o hi ho h=>by rw [hrep] at h;cases h) (by
   rw [List.countP_eq_length.2 (fun i hi=>by
    have h:=List.mem_range.1 hi;rw [getD_flip (by simp;omega),hrep];rfl)]
   simp)
 have e:n+(l.length - n)=l.toArray.size:=by simp;omega
 rw [e] at key;have e2:l.toArray.size=l.length:=by simp
 rw [<- e2] at key;exact key
theorem obsG_of {l:List Oper} {n:Nat} {R:Nat->Value->World->Prop} {G:World->World->Prop} {J:Array Bool->World->Prop} {Q:Exit->Act->World->Prop} {a0:Act} {w0:World}:∀ (r:List Oper) (i:Nat),(r.all fun o=>o.guard.isNone)=true->ConcObs P md l n R G J Q a0 w0 r i->ConcObsG P md l n R G J Q a0 w0 (fun _=>true) r i
 | [],_,_,_=>trivial
 | o::r,i,h,k=>by
  rw [List.all_cons,Bool.and_eq_true] at h;have hl:liveB (fun _=>true) o=true:=by
   unfold liveB
   cases ho:o.guard with
   | none=>rfl
   | some x=>rw [ho] at h;cases h.1
  exact ⟨⟨fun _=>k.1,fun e=>by rw [hl] at e;cases e⟩,obsG_of r (i+1) h.2 k.2⟩
theorem wp_region_concT {id:Nat} {l:List Oper} (n:Nat) {Q:Exit->Act->World->Prop} {a0:Act} {w:World} (R:Nat->Value->World->Prop) (G:World->World->Prop) (J:Array Bool->World->Prop)
  (hm:P.follows .mixedOrders=true) (hB:(concGB .any l n []&&((l.take n).all fun o=>o.guard.isNone))=true) (hS:Region.seqB .any l.toArray (l.length - n) n ((Array.replicate n true)++(Array.replicate (l.length - n) false))=true)
  (hsz:((concDsts l n).all fun s=>decide (s<a0.tmps.size))=true) (h0:G w.drew w.drew) (hJ:J (Array.replicate l.length false) w.drew)
  (htrans:∀ {w1 w2:World},G w.drew w1->G w1 w2->G w.drew w2)
  (hop:ConcObs P .any l n R G J Q a0 w.drew (l.take n) 0)
  (hend:∀ (f:Nat->Value) (w1:World),G w.drew w1->J ((Array.replicate n true)++(Array.replicate (l.length - n) false)) w1->(∀ i s,i<n->(l[i]?).bind (·.dst)=some s->R i (f s) w1) ->
   wpList P l.toArray Q (l.drop n) { tmps:=(concDsts l n).foldl (fun x s=>x.setIfInBounds s (f s)) a0.tmps,defers:=a0.defers } w1) :
  (Code.region id l.toArray true).wp P Q a0 w:=by
 rw [Bool.and_eq_true] at hB;exact wp_region_concG n R G J [] (fun _=>true) hm hB.1 hS hsz h0 hJ htrans trivial (obsG_of _ _ hB.2 hop) hend
end
end Go.Proofs.YthiochcpmfkgcaaGreatDoor.Mx
namespace Go.Proofs.YthiochcpmfkgcaaGreatDoor.Gl
abbrev Nd:=Nat × Nat
structure Al where
 prod:Nat
 src:Nat
 til:Nat
 cuts:List Nat
deriving DecidableEq
structure Tab where
 shift:Nat->UInt8->Option Nat
 goto_:Nat->Int->Option Nat
 done:Nat->List Nat
 len:Nat->Nat
 left:Nat->Int
def Way (E:Nd->Nd->Prop):Nat->Nd->Nd->List Nat->Prop
 | 0,x,y,c=>x=y /\ c=[]
 | n+1,x,y,c=>∃ z d,E x z /\ Way E n z y d /\ c=d++[x.2]
theorem Way.mono {E F:Nd->Nd->Prop} (h:∀ x y,E x y->F x y):∀ {n:Nat} {x y:Nd} {c:List Nat},Way E n x y c->Way F n x y c
 | 0,_,_,_,k=>k
 | n+1,_,_,_,⟨z,d,k1,k2,k3⟩=>⟨z,d,h _ _ k1,Way.mono h k2,k3⟩
structure Closed (T:Tab) (w:List UInt8) (N:Nd->Prop) (E:Nd->Nd->Prop) (A:Al->Prop):Prop where
 start:N (0,0)
 node:∀ x y,E x y->N x
 shift:∀ s i b t,N (s,i)->w[i]?=some b->T.shift s b=some t->E (t,i+1) (s,i)
 alt:∀ s j p y c,N (s,j)->j<=w.length->p∈T.done s->Way E (T.len p) (s,j) y c->A ⟨p,y.2,j,c⟩
 goto_:∀ s j p y c t,N (s,j)->j<=w.length->p∈T.done s->Way E (T.len p) (s,j) y c->T.goto_ y.1 (T.left p)=some t->E (t,j) y
def LN (T:Tab) (w:List UInt8) (x:Nd):Prop:=∀ N E A,Closed T w N E A->N x
def LE (T:Tab) (w:List UInt8) (x y:Nd):Prop:=∀ N E A,Closed T w N E A->E x y
def LA (T:Tab) (w:List UInt8) (a:Al):Prop:=∀ N E A,Closed T w N E A->A a
theorem least_closed (T:Tab) (w:List UInt8):Closed T w (LN T w) (LE T w) (LA T w) where
 start:=fun N E A h=>h.start
 node:=fun x y k N E A h=>h.node x y (k N E A h)
 shift:=fun s i b t k1 k2 k3 N E A h=>h.shift s i b t (k1 N E A h) k2 k3
 alt:=fun s j p y c k1 k2 k3 k4 N E A h=>h.alt s j p y c (k1 N E A h) k2 k3 (k4.mono fun _ _ k=>k N E A h)
 goto_:=fun s j p y c t k1 k2 k3 k4 k5 N E A h=>h.goto_ s j p y c t (k1 N E A h) k2 k3 (k4.mono fun _ _ k=>k N E A h) k5
theorem least_ind {T:Tab} {w:List UInt8} {N:Nd->Prop} {E:Nd->Nd->Prop} {A:Al->Prop} (h:Closed T w (fun x=>LN T w x /\ N x) (fun x y=>LE T w x y /\ E x y) (fun a=>LA T w a /\ A a)) :
  (∀ x,LN T w x->N x) /\ (∀ x y,LE T w x y->E x y) /\ (∀ a,LA T w a->A a) :=
 ⟨fun x k=>(k _ _ _ h).2,fun x y k=>(k _ _ _ h).2,fun a k=>(k _ _ _ h).2⟩

/-! The run. -/
structure Rn where
  left:Nat
  nodes:List Nd
  edges:List (Nd × Nd)
  alts:List Al
  tries:List (Nd × Nd)
inductive Out (α:Type) where
 | stop (r:Rn)
 | ok (a:α)
def rowF (r:Rn) (i:Nat):List Nat:=(r.nodes.filter fun x=>x.2==i).map (·.1)
def backF (edges:List (Nd × Nd)) (x:Nd):List Nd:=(edges.filter fun e=>e.1==x).map (·.2)
def waysF (edges:List (Nd × Nd)):Nat->Nd->List (Nd × List Nat)
 | 0,x=>[(x,[])]
 | n+1,x=>(backF edges x).flatMap fun z=>(waysF edges n z).map fun y=>(y.1,y.2++[x.2])
def pushF (r:Rn) (x:Nd):Rn:=if x∈r.nodes then r else { r with nodes:=r.nodes++[x] }
def linkF (r:Rn) (x y:Nd):Out (Rn × Bool) :=
 if (x,y)∈r.edges then .ok ({ r with tries:=r.tries++[(x,y)] },false)
 else if r.left=0 then .stop { r with tries:=r.tries++[(x,y)] }
 else .ok ({ pushF r x with left:=r.left - 1,edges:=r.edges++[(x,y)],tries:=r.tries++[(x,y)] },true)
def altF (r:Rn) (a:Al):Out (Rn × Bool) :=
 if a∈r.alts then .ok (r,false)
 else if r.left=0 then .stop r
 else .ok ({ r with left:=r.left - 1,alts:=r.alts++[a] },true)
def foundF (T:Tab) (j p:Nat):List (Nd × List Nat)->Rn->Bool->Out (Rn × Bool)
 | [],r,f=>.ok (r,f)
 | y::l,r,f =>
  match altF r ⟨p,y.1.2,j,y.2⟩ with
  | .stop r=>.stop r
  | .ok (r,f1) =>
   match T.goto_ y.1.1 (T.left p) with
   | none=>foundF T j p l r (f || f1)
   | some t =>
    match linkF r (t,j) y.1 with
    | .stop r=>.stop r
    | .ok (r,f2)=>foundF T j p l r (f || f1 || f2)
def prodsF (T:Tab) (x:Nd):List Nat->Rn->Bool->Out (Rn × Bool)
 | [],r,f=>.ok (r,f)
 | p::l,r,f =>
  match foundF T x.2 p (waysF r.edges (T.len p) x) r f with
  | .stop r=>.stop r
  | .ok (r,f)=>prodsF T x l r f
def reduceF (T:Tab) (r:Rn) (x:Nd):Out (Rn × Bool):=prodsF T x (T.done x.1) r false
def passF (T:Tab) (at_:Nat):List Nat->Rn->Out (Rn × Bool)
 | [],r=>.ok (r,false)
 | s::l,r =>
  match reduceF T r (s,at_) with
  | .stop r=>.stop r
  | .ok (r,true)=>.ok (r,true)
  | .ok (r,false)=>passF T at_ l r
def againF (T:Tab) (at_:Nat):Nat->Rn->Out Rn
 | 0,r=>.stop r
 | f+1,r =>
  match passF T at_ (rowF r at_) r with
  | .stop r=>.stop r
  | .ok (r,true)=>againF T at_ f r
  | .ok (r,false)=>.ok r
def shiftsF (T:Tab) (at_:Nat) (b:UInt8):List Nat->Rn->Out Rn
 | [],r=>.ok r
 | s::l,r =>
  match T.shift s b with
  | none=>shiftsF T at_ b l r
  | some t =>
   match linkF r (t,at_+1) (s,at_) with
   | .stop r=>.stop r
   | .ok (r,_)=>shiftsF T at_ b l r
def placeF (T:Tab) (w:List UInt8) (at_:Nat) (r:Rn):Out Rn :=
 match againF T at_ (r.left+1) r with
 | .stop r=>.stop r
 | .ok r =>
  match w[at_]? with
  | none=>.ok r
  | some b=>shiftsF T at_ b (rowF r at_) r
def goneGo (T:Tab) (w:List UInt8):Nat->Nat->Rn->Out Rn
 | 0,_,r=>.ok r
 | k+1,at_,r =>
  if rowF r at_=[] then .ok r
  else
   match placeF T w at_ r with
   | .stop r=>.stop r
   | .ok r=>goneGo T w k (at_+1) r
def newF (budget:Nat):Rn:=⟨budget,[(0,0)],[],[],[]⟩
def goneF (T:Tab) (w:List UInt8) (budget:Nat):Out Rn:=goneGo T w (w.length+1) 0 (newF budget)

/-! Ways, as they are found. -/
def eP (l:List (Nd × Nd)) (x y:Nd):Prop:=(x,y)∈l
theorem backF_mem {l:List (Nd × Nd)} {x z:Nd}:z∈backF l x↔eP l x z:=by
 unfold backF eP;simp only [List.mem_map,List.mem_filter,beq_iff_eq]
 constructor
 ·rintro ⟨e,⟨h1,h2⟩,h3⟩;obtain ⟨a,b⟩:=e;simp only at h2 h3;rw [<- h2,<- h3];exact h1
 ·intro h;exact ⟨(x,z),⟨h,rfl⟩,rfl⟩
theorem waysF_mem {l:List (Nd × Nd)}:∀ {n:Nat} {x:Nd} {y:Nd × List Nat},y∈waysF l n x↔Way (eP l) n x y.1 y.2
 | 0,x,y=>by
  unfold waysF Way;rw [List.mem_singleton]
  constructor
  ·rintro rfl;exact ⟨rfl,rfl⟩
  ·rintro ⟨h1,h2⟩;exact Prod.ext h1.symm h2
 | n+1,x,y=>by
  unfold waysF Way;simp only [List.mem_flatMap,List.mem_map]
  constructor
  ·rintro ⟨z,hz,u,hu,rfl⟩;exact ⟨z,u.2,backF_mem.1 hz,waysF_mem.1 hu,rfl⟩
  ·rintro ⟨z,d,h1,h2,h3⟩;exact ⟨z,backF_mem.2 h1,(y.1,d),waysF_mem.2 h2,Prod.ext rfl h3.symm⟩
theorem rowF_mem {r:Rn} {i s:Nat}:s∈rowF r i↔(s,i)∈r.nodes:=by
 unfold rowF;simp only [List.mem_map,List.mem_filter,beq_iff_eq]
 constructor
 ·rintro ⟨⟨a,b⟩,⟨h1,h2⟩,h3⟩;simp only at h2 h3;rw [<- h2,<- h3];exact h1
 ·intro h;exact ⟨(s,i),⟨h,rfl⟩,rfl⟩
end Go.Proofs.YthiochcpmfkgcaaGreatDoor.Gl
