/- Walks and plain laws that the last text stands on: TbMakeA, GlCtx, GlPush, GlTold, GlWalk, GlWays. -/
import Derived.Test.YthiochcpmfkgcaaGreatDoorSo12
import Derived.Test.YthiochcpmfkgcaaGreatDoorSo13
set_option linter.unusedVariables false
set_option linter.unusedSimpArgs false
set_option maxRecDepth 100000
set_option maxHeartbeats 16000000
namespace Go.Proofs.YthiochcpmfkgcaaGreatDoor.Tb
open Go Go.RowKit Go.Proofs Mx
def toSt (s:SM):St:=⟨s.items,s.edges,s.done⟩
theorem numberF_prefix {all all':List (List It)} {l:List It} {n:Nat} (h:numberF all l=some (n,all')):∃ t,all'=all++t:=by
 unfold numberF at h
 split at h
 ·simp at h;exact ⟨[],by simp [h.2]⟩
 ·split at h
  ·cases h
  ·simp at h;exact ⟨[l],h.2.symm⟩
theorem numbersF_prefix:∀ (L:List (Sy × List It)) (all all':List (List It)) (e:List (Sy × Nat)),numbersF all L=some (e,all')->∃ t,all'=all++t
 | [],all,all',e,h=>by simp [numbersF] at h;exact ⟨[],by simp [h.2]⟩
 | (s,l)::L,all,all',e,h=>by
  rw [numbersF] at h
  cases h1:numberF all l with
  | none=>rw [h1] at h;cases h
  | some r =>
   obtain ⟨k,a1⟩:=r;rw [h1] at h;dsimp only at h
   cases h2:numbersF a1 L with
   | none=>rw [h2] at h;cases h
   | some r =>
    obtain ⟨e2,a2⟩:=r;rw [h2] at h;simp at h;obtain ⟨_,rfl⟩:=h;obtain ⟨t1,p1⟩:=numberF_prefix h1;obtain ⟨t2,p2⟩:=numbersF_prefix L a1 a2 e2 h2;exact ⟨t1++t2,by rw [p2,p1,List.append_assoc]⟩
structure MakeI (g:Gr) (sm:List SM) (n:Nat):Prop where
 go:makeF g=(statesGo g (16385 - n) n (sm.map (·.items))).map ((sm.take n).map toSt++·)
 next:∀ (k:Nat) (s:SM),k<n->sm[k]?=some s->s.next=nextF s.edges
 bare:∀ (k:Nat) (s:SM),n<=k->sm[k]?=some s->Bare s
 le:n<=sm.length
 many:sm.length<=16384
theorem MakeI.start (g:Gr) (s:SM) (hi:s.items=closedF g ((ofS g g.start).map (·,0))) (hb:Bare s):MakeI g [s] 0:=by
 refine ⟨?_,fun k s h=>by omega,fun k s' _ h=>?_,Nat.zero_le _,by simp⟩
 ·unfold makeF;rw [List.map_singleton,hi]
  cases statesGo g (16385 - 0) 0 [closedF g ((ofS g g.start).map (·,0))] <;> rfl
 ·cases k with
  | zero=>simp at h;subst h;exact hb
  | succ k=>simp at h
theorem MakeI.none {g:Gr} {sm:List SM} {n:Nat} (h:MakeI g sm n) {s:SM} (hs:sm[n]?=some s) (hn:numbersF (sm.map (·.items)) (leadsF g s.items)=none):makeF g=none:=by
 rw [h.go];have hlt:=(gS.1 hs).1;have:=h.many;obtain ⟨f,hf⟩:∃ f,16385 - n=f+1:=⟨16384 - n,by omega⟩;rw [hf,statesGo,List.getElem?_map,hs];dsimp only [Option.map_some];rw [hn]
 rfl
theorem MakeI.step {g:Gr} {sm sm':List SM} {n:Nat} (h:MakeI g sm n) {s s':SM} (hs:sm[n]?=some s) {es:List (Sy × Nat)} {all':List (List It)}
  (hn:numbersF (sm.map (·.items)) (leadsF g s.items)=some (es,all')) (hall:sm'.map (·.items)=all') (hs':sm'[n]?=some s') (he:s'.edges=es) (hd:s'.done=doneF g s.items) (hx:s'.next=nextF es)
  (hold:∀ k,k≠n->k<sm.length->sm'[k]?=sm[k]?) (hnew:∀ k x,sm.length<=k->sm'[k]?=some x->Bare x) (hm:sm'.length<=16384):MakeI g sm' (n+1):=by
 have hlt:=(gS.1 hs).1;have hlt':=(gS.1 hs').1;have:=h.many;obtain ⟨t,ht⟩:=numbersF_prefix _ _ _ _ hn;have hit:s'.items=s.items:=by
  have h1:(sm'.map (·.items))[n]?=some s'.items:=by rw [List.getElem?_map,hs'];rfl
  rw [hall,ht,List.getElem?_append_left (by simpa using hlt),List.getElem?_map,hs] at h1
  simpa using h1.symm
 refine ⟨?_,?_,?_,by omega,hm⟩
 ·rw [h.go];obtain ⟨f,hf⟩:∃ f,16385 - n=f+1:=⟨16384 - n,by omega⟩;have hf2:16385 - (n+1)=f:=by omega
  rw [hf,hf2,statesGo,List.getElem?_map,hs];dsimp only [Option.map_some];rw [hn,hall];dsimp only;have htk:sm'.take (n+1)=sm.take n++[s']:=by
   rw [List.take_add_one,hs'];have:sm'.take n=sm.take n:=by
    apply List.ext_getElem?;intro k;rw [List.getElem?_take,List.getElem?_take]
    by_cases hk:k<n
    ·rw [if_pos hk,if_pos hk];exact hold k (by omega) (by omega)
    ·rw [if_neg hk,if_neg hk]
   rw [this];rfl
  rw [htk];have hst:toSt s'=⟨s.items,es,doneF g s.items⟩:=by unfold toSt;rw [hit,he,hd]
  cases statesGo g f (n+1) all' with
  | none=>rfl
  | some l=>simp [hst]
 ·intro k x hk hx2
  by_cases e:k=n
  ·subst e;rw [hs'] at hx2;injection hx2 with hx2;subst hx2;rw [hx,he]
  ·rw [hold k e (by omega)] at hx2;exact h.next k x (by omega) hx2
 ·intro k x hk hx2
  by_cases e:k<sm.length
  ·rw [hold k (by omega) e] at hx2;exact h.bare k x (by omega) hx2
  ·exact hnew k x (by omega) hx2
theorem MakeI.done {g:Gr} {sm:List SM} (h:MakeI g sm sm.length):makeF g=some (sm.map toSt):=by
 rw [h.go];have:=h.many;obtain ⟨f,hf⟩:∃ f,16385 - sm.length=f+1:=⟨16384 - sm.length,by omega⟩;rw [hf,statesGo,List.getElem?_map,List.getElem?_eq_none (nR _)];simp
end Go.Proofs.YthiochcpmfkgcaaGreatDoor.Tb
namespace Go.Proofs.YthiochcpmfkgcaaGreatDoor.Tb
open Go Go.RowKit Go.Proofs Mx
def ofT (g:Gr) (i:Nat) (s:Int):List Nat:=(List.range i).filter fun n=>match g.prods[n]? with | some p=>p.left==s&&p.role != 11 | none=>false
theorem ofT_all (g:Gr) (s:Int):ofT g g.prods.length s=ofS g s:=rfl
theorem ofT_succ (g:Gr) (i:Nat) (s:Int) (p:Pr) (h:g.prods[i]?=some p):ofT g (i+1) s=ofT g i s++(if p.left=s /\ p.role≠11 then [i] else []):=by
 unfold ofT;rw [List.range_succ,List.filter_append,List.filter_cons,List.filter_nil,h]
 by_cases h1:p.left=s <;> by_cases h2:p.role=11 <;> simp [h1,h2]
theorem ofT_len (g:Gr) (i:Nat) (s:Int):(ofT g i s).length<=i:=Nat.le_trans (List.length_filter_le _ _) (by simp)
structure OfG (g:Gr) (B ob i:Nat) (gv:Nat->Value) (W:World):Prop where
 blk:Blk W ob 57 ((List.range g.sorts.length).map gv).toArray
 row:∀ s,s<g.sorts.length->W.ownsRow B 3 1 (gv s) (ofT g i (s:Int)).length (flatK encN (ofT g i (s:Int)))
 apart:∀ s t,s<g.sorts.length->t<g.sorts.length->s≠t->∀ x,(gv s).ownBlock=some x->(gv t).ownBlock≠some x
 low:ob<B
theorem OfG.below {g:Gr} {B ob i:Nat} {gv:Nat->Value} {W W':World} (h:OfG g B ob i gv W) (hb:Below W.heap.size W W'):OfG g B ob i gv W' :=
 ⟨h.blk.below hb h.blk.lt,fun s hs=>row_below (h.row s hs) hb,h.apart,h.low⟩
theorem OfG.grown {g:Gr} {B ob i:Nat} {gv:Nat->Value} {W W':World} (h:OfG g B ob i gv W) {B' n z:Nat} {e:TypeId} {v:Value} {xs:List Value} (ho:W.ownsRow B' e z v n xs) (he:57≠e /\ 3≠e) (hg:W.grownBy W' v.ownBlock):OfG g B ob i gv W' :=
 ⟨h.blk.grown hg (blk_ne_row h.blk ho he.1),fun s hs=>(h.row s hs).kept hg (row_ne_row (h.row s hs) ho he.2),h.apart,h.low⟩
theorem OfG.start {g:Gr} {B ob:Nat} {W:World} (h:Blk W ob 57 ((List.range g.sorts.length).map (fun _=>Value.slice none 0 0)).toArray) (hl:ob<B):OfG g B ob 0 (fun _=>.slice none 0 0) W :=
 ⟨h,fun s _=>⟨rfl,.inl ⟨rfl,rfl⟩⟩,(fun s t _ _ _ x hx=>by cases hx),hl⟩
theorem OfG.skip {g:Gr} {B ob i:Nat} {gv:Nat->Value} {W:World} (h:OfG g B ob i gv W) {p:Pr} (hp:g.prods[i]?=some p) (hr:p.role=11):OfG g B ob (i+1) gv W :=
 ⟨h.blk,(fun s hs=>by rw [ofT_succ g i s p hp,if_neg (by simp [hr]),List.append_nil];exact h.row s hs),h.apart,h.low⟩
theorem OfG.push {g:Gr} {B ob i:Nat} {gv:Nat->Value} {W W1:World} (h:OfG g B ob i gv W) {p:Pr} (hp:g.prods[i]?=some p) (hr:p.role≠11) {s:Nat} (hs:s<g.sorts.length) (hps:p.left=(s:Int))
  (hg:W.grownBy W1 (gv s).ownBlock) {v':Value} (hrow:W1.ownsRow B 3 1 v' ((ofT g i (s:Int)).length+1) (flatK encN (ofT g i (s:Int))++encN i)) (hnew:∀ b,v'.ownBlock=some b->(gv s).ownBlock=some b∨W.heap.size<=b) :
  OfG g B ob (i+1) (fun t=>if t=s then v' else gv t) (W1.setCell ⟨ob,s,none⟩ v'):=by
 have hlt:∀ t,t<g.sorts.length->∀ b,(gv t).ownBlock=some b->B<=b /\ b<W.heap.size:=fun t ht b hb=>⟨(own_ty (h.row t ht) b hb).1,((h.row t ht).lt b hb).2⟩;have hob1:Blk W1 ob 57 ((List.range g.sorts.length).map gv).toArray:=h.blk.grown hg (by intro e;have:=(hlt s hs ob e.symm).1;have:=h.low;omega)
 have hkeep:∀ {t:TypeId} {z n:Nat} {u:Value} {xs:List Value},W1.ownsRow B t z u n xs->(W1.setCell ⟨ob,s,none⟩ v').ownsRow B t z u n xs:=fun hu =>
  hu.kept (grown_set (grown_refl W1 (some ob)) (p:=⟨ob,s,none⟩) rfl v') (row_ne_low hu h.low)
 refine ⟨?_,?_,?_,h.low⟩
 ·have h1:=hob1.set_ s v'
  have e:(((List.range g.sorts.length).map gv).toArray.setIfInBounds s v')=((List.range g.sorts.length).map (fun t=>if t=s then v' else gv t)).toArray:=by
   rw [List.setIfInBounds_toArray];congr 1;apply List.ext_getElem?;intro k
   by_cases hk:k<g.sorts.length
   ·by_cases e:k=s
    ·subst e;rw [List.getElem?_set_self (by simpa using hk)];simp [hk]
    ·rw [List.getElem?_set_ne (Ne.symm e)];simp [hk,e]
   ·rw [List.getElem?_eq_none (by simp;omega),List.getElem?_eq_none (by simp;omega)]
  rw [<- e];exact h1
 ·intro t ht;rw [ofT_succ g i t p hp]
  by_cases e:t=s
  ·subst e;have e1:(if p.left=(t:Int) /\ p.role≠11 then [i] else [])=[i]:=if_pos ⟨hps,hr⟩;rw [e1,List.length_append,<- flatK_snoc,if_pos rfl];exact hkeep hrow
  ·have e1:(if p.left=(t:Int) /\ p.role≠11 then [i] else [])=[]:=if_neg (by rw [hps];rintro ⟨h,_⟩;omega);rw [e1,List.append_nil,if_neg e];refine hkeep ((h.row t ht).kept hg ?_)
   cases hb:(gv t).ownBlock with
   | none=>exact .inl rfl
   | some b=>exact .inr (fun e2=>h.apart t s ht hs e b hb e2.symm)
 ·intro a t ha ht hne x hx
  by_cases e1:a=s
  ·subst e1;have e2:t≠a:=Ne.symm hne;rw [if_pos rfl] at hx;rw [if_neg e2]
   rcases hnew x hx with h3 | h3
   ·exact h.apart a t ha ht hne x h3
   ·intro h4;have:=(hlt t ht x h4).2;omega
  ·rw [if_neg e1] at hx
   by_cases e2:t=s
   ·subst e2;rw [if_pos rfl];intro h4
    rcases hnew x h4 with h3 | h3
    ·exact h.apart a t ha ht hne x hx h3
    ·have:=(hlt a ha x hx).2;omega
   ·rw [if_neg e2];exact h.apart a t ha ht hne x hx
theorem OfG.at_ {g:Gr} {B ob i:Nat} {gv:Nat->Value} {W:World} (h:OfG g B ob i gv W) {s:Nat} (hs:s<g.sorts.length):W.cell? ⟨ob,s,none⟩=some (gv s):=by
 rw [h.blk.cell s];simp [hs]
theorem OfG.done {g:Gr} {B ob:Nat} {gv:Nat->Value} {W:World} (h:OfG g B ob g.prods.length gv W) (hl:g.sorts.length<=maxLen) {D:Nat->Prop} (hD:∀ b,b=ob∨(B<=b /\ ∃ c fz,W.heap[b]?=some (.cells c 3 fz))->D b) :
  OfAt D W (.slice (some ⟨ob,0,none⟩) g.sorts.length g.sorts.length) g:=by
 refine ⟨(List.range g.sorts.length).map (fun s=>(gv s,ofS g (s:Int))),⟨⟨some ⟨ob,0,none⟩,g.sorts.length,by simp,by simp,hl,fun _=>⟨ob,0,rfl,hD ob (.inl rfl),h.blk.lt,?_⟩⟩,?_⟩,by simp,?_⟩
 ·intro s x hx j u hu;have hs:s<g.sorts.length:=by have:=(gS.1 hx).1;simpa using this
  have hx2:x=(gv s,ofS g (s:Int)):=by simp [hs] at hx;exact hx.symm
  subst hx2;have hj:j=0 /\ u=gv s:=by
   match j,hu with
   | 0,hu=>exact ⟨rfl,by simpa [encOf] using hu.symm⟩
  obtain ⟨rfl,rfl⟩:=hj;rw [Nat.zero_add,Nat.mul_one,Nat.add_zero];exact h.at_ hs
 ·intro x hx;simp only [List.mem_map,List.mem_range] at hx;obtain ⟨s,hs,rfl⟩:=hx;exact (own_sliceT encN_len (h.row s hs)).imp (fun b hb _=>hD b (.inr hb))
 ·intro s x hx;have hs:s<g.sorts.length:=by have:=(gS.1 hx).1;simpa using this
  simp [hs] at hx;rw [<- hx]
end Go.Proofs.YthiochcpmfkgcaaGreatDoor.Tb
namespace Go.Proofs.YthiochcpmfkgcaaGreatDoor.Tb
open Go Go.RowKit Go.Proofs Mx
theorem catch_idle (p q:Addr) (w:World) :
  CallsD Tryz.prog 62 #[.pointer (some p),.pointer (some q)] .returning w fun e u' w'=>e=.returned (.tuple #[]) /\ u'=.returning /\ w'=w:=by
 refine callsD_of_wpS Tryz.func62 rfl fun c₀ cs hu=>?_;apply wpS_seq;apply wpS_region;simp [wpOpsS,go_sem,recoverD,hu,Tryz.ntmps62,Exit.thenS];refine wpS_of_wp ?_
 go_wp2
 cases c₀
 simp_all [bodyPostS,results,Tryz.results62]
theorem catch_full (a b:Nat) (older:List PanicEntry) (w:World) (ha:Blk w a 75 #[.pointer none]) (hb:Blk w b 36 #[.int .i64 0]) (hab:a≠b) :
  CallsD Tryz.prog 62 #[.pointer (some ⟨a,0,none⟩),.pointer (some ⟨b,0,none⟩)] (.panicking ({ v:=.iface 126 (.agg #[]),recovered:=false }::older)) w fun e u' w' =>
   e=.returned (.tuple #[]) /\ u'=.panicking ({ v:=.iface 126 (.agg #[]),recovered:=true }::older) /\
   w'=((w.setCell ⟨a,0,none⟩ (.pointer none)).setCell ⟨b,0,none⟩ (.int .i64 3)).alloc (.cells #[] 126):=by
 obtain ⟨a0,af⟩:=ha.facts1;obtain ⟨b0,bf⟩:=hb.facts1;have haw:=ha.lt;have hbw:=hb.lt;refine callsD_of_wpS Tryz.func62 rfl fun c₀ cs hu=>?_;apply wpS_seq;apply wpS_region;simp [wpOpsS,go_sem,recoverD,hu,Tryz.ntmps62,Exit.thenS];refine wpS_of_wp ?_;have hta:∀ (v:Value) (w:World),(Instr.typeAssert (.iface 126 v) 20 126 true).run Tryz.prog w=.ok (.tuple #[v,.bool true]) w:=fun _ _=>by kernel_rfl
 rw [show (#[Value.pointer (some ⟨a,0,none⟩),Value.pointer (some ⟨b,0,none⟩)]++(Array.replicate 9 undef).setIfInBounds 3 (Value.iface 126 (Value.agg #[])):Array Value)=#[Value.pointer (some ⟨a,0,none⟩),Value.pointer (some ⟨b,0,none⟩),undef,undef,undef,Value.iface 126 (Value.agg #[]),undef,undef,undef,undef,undef] from rfl]
 go_wp2
 simp [bodyPostS,results,Tryz.results62]
end Go.Proofs.YthiochcpmfkgcaaGreatDoor.Tb
namespace Go.Proofs.YthiochcpmfkgcaaGreatDoor.Gl
open Go Go.RowKit Go.Proofs Go.Maps Go.WideMaps Mx Tb
structure Ctx (g:Gr) (B:Nat) (sm:List SM) (p:RP) (w0:World):Prop where
 tab:TabP g B p.tv sm w0
 prods:ProdsAt (fun _=>True) w0 p.pv g.prods
 env:EnvG w0
 np:g.prods.length<=1000
 nr:∀ q∈g.prods,q.right.length<=100
 ne:∀ s∈sm,s.edges.length<=1000000 /\ s.done.length<=1000000
 made:MadeLaw g (sm.map toSt)
 txt:p.txt.length<=100000
abbrev TT (g:Gr) (sm:List SM):Tab:=tabF g (sm.map toSt)
section
variable {g:Gr} {B:Nat} {sm:List SM} {p:RP} {w0:World}
theorem Ctx.many (h:Ctx g B sm p w0):sm.length<=16384:=h.tab.many
theorem stAt_get (sm:List SM) (s:Nat):stAt sm (s:Int)=(sm[s]?).getD noSM:=by
 unfold stAt;rw [if_pos (by omega),Int.toNat_natCast]
theorem tt_done (g:Gr) (sm:List SM) (s:Nat):(TT g sm).done s=(stAt sm (s:Int)).done:=by
 rw [stAt_get];unfold TT tabF;dsimp only;rw [List.getElem?_map]
 cases sm[s]? <;> rfl
theorem tt_edges (sm:List SM) (s:Nat):edgesAt (sm.map toSt) s=(stAt sm (s:Int)).edges:=by
 rw [stAt_get];unfold edgesAt;rw [List.getElem?_map]
 cases sm[s]? <;> rfl
def optT:Option Nat->Int × Bool
 | some t=>((t:Int),true)
 | none=>(0,false)
theorem tt_goto (g:Gr) (sm:List SM) (s:Nat) (A:Int):toF (isSort A) (stAt sm (s:Int)).edges=optT ((TT g sm).goto_ s A):=by
 unfold TT tabF toF;dsimp only;rw [tt_edges];show (match (stAt sm (s:Int)).edges.find? (fun e=>isSort A e.1) with | some e=>((e.2:Int),true) | none=>(0,false))=optT (((stAt sm (s:Int)).edges.find? fun e=>bySort A e.1).map (·.2));have:(fun e:Sy × Nat=>isSort A e.1)=fun e=>bySort A e.1:=rfl;rw [this]
 cases (stAt sm (s:Int)).edges.find? (fun e=>bySort A e.1) <;> rfl
theorem tt_shift (g:Gr) (sm:List SM) (s:Nat) (b:UInt8):toF (hasByte b.toNat) (stAt sm (s:Int)).edges=optT ((TT g sm).shift s b):=by
 unfold TT tabF toF;dsimp only;rw [tt_edges];have:(fun e:Sy × Nat=>hasByte b.toNat e.1)=fun e=>byByte b.toNat e.1:=rfl;rw [this]
 cases (stAt sm (s:Int)).edges.find? (fun e=>byByte b.toNat e.1) <;> rfl
theorem Ctx.small (h:Ctx g B sm p w0) (s:Nat):(stAt sm (s:Int)).edges.length<=1000000 /\ (stAt sm (s:Int)).done.length<=1000000:=by
 rw [stAt_get]
 cases hs:sm[s]? with
 | none=>simp [noSM,freshSM]
 | some x=>exact h.ne x (gM hs)
theorem Ctx.below (h:Ctx g B sm p w0):Below_ (TT g sm) sm.length:=by
 have:=tab_below h.made
 rwa [List.length_map] at this
theorem Ctx.done_lt (h:Ctx g B sm p w0) {s q:Nat} (hq:q∈(TT g sm).done s):q<g.prods.length:=by
 unfold TT tabF at hq;dsimp only at hq
 cases hs:(sm.map toSt)[s]? with
 | none=>rw [hs] at hq;cases hq
 | some st =>
  rw [hs] at hq;have h1:=(h.made.state st (gM hs)).done;simp only [Option.map_some,Option.getD_some] at hq;rw [h1] at hq;unfold doneF at hq;obtain ⟨x,hx,rfl⟩:=List.mem_map.1 hq;have hx:=(List.mem_filter.1 hx).1;have hok:=item_ok h.made (s:=s) (x:=x) (by unfold itemsAt;rw [hs];exact hx);unfold itemOk at hok;simp at hok;exact hok.1
theorem Ctx.prod (h:Ctx g B sm p w0) {q:Nat} (hq:q<g.prods.length):∃ pr,g.prods[q]?=some pr /\ (TT g sm).left q=pr.left /\ (TT g sm).len q=pr.right.length /\ pr.right.length<=100:=by
 obtain ⟨pr,hpr⟩:∃ pr,g.prods[q]?=some pr:=⟨_,gE hq⟩;refine ⟨pr,hpr,?_,?_,h.nr pr (gM hpr)⟩
 ·unfold TT tabF;dsimp only;rw [hpr];rfl
 ·unfold TT tabF rightOf;dsimp only;rw [hpr];rfl
end
theorem infoIntG:(Tryz.prog.info? 3).map (fun i=>(i.zero,i.size,i.bytes))=some (some (.int .i64 0),1,8):=by kernel_rfl
def pushN (N:List Nd) (x:Nd):List Nd:=if x∈N then N else N++[x]
theorem flag_setG {L:Array Bool} {i j:Nat} (h:i≠j) {P:Prop} (hJ:L.getD j false=false->P):(L.setIfInBounds i true).getD j false=false->P:=fun e=>hJ (by rwa [getD_set_ne false h] at e)
theorem grown_trans_o {w w' w'':World} {row:Option Nat} (h:w.grownBy w' row) (k:w'.grownBy w'' row):w.grownBy w'' row :=
 ⟨k.os.trans h.os,k.tape.trans h.tape,k.output.trans h.output,Nat.le_trans h.size k.size,fun i hi hne=>(k.block i (nL hi h.size) hne).trans (h.block i hi hne)⟩
def puR (C:RC) (nb a b:Nat) (gs:Value) (B0 k:Nat) (xs:List Value) (j:Nat) (v:Value) (W:World):Prop :=
 match j with
 | 0=>v=.pointer (some ⟨C.rb,0,none⟩)
 | 1=>v=.pointer (some ⟨C.rb,0,none⟩)
 | 2=>v=.pointer (some ⟨C.rb,11,none⟩)
 | 3=>v=.map (some C.br)
 | 4=>v=.pointer (some ⟨nb,1,none⟩)
 | 5=>v=.int .i64 b
 | 6=>v=.pointer (some ⟨C.rb,0,none⟩)
 | 7=>v=.pointer (some ⟨C.rb,0,none⟩)
 | 8=>v=.pointer (some ⟨C.rb,11,none⟩)
 | 9=>v=.map (some C.br)
 | 10=>v=.pointer (some ⟨nb,1,none⟩)
 | 11=>v=.int .i64 b
 | 12=>v=gs
 | 13=>v=.pointer (some ⟨nb,0,none⟩)
 | 14=>v=.int .i64 a
 | 15=>∃ q,v=.slice (some ⟨q,0,none⟩) 1 1 /\ W.cell? ⟨q,0,none⟩=some (.int .i64 a) /\ B0<=q /\ q<W.heap.size
 | 16=>W.ownsRow 0 3 1 v (k+1) (xs++encN a) /\ ∀ b,v.ownBlock=some b->gs.ownBlock=some b∨B0<=b
 | _=>True
theorem puR_low {C:RC} {nb a b:Nat} {gs:Value} {B0 k:Nat} {xs:List Value} (j:Nat) (v:Value) {W W':World} (h:puR C nb a b gs B0 k xs j v W) (hb:Below W.heap.size W W'):puR C nb a b gs B0 k xs j v W':=by
 unfold puR at h ⊢
 split at h <;> first | exact h | skip
 ·obtain ⟨nb,e,h1,h2,h3⟩:=h;exact ⟨nb,e,(hb.cell (p:=⟨nb,0,none⟩) h3).trans h1,h2,nL h3 hb.size⟩
 ·exact ⟨row_below h.1 hb,h.2⟩
theorem puR_grown {C:RC} {nb a b:Nat} {gs:Value} {B0 k:Nat} {xs:List Value} (j:Nat) (v:Value) {W W':World} (h:puR C nb a b gs B0 k xs j v W) (hj:j≠16) (hb:W.grownBy W' gs.ownBlock) (hlt:(∀ b,gs.ownBlock=some b->b<B0) /\ gs.ownBlock≠some C.br) :
  puR C nb a b gs B0 k xs j v W':=by
 unfold puR at h ⊢
 split at h <;> first | exact h | exact absurd rfl hj | skip
 obtain ⟨nb,e,h1,h2,h3⟩:=h;exact ⟨nb,e,(wB (w:=W) (a:=⟨nb,0,none⟩) (hb.block nb h3 (by intro e;have:=hlt.1 nb e.symm;omega))).trans h1,h2,nL h3 hb.size⟩
theorem push_any (C:RC) (p:RP) (left:Nat->Int) (w0:World) (ρ:Nat->Option Role) (m:Rm) (w:World) (h:RunM C p left w0 ρ m w) (x:Nd) (hx:NdOk x) (hpn:m.pn=m.nodes) (hnl:m.nodes.length<4398046511104) (hpl:m.pb<4398046511104) :
    Calls Tryz.prog 71 #[.pointer (some ⟨C.rb,0,none⟩),ndV x] w fun e w'=>e=.returned (.tuple #[]) /\
      ∃ ρ',RunM C p left w0 ρ' { m with nodes:=pushN m.nodes x,pn:=pushN m.nodes x,pb:=m.pb+1 } w' /\ KeepR ρ w w' /\ Roles w.heap.size ρ ρ':=by
  have hmm:=@run_makeMap Tryz.prog;have HH:=Z2.mk h hx;clear h hx;obtain ⟨a,b⟩:=x;unfold ndV;go_enter Tryz.func71,Tryz.ntmps71;go_upto_region 1 with fail
  have hXB:Blk (w.alloc (.cells #[.int .i64 a,.int .i64 b] 150)) w.heap.size 150 #[.int .i64 a,.int .i64 b]:=Blk.new _ _ _;have hb0:Below w.heap.size w (w.alloc (.cells #[.int .i64 a,.int .i64 b] 150)):=(bR _ _).alloc (nR _) _;generalize (w.alloc (.cells #[.int .i64 a,.int .i64 b] 150))=wa at hXB hb0 ⊢;have hM0:=HH.o1.below hb0;obtain ⟨f,c,hm1,hc,hf⟩:=hM0.pushed;rw [hpn] at hm1 hc;have hkey:keyOf Tryz.prog 150 (.agg #[.int .i64 a,.int .i64 b])=some (kNd (a,b)):=keyOf_nd (a,b) HH.o2;have hln:m.nodes.length<maxLen:=by unfold maxLen;omega
  obtain ⟨st,o1,W1,he1,hg1,ho1,hsz1,hW⟩:=(show MapS Tryz.prog 150 wa.drew C.bp m.nodes.length f from hm1).entry ndLaw Tryz.underlying79 (z:=.int .i64 0) (fun u=>Tryz.zeroValue3 u) hln hkey
  have hl0:=(show MapS Tryz.prog 150 wa.drew C.bp m.nodes.length f from hm1).lookup (Keyed.of_law ndLaw) Tryz.underlying79 (Tryz.zeroValue3 wa.drew) hkey;obtain ⟨hl1,hst⟩:=hW W1 ho1;have hval:(f (kNd (a,b))).getD (.int .i64 0)=.int .i64 (c (a,b):Int):=by
    rw [hf _ HH.o2]
    by_cases h0:c (a,b)=0 <;> simp [h0]
  rw [hval] at hl0 hl1 he1;obtain ⟨cn,hcn⟩:=eX (c (a,b));have hcm:=hc (a,b);rw [hcn] at hl0 hl1 he1 hcm;obtain ⟨W2,he2,hm2,hg2⟩:=hst (.int .i64 ((cn:Int)+1));obtain ⟨nb,hnb⟩:=eX w.heap.size;rw [hnb] at hXB ⊢;obtain ⟨_,_,_,_,_,b12,bz⟩:=box_cells hM0.box;have hne1:C.rb≠C.bp:=by intro e;have h1:=hM0.roles.rb;rw [e,hM0.roles.bp] at h1;cases h1
  have hne2:nb≠C.bp:=by
    have h1:=HH.o1.lt C.bp (by rw [HH.o1.roles.bp];simp);omega
  obtain ⟨x0,x1,_⟩:=hXB.facts2;have s1:∀ {q i:Nat} {u:Value},q≠C.bp->wa.cell? ⟨q,i,none⟩=some u->W1.cell? ⟨q,i,none⟩=some u:=fun {q i u} hq hc=>by
    have hlt:q<wa.heap.size:=wL _ _ hc;exact (wB (hg1.block q hlt (by intro e;injection e with e;exact hq e))).trans hc
  have y12:=s1 hne1 b12;have y0:=s1 hne2 x0;have y1:=s1 hne2 x1;have hcw:IntKind.i64.wrap ((cn:Int)+1)=(cn:Int)+1:=IntWalk.i64_in _ (by have:=hcm.2;omega);have H1:=Z12.mk hM0 hb0 hXB hm2 hg1 hg2 hc hcm hcn hf hsz1 hnb;clear hM0 hb0 hXB hm2 hg1 hg2 hc hcm hcn hf hval hW hst hm1 s1 hsz1 hnb;apply via
  · intro KV
    go_region
    all_goals (try go_simp)
    all_goals exact KV.out
  intros
  clear hl0 hl1 he1 he2 y0 y1 y12 x0 x1 b12 bz;have hgg:=grown_trans H1.o5 H1.o6;have hga:wa.grownBy W2 (some C.bp):=⟨hgg.os,hgg.tape,hgg.output,hgg.size,hgg.block⟩;have hcb:=H1.o9;have hP2:PushedW C (pushN m.nodes (a,b)) (m.pb+1) W2:=PushedW.push HH.o2 H1.o7 H1.o10 (by rw [hcb];exact H1.o4);obtain ⟨hM2,hk2⟩:=H1.o1.setPushed hga hP2 (by unfold pushN;split <;> (try rw [List.length_append,List.length_singleton]) <;> omega) (by omega)
  have hXB2:=hk2.blk (by
    have h1:=H1.o12
    cases hr:ρ nb with
    | none=>rfl
    | some R=>have:=HH.o1.lt nb (by rw [hr];simp);omega) H1.o3
  have hkw:KeepR ρ w W2:=(KeepR.of (ρ:=ρ) H1.o2).same hk2;obtain ⟨_,_,_,_,b11,b12,bz⟩:=box_cells hM2.box;obtain ⟨x0,x1,_⟩:=hXB2.facts2;have hlk2:∀ k,(Instr.lookup 79 (.map (some C.bp)) (.agg #[.int .i64 a,.int .i64 b]) false).run Tryz.prog (W2.drewN k)=.ok (.int .i64 (cn+1)) (W2.drewN k):=fun k=>by
    have h1:=(H1.o4.drewN k).lookup (Keyed.of_law ndLaw) Tryz.underlying79 (Tryz.zeroValue3 (W2.drewN k)) hkey;rw [putV_same f _ ((Keyed.of_law ndLaw).key hkey)] at h1;exact h1
  have hcm:=H1.o8;have H2:=Z5.mk hM2 hkw hXB2 hcm H1.o12;clear hM2 hk2 hkw hXB2 hgg hga hP2 H1 hcm hcb;go_upto_region 2 with fail
  by_cases hc0:cn=0
  · subst hc0
    go_quiet (fail)
    go_upto_region 3 with fail
    obtain ⟨W3,hW3⟩:=eX (W2.drewN nq);have hM3:=H2.o1.below (show Below W2.heap.size W2 (W2.drewN nq) from below_drewN (bR _ _) nq);have hX3:=H2.o3.drewN nq;have hk3:KeepR ρ w (W2.drewN nq):=H2.o2.same (KeepR.of (below_drewN (bR _ _) nq));have hnm:(a,b) ∉ m.nodes:=H2.o4.1.1 rfl;rw [hW3] at hM3 hX3 hk3 ⊢;obtain ⟨k,fr,vr,h1,h2,h3,h4⟩:=hM3.rows;simp only at h1 h2 h3 h4;obtain ⟨gs,hgs⟩:=eX (vr b);have hh:=h4 b;rw [hgs] at hh;have hkb:keyOf Tryz.prog 3 (.int .i64 b)=some (.int .i64 b):=keyOf_int_mk Tryz.underlying3 (litN b HH.o2.2);have hgl:(∀ q,gs.ownBlock=some q->q<W3.heap.size) /\ gs.ownBlock≠some C.br:=⟨fun q hq=>own_lt hh.1 hq,fun e=>by have:=hh.2.1 _ e;rw [hM3.roles.br] at this;cases this⟩
    have hnv:(fr (.int .i64 b)).getD (.slice none 0 0)=gs:=by
      rw [h3]
      by_cases hr:rowN m.nodes b=[]
      · rw [if_neg (by simp [hr])];exact (hh.2.2 hr).symm
      · rw [if_pos ⟨by omega,by simpa using hr⟩];simpa using hgs
    have hrl:(rowN m.nodes b).length<4398046511104:=by
      unfold rowN;rw [List.length_map];exact Nat.lt_of_le_of_lt (List.length_filter_le _ _) hnl
    have HL:=Hd (show ∀ W,W3.drew.grownBy W gs.ownBlock->(Instr.lookup 74 (.map (some C.br)) (.int .i64 b) false).run Tryz.prog W=.ok gs W from fun W hG=>by
      have h5:=((show MapS Tryz.prog 3 W3.drew C.br k fr from h1).of_block (hG.block C.br h1.lt (fun e=>hgl.2 e.symm))).lookup (int_keyed Tryz.underlying3) Tryz.underlying74 (Tryz.zeroValue57 W) hkb;rw [hnv] at h5;exact h5)
    have hne4:some C.rb≠gs.ownBlock:=fun e=>by have:=hh.2.1 _ e.symm;rw [hM3.roles.rb] at this;cases this
    have hne5:some nb≠gs.ownBlock:=fun e=>by have:=hh.2.1 _ e.symm;have h5:=HH.o1.lt nb (by rw [this];simp);have h6:=H2.o5;omega
    have HC:=Hd (show ∀ W,W3.drew.grownBy W gs.ownBlock->W.cell? ⟨C.rb,11,none⟩=some (.map (some C.br)) /\ W.cell? ⟨nb,0,none⟩=some (.int .i64 a) /\ W.cell? ⟨nb,1,none⟩=some (.int .i64 b) from fun W hG =>
      ⟨(hM3.box.drew.grown hG hne4).cell 11,(hX3.drew.grown hG hne5).cell 0,(hX3.drew.grown hG hne5).cell 1⟩)
    have HZ:=Hd (show ∀ W,W3.drew.grownBy W gs.ownBlock->W3.heap.size<=W.heap.size from fun W hG=>hG.size);have HP:=Z3.mk hh.1 hrl hgl;have H3:=Z5.mk hM3 hX3 hk3 hnm HH.o2;have HR:=Hd h4;clear hM3 hX3 hk3 hnm hh hgl hnv hne4 hne5 h4 hlk2 b11 b12 bz x0 x1;refine wp_region_concT 17 (puR C nb a b gs W3.heap.size (rowN m.nodes b).length (flatK encN (rowN m.nodes b))) (fun A W=>A.grownBy W gs.ownBlock) (fun L W=>L.getD 16 false=false->Below W3.drew.heap.size W3.drew W) (by kernel_rfl) (by kernel_rfl) (by kernel_rfl) (by kernel_rfl) (grown_refl _ _) (fun _=>bR _ _) (fun h k=>grown_trans_o h k) ?_ ?_
    · simp only [List.take_succ_cons,List.take_zero]
      refine ⟨?_,?_,?_,?_,?_,?_,?_,?_,?_,?_,?_,?_,?_,?_,?_,?_,?_,trivial⟩
      · intro L T W hG hJ hLs hLi dq fq vq K hK
        have h1:=fq 0 (by decide);simp at h1;go_simp;exact hK _ _ (grown_refl W _) (fun j u _ _ _ h=>h) (flag_setG (by decide) hJ) rfl
      · intro L T W hG hJ hLs hLi dq fq vq K hK
        have h1:=vq ⟨0,.data⟩ (by simp) rfl 20 rfl;simp only [puR] at h1;simp at h1;go_simp;exact hK _ _ (grown_refl W _) (fun j u _ _ _ h=>h) (flag_setG (by decide) hJ) rfl
      · intro L T W hG hJ hLs hLi dq fq vq K hK
        have h1:=vq ⟨1,.data⟩ (by simp) rfl 21 rfl;simp only [puR] at h1;simp at h1;go_simp;exact hK _ _ (grown_refl W _) (fun j u _ _ _ h=>h) (flag_setG (by decide) hJ) rfl
      · intro L T W hG hJ hLs hLi dq fq vq K hK
        have h1:=vq ⟨2,.data⟩ (by simp) rfl 22 rfl;simp only [puR] at h1;simp at h1;obtain ⟨c0,c1,c2⟩:=HC.out W hG;go_simp;exact hK _ _ (grown_refl W _) (fun j u _ _ _ h=>h) (flag_setG (by decide) hJ) rfl
      · intro L T W hG hJ hLs hLi dq fq vq K hK
        have h1:=fq 3 (by decide);simp at h1;go_simp;exact hK _ _ (grown_refl W _) (fun j u _ _ _ h=>h) (flag_setG (by decide) hJ) rfl
      · intro L T W hG hJ hLs hLi dq fq vq K hK
        have h1:=vq ⟨4,.data⟩ (by simp) rfl 24 rfl;simp only [puR] at h1;simp at h1;obtain ⟨c0,c1,c2⟩:=HC.out W hG;go_simp;exact hK _ _ (grown_refl W _) (fun j u _ _ _ h=>h) (flag_setG (by decide) hJ) rfl
      · intro L T W hG hJ hLs hLi dq fq vq K hK
        have h1:=fq 0 (by decide);simp at h1;go_simp;exact hK _ _ (grown_refl W _) (fun j u _ _ _ h=>h) (flag_setG (by decide) hJ) rfl
      · intro L T W hG hJ hLs hLi dq fq vq K hK
        have h1:=vq ⟨6,.data⟩ (by simp) rfl 26 rfl;simp only [puR] at h1;simp at h1;go_simp;exact hK _ _ (grown_refl W _) (fun j u _ _ _ h=>h) (flag_setG (by decide) hJ) rfl
      · intro L T W hG hJ hLs hLi dq fq vq K hK
        have h1:=vq ⟨7,.data⟩ (by simp) rfl 27 rfl;simp only [puR] at h1;simp at h1;go_simp;exact hK _ _ (grown_refl W _) (fun j u _ _ _ h=>h) (flag_setG (by decide) hJ) rfl
      · intro L T W hG hJ hLs hLi dq fq vq K hK
        have h1:=vq ⟨8,.data⟩ (by simp) rfl 28 rfl;simp only [puR] at h1;simp at h1;obtain ⟨c0,c1,c2⟩:=HC.out W hG;go_simp;exact hK _ _ (grown_refl W _) (fun j u _ _ _ h=>h) (flag_setG (by decide) hJ) rfl
      · intro L T W hG hJ hLs hLi dq fq vq K hK
        have h1:=fq 3 (by decide);simp at h1;go_simp;exact hK _ _ (grown_refl W _) (fun j u _ _ _ h=>h) (flag_setG (by decide) hJ) rfl
      · intro L T W hG hJ hLs hLi dq fq vq K hK
        have h1:=vq ⟨10,.data⟩ (by simp) rfl 30 rfl;simp only [puR] at h1;simp at h1;obtain ⟨c0,c1,c2⟩:=HC.out W hG;go_simp;exact hK _ _ (grown_refl W _) (fun j u _ _ _ h=>h) (flag_setG (by decide) hJ) rfl
      · intro L T W hG hJ hLs hLi dq fq vq K hK
        have h1:=vq ⟨9,.data⟩ (by simp) rfl 29 rfl;simp only [puR] at h1;have h2:=vq ⟨11,.data⟩ (by simp) rfl 31 rfl;simp only [puR] at h2;simp at h1 h2;have hl:=HL.out W hG;go_simp;exact hK _ _ (grown_refl W _) (fun j u _ _ _ h=>h) (flag_setG (by decide) hJ) rfl
      · intro L T W hG hJ hLs hLi dq fq vq K hK
        have h1:=fq 3 (by decide);simp at h1;go_simp;exact hK _ _ (grown_refl W _) (fun j u _ _ _ h=>h) (flag_setG (by decide) hJ) rfl
      · intro L T W hG hJ hLs hLi dq fq vq K hK
        have h1:=vq ⟨13,.data⟩ (by simp) rfl 33 rfl;simp only [puR] at h1;simp at h1;obtain ⟨c0,c1,c2⟩:=HC.out W hG;go_simp;exact hK _ _ (grown_refl W _) (fun j u _ _ _ h=>h) (flag_setG (by decide) hJ) rfl
      · intro L T W hG hJ hLs hLi dq fq vq K hK
        have h1:=vq ⟨14,.data⟩ (by simp) rfl 34 rfl;simp only [puR] at h1;simp at h1;go_simp;have hbn:=(bR W.heap.size W).alloc (nR _) (.cells #[.int .i64 a] 3);exact hK _ _ (grown_alloc (grown_refl W _) _) (fun j u _ _ _ h=>puR_low j u h hbn) (fun e=>(hJ (by rwa [getD_set_ne false (by decide)] at e)).trans (hbn.mono (hJ (by rwa [getD_set_ne false (by decide)] at e)).size)) ⟨_,rfl,(Blk.new W _ _).cell 0,HZ.out W hG,by simp⟩
      · intro L T W hG hJ hLs hLi dq fq vq K hK
        have h1:=vq ⟨12,.data⟩ (by simp) rfl 32 rfl;obtain ⟨q,h2,k1,k2,k3⟩:=vq ⟨15,.data⟩ (by simp) rfl 35 rfl;have hJ':=hJ (by rw [<- getD_flip (by rw [hLs];decide)];exact hLi);have hown:=Mx.row_below (show W3.drew.ownsRow 0 3 1 gs (rowN m.nodes b).length (flatK encN (rowN m.nodes b)) from HP.o1) hJ';obtain ⟨i0,hi,hz0,hz1,hz2⟩:=info_parts infoIntG;refine wp_append_ownF W _ _ 57 rfl 0 3 i0 (.int .i64 0) 1 8 Tryz.underlying57 hi hz0 hz1 hz2 rfl (by decide) _ _ _ h1 hown ⟨q,0,none⟩ 1 1 (encN a) h2 rfl ?_ ?_ ?_ ?_ ?_ ?_
        · intro j u hj
          match j,hj with
          | 0,hj=>obtain rfl:Value.int .i64 a=u:=by simpa [encN] using hj
                  exact k1
        · intro u hu;simp [encN] at hu;subst hu;rfl
        · have:=HP.o2;unfold maxLen;omega
        · have:=HP.o2;omega
        · omega
        intro v' W' hown' hg' hfr;refine hK _ _ hg' (fun j u _ hj _ h=>puR_grown j u h hj hg' HP.o3) (fun e=>?_) ⟨hown',fun b hb=>(hfr b hb).imp id (fun h=>Nat.le_trans (HZ.out W hG) h)⟩;rw [getD_set_self (by rw [hLs];decide)] at e
        cases e
    · intro f9 W5 hG hJe hR
      have e3:=hR 3 23 (by decide) rfl;have e5:=hR 5 25 (by decide) rfl;obtain ⟨e16,f16⟩:=hR 16 36 (by decide) rfl;simp only [concDsts,qZ];simp only [puR] at e3 e5;rw [e3,e5];clear e3 e5 hR;obtain ⟨va,vc,hv5⟩:=own_shape e16;obtain ⟨u36,hu36⟩:=eX (f9 36);rw [hu36] at e16 f16 hv5 ⊢;clear hu36;generalize f9 20=v20;generalize f9 21=v21;generalize f9 22=v22;generalize f9 24=v24;generalize f9 26=v26;generalize f9 27=v27;generalize f9 28=v28;generalize f9 29=v29;generalize f9 30=v30;generalize f9 31=v31;generalize f9 32=v32;generalize f9 33=v33;generalize f9 34=v34;generalize f9 35=v35;clear f9;have hg5:W3.grownBy W5 gs.ownBlock:=⟨hG.os,hG.tape,hG.output,hG.size,hG.block⟩;have hM5:=h1.of_block (hg5.block C.br h1.lt (fun e=>HP.o3.2 e.symm));obtain ⟨W6,hrun6,hm6,hg6⟩:=hM5.update (int_keyed Tryz.underlying3) Tryz.underlying74 (by unfold maxLen;omega) hkb (val:=u36);obtain ⟨ρ',r1,r2,r3⟩:=RunM.pushRow H3.o1 H3.o5 hnl h1 h2 h3 HR.out (by rw [hgs];exact hg5) e16 (by rw [hgs];exact f16) hg6 (by split <;> omega) hm6;have H6:=Z3.mk r1 r2 r3;rw [hv5] at hrun6 ⊢;clear e16 f16 hv5 hm6 hg6 hM5 hg5 r1 r2 r3 hG hJe;go_wp2_with fail
      go_end0
      have hb3:=H2.o5;refine ⟨rfl,ρ',?_,H3.o3.same H6.o2,?_⟩
      · have h9:=H6.o1
        unfold pushN at h9 ⊢
        simpa [H3.o4] using h9
      · exact fun q hq=>H6.o3 q (by have:=H3.o3.size;omega)
  · have hd:((cn:Int)+1==1)=false:=by simp;omega
    go_quiet (fail)
    go_wp2_with fail
    go_end0
    have hm:(a,b)∈m.nodes:=Classical.byContradiction fun h=>hc0 (H2.o4.1.2 h);have hM3:=H2.o1.below (show Below W2.heap.size W2 (W2.drewN nq) from below_drewN (bR _ _) nq);refine ⟨rfl,ρ,?_,H2.o2.same (KeepR.of (below_drewN (bR _ _) nq)),Roles.refl _ _⟩;unfold pushN at hM3 ⊢
    simpa [hm] using hM3
theorem infoWay:(Tryz.prog.info? 208).map (fun i=>(i.zero,i.size,i.bytes))=some (some (.agg #[.int .i64 0,.int .i64 0,.slice none 0 0]),3,40):=by kernel_rfl
def encW (x:Value × Nd × List Nat):List Value:=[.int .i64 x.2.1.1,.int .i64 x.2.1.2,x.1]
theorem encW_len (x:Value × Nd × List Nat):(encW x).length=3:=rfl
def CutD (B cb:Nat) (w:World) (g:Nat):Prop:=B<=g /\ g≠cb /\ ∃ c fz,w.heap[g]?=some (.cells c 3 fz)
structure FoundW (B bF cb:Nat) (L:List (Value × Nd × List Nat)) (w:World):Prop where
 row:∃ fv,Blk w bF 205 #[fv] /\ w.ownsRow B 208 3 fv L.length (flatK encW L)
 each:∀ x∈L,SliceK (CutD B cb w) encN 1 w x.1 x.2.2
 le:B<=bF
structure KeepF (B:Nat) (ex:Nat->Prop) (w w':World):Prop where
 os:w'.os=w.os
 tape:w'.tape=w.tape
 output:w'.output=w.output
 size:w.heap.size<=w'.heap.size
 low:∀ b,b<w.heap.size->b<B->w'.heap[b]?=w.heap[b]?
 block:∀ b,b<w.heap.size->¬ ex b->(∀ c fz,w.heap[b]?≠some (.cells c 208 fz))->w'.heap[b]?=w.heap[b]?
section
variable {B bF cb:Nat} {ex ex':Nat → Prop} {w w' w'':World}
theorem KeepF.trans (h:KeepF B ex w w') (k:KeepF B ex w' w''):KeepF B ex w w'' :=
 ⟨k.os.trans h.os,k.tape.trans h.tape,k.output.trans h.output,Nat.le_trans h.size k.size,fun b hb hB=>(k.low b (nL hb h.size) hB).trans (h.low b hb hB),fun b hb h1 h2=>by
  have e:=h.block b hb h1 h2;rw [<- e];exact k.block b (nL hb h.size) h1 (by rw [e];exact h2)⟩
theorem KeepF.mono (h:KeepF B ex w w') (he:∀ b,ex b->ex' b):KeepF B ex' w w':=⟨h.os,h.tape,h.output,h.size,h.low,fun b hb h1 h2=>h.block b hb (fun e=>h1 (he b e)) h2⟩
theorem KeepF.of (h:Below w.heap.size w w'):KeepF B ex w w':=⟨h.os,h.tape,h.output,h.size,fun b hb _=>h.block b hb,fun b hb _ _=>h.block b hb⟩
theorem KeepF.blk (h:KeepF B ex w w') {g:Nat} {t:TypeId} {cs:Array Value} (hb:Blk w g t cs) (hne:¬ ex g) (ht:t≠208):Blk w' g t cs :=
 (h.block g hb.lt hne (fun c fz e=>by rw [show w.heap[g]?=_ from hb] at e;injection e with e;injection e with _ e _;exact ht e)).trans hb
theorem KeepF.below (h:KeepF B ex w w') {n:Nat} {w0:World} (hb:Below n w0 w) (hn:n<=w.heap.size) (hB:n<=B):Below n w0 w' :=
 ⟨h.os.trans hb.os,h.tape.trans hb.tape,h.output.trans hb.output,Nat.le_trans hb.size h.size,fun b hb2=>(h.low b (by omega) (by omega)).trans (hb.block b hb2)⟩
theorem FoundW.keep {L:List (Value × Nd × List Nat)} (h:FoundW B bF cb L w) (hb:KeepF B ex w w') (he:∀ b,ex b->b=cb) (hc:¬ ex bF) (hw:∀ (b:Nat) (c:Array Value) (fz:Nat × Nat),w.heap[b]?=some (Obj.cells c 208 fz)->w'.heap[b]?=w.heap[b]?):FoundW B bF cb L w':=by
 obtain ⟨fv,h1,h2⟩:=h.row;refine ⟨⟨fv,hb.blk h1 hc (by decide),?_⟩,fun x hx=>?_,h.le⟩
 ·refine ⟨h2.1,?_⟩
  rcases h2.2 with h3 | ⟨g,cap,cur,e1,hB,hh,h3⟩
  ·exact .inl h3
  ·exact .inr ⟨g,cap,cur,e1,hB,(hw g _ _ hh).trans hh,h3⟩
 ·refine (h.each x hx).keep fun g hg hl=>?_;obtain ⟨g1,g2,c,fz,g3⟩:=hg;have e:=hb.block g hl (fun e=>g2 (he _ e)) (fun c' fz' e'=>by rw [g3] at e';injection e' with e';injection e' with _ e' _;exact absurd e' (by decide));exact ⟨⟨g1,g2,c,fz,e.trans g3⟩,e⟩
theorem own_ty_ {n k:Nat} {t:TypeId} {v:Value} {xs:List Value} (h:w.ownsRow B t k v n xs) {b:Nat} (e:v.ownBlock=some b):B<=b /\ ∃ c fz,w.heap[b]?=some (.cells c t fz):=by
 rcases h.2 with ⟨rfl,_⟩ | ⟨g,cap,cur,rfl,hB,hh,_⟩
 ·cases e
 ·injection e with e
  subst e;exact ⟨hB,cur,_,hh⟩
end
def toR (x:Nd) (cs:List Nat) (ca:Option Addr) (cc:Nat) (fv:Value) (B B0 k:Nat) (xs:List Value) (j:Nat) (v:Value) (W:World):Prop :=
 match j with
 | 0=>v=fv
 | 1=>v=.agg #[.int .i64 x.1,.int .i64 x.2]
 | 2=>v=.slice ca cs.length cc
 | 3=>W.ownsRow B0 3 1 v cs.length (flatK encN cs)
 | 4=>∃ u,v=.agg #[.int .i64 x.1,.int .i64 x.2,u] /\ W.ownsRow B0 3 1 u cs.length (flatK encN cs)
 | 5=>∃ q u,v=.slice (some ⟨q,0,none⟩) 1 1 /\ W.cell? ⟨q,0,none⟩=some (.int .i64 x.1) /\ W.cell? ⟨q,1,none⟩=some (.int .i64 x.2) /\ W.cell? ⟨q,2,none⟩=some u /\ B0<=q /\ q<W.heap.size /\ W.ownsRow B0 3 1 u cs.length (flatK encN cs)
 | 6=>∃ u,W.ownsRow B 208 3 v (k+1) (xs++[(.int .i64 x.1),(.int .i64 x.2),u]) /\ W.ownsRow B0 3 1 u cs.length (flatK encN cs) /\ ∀ b,v.ownBlock=some b->fv.ownBlock=some b∨B0<=b
 | _=>True
section
variable {x:Nd} {cs:List Nat} {ca:Option Addr} {cc:Nat} {fv:Value} {B B0 k:Nat} {xs:List Value}
theorem toR_low (j:Nat) (v:Value) {W W':World} (h:toR x cs ca cc fv B B0 k xs j v W) (hb:Below W.heap.size W W'):toR x cs ca cc fv B B0 k xs j v W':=by
 unfold toR at h ⊢
 split at h <;> first | exact h | skip
 ·exact row_below h hb
 ·obtain ⟨u,e,h1⟩:=h;exact ⟨u,e,row_below h1 hb⟩
 ·obtain ⟨q,u,e,h1,h2,h3,h4,h5,h6⟩:=h;exact ⟨q,u,e,(hb.cell (p:=⟨q,0,none⟩) h5).trans h1,(hb.cell (p:=⟨q,1,none⟩) h5).trans h2,(hb.cell (p:=⟨q,2,none⟩) h5).trans h3,h4,nL h5 hb.size,row_below h6 hb⟩
 ·obtain ⟨u,h1,h2,h3⟩:=h;exact ⟨u,row_below h1 hb,row_below h2 hb,h3⟩
theorem toR_grown (j:Nat) (v:Value) {W W':World} (h:toR x cs ca cc fv B B0 k xs j v W) (hj:j≠6) (hb:W.grownBy W' fv.ownBlock) (hlt:∀ b,fv.ownBlock=some b->b<B0):toR x cs ca cc fv B B0 k xs j v W':=by
 have hu:∀ {u:Value},W.ownsRow B0 3 1 u cs.length (flatK encN cs)->W'.ownsRow B0 3 1 u cs.length (flatK encN cs):=fun {u} k6 =>
  own_of_block k6 (fun b hb2=>hb.block b (own_lt k6 hb2) (fun e2=>by have h8:=hlt b e2.symm;have h9:=(own_ty_ k6 hb2).1;omega))
 unfold toR at h ⊢
 split at h <;> first | exact h | exact absurd rfl hj | skip
 ·exact hu h
 ·obtain ⟨u,e,h1⟩:=h;exact ⟨u,e,hu h1⟩
 ·obtain ⟨q,u,e,h1,h2,h3,h4,h5,h6⟩:=h;have e2:=hb.block q h5 (by intro e;have:=hlt q e.symm;omega);exact ⟨q,u,e,(wB (w:=W) (a:=⟨q,0,none⟩) e2).trans h1,(wB (w:=W) (a:=⟨q,1,none⟩) e2).trans h2,(wB (w:=W) (a:=⟨q,2,none⟩) e2).trans h3,h4,nL h5 hb.size,hu h6⟩
end
theorem told_any (B bF cb:Nat) (LL:List (Value × Nd × List Nat)) (x:Nd) (cs:List Nat) (cv:Value) (w:World) (h:FoundW B bF cb LL w) (hcb:cb<w.heap.size) (hc:SliceK (IntB w) encN 1 w cv cs) (hl:LL.length<2199023255552) (hcl:cs.length<=1000) :
    Calls Tryz.prog 122 #[ndV x,cv,.pointer (some ⟨bF,0,none⟩)] w fun e w'=>e=.returned (.tuple #[]) /\ ∃ v',FoundW B bF cb (LL++[(v',x,cs)]) w' /\ KeepF B (·=bF) w w':=by
  obtain ⟨ca,cc,rfl,hc1,hc2,hck⟩:=id hc;have HH:=Z3.mk h hcb hc;clear h hcb hc hc1 hc2 hck;unfold ndV;go_enter Tryz.func122,Tryz.ntmps122;go_upto_region 1 with fail
  have hXB:Blk (w.alloc (.cells #[.int .i64 x.1,.int .i64 x.2] 150)) w.heap.size 150 #[.int .i64 x.1,.int .i64 x.2]:=Blk.new _ _ _;have hb0:Below w.heap.size w (w.alloc (.cells #[.int .i64 x.1,.int .i64 x.2] 150)):=(bR _ _).alloc (nR _) _;generalize (w.alloc (.cells #[.int .i64 x.1,.int .i64 x.2] 150))=w1 at hXB hb0 ⊢;have hF1:=HH.o1.keep (ex:=fun _=>False) (KeepF.of hb0) (fun _ h=>h.elim) (fun h=>h) (fun b c fz hh=>hb0.block b (heap_lt hh));obtain ⟨fv,hfb,hfr⟩:=hF1.row;obtain ⟨nb,hnb⟩:=eX w.heap.size;rw [hnb] at hXB ⊢;have hfl:∀ b,fv.ownBlock=some b->b<w1.heap.size:=fun b hb=>own_lt hfr hb
  have hne1:some bF≠fv.ownBlock:=fun e=>by
    obtain ⟨_,c,fz,h1⟩:=own_ty_ hfr e.symm;rw [show w1.heap[bF]?=_ from hfb] at h1;injection h1 with h1;injection h1 with _ h1 _;exact absurd h1 (by decide)
  have hne2:some nb≠fv.ownBlock:=fun e=>by
    obtain ⟨_,c,fz,h1⟩:=own_ty_ hfr e.symm;rw [show w1.heap[nb]?=_ from hXB] at h1;injection h1 with h1;injection h1 with _ h1 _;exact absurd h1 (by decide)
  have HC:=Hd (show ∀ W,w1.drew.grownBy W fv.ownBlock->W.cell? ⟨bF,0,none⟩=some fv /\ W.cell? ⟨nb,0,none⟩=some (.int .i64 x.1) /\ W.cell? ⟨nb,1,none⟩=some (.int .i64 x.2) from fun W hG=>⟨(hfb.drew.grown hG hne1).cell 0,(hXB.drew.grown hG hne2).cell 0,(hXB.drew.grown hG hne2).cell 1⟩);have HZ:=Hd (show ∀ W,w1.drew.grownBy W fv.ownBlock->w1.heap.size<=W.heap.size from fun W hG=>hG.size)
  have HCL:=Hd (show ∀ W,w1.drew.grownBy W fv.ownBlock->Calls Tryz.prog 91 #[.slice ca cs.length cc] W fun e w'=>∃ v',e=.returned v' /\ w'.ownsRow W.heap.size 3 1 v' cs.length (flatK encN cs) /\ Below W.heap.size W w' from fun W hG=>by
    have h1:SliceK (fun _=>True) encN 1 W (.slice ca cs.length cc) cs:=HH.o3.keep fun g hg hl=>⟨trivial,by
      obtain ⟨c,fz,hg⟩:=hg;have e1:=hb0.block g hl;refine (hG.block g (nL hl hb0.size) (fun e=>?_)).trans e1;obtain ⟨_,c',fz',h5⟩:=own_ty_ hfr e.symm;rw [e1,hg] at h5;injection h5 with h5;injection h5 with _ h5 _;exact absurd h5 (by decide)⟩
    exact clone_int _ cs _ W h1 (by omega))
  have HP:=Z5.mk hfr hl hfl hcl (show B<=w1.heap.size by have:=hF1.le;have:=hfb.lt;omega);have H1:=Z7.mk hF1 hfb hXB hb0 hnb hne1 hne2;clear hF1 hfb hfr hXB hb0 hnb hfl hne1 hne2;refine wp_region_concT 7 (toR x cs ca cc fv B w1.heap.size LL.length (flatK encW LL)) (fun A W=>A.grownBy W fv.ownBlock) (fun L W=>L.getD 6 false=false->Below w1.drew.heap.size w1.drew W) (by kernel_rfl) (by kernel_rfl) (by kernel_rfl) (by kernel_rfl) (grown_refl _ _) (fun _=>bR _ _) (fun h k=>grown_trans_o h k) ?_ ?_
  · simp only [List.take_succ_cons,List.take_zero]
    refine ⟨?_,?_,?_,?_,?_,?_,?_,trivial⟩
    · intro L T W hG hJ hLs hLi dq fq vq K hK
      have h1:=fq 2 (by decide);simp at h1;obtain ⟨c0,c1,c2⟩:=HC.out W hG;go_simp;exact hK _ _ (grown_refl W _) (fun j u _ _ _ h=>h) (flag_setG (by decide) hJ) rfl
    · intro L T W hG hJ hLs hLi dq fq vq K hK
      have h1:=fq 3 (by decide);simp at h1;obtain ⟨c0,c1,c2⟩:=HC.out W hG;go_simp;exact hK _ _ (grown_refl W _) (fun j u _ _ _ h=>h) (flag_setG (by decide) hJ) rfl
    · intro L T W hG hJ hLs hLi dq fq vq K hK
      have h1:=fq 1 (by decide);simp at h1;go_simp;exact hK _ _ (grown_refl W _) (fun j u _ _ _ h=>h) (flag_setG (by decide) hJ) rfl
    · intro L T W hG hJ hLs hLi dq fq vq K hK
      have h1:=vq ⟨2,.data⟩ (by simp) rfl 7 rfl;simp only [toR] at h1;simp at h1;have hcl:=HCL.out W hG;go_simp;refine hcl.mono ?_;rintro e W2 ⟨u,rfl,ho,hb2⟩;exact hK _ _ (grown_below (grown_refl W _) hb2) (fun j u _ _ _ h=>toR_low j u h hb2) (fun e=>(hJ (by rwa [getD_set_ne false (by decide)] at e)).trans (hb2.mono (hJ (by rwa [getD_set_ne false (by decide)] at e)).size)) (own_low ho (HZ.out W hG))
    · intro L T W hG hJ hLs hLi dq fq vq K hK
      have h1:=vq ⟨1,.data⟩ (by simp) rfl 6 rfl;have h2:=vq ⟨3,.data⟩ (by simp) rfl 8 rfl;simp only [toR] at h1 h2;simp at h1 h2;obtain ⟨u,hu⟩:=eX (T[8]?.getD undef);simp only [hu] at h2;obtain ⟨ua,uc,rfl⟩:=own_shape h2;go_simp;exact hK _ _ (grown_refl W _) (fun j u _ _ _ h=>h) (flag_setG (by decide) hJ) ⟨_,rfl,h2⟩
    · intro L T W hG hJ hLs hLi dq fq vq K hK
      obtain ⟨u,h1,k1⟩:=vq ⟨4,.data⟩ (by simp) rfl 9 rfl;simp at h1;obtain ⟨ua,uc,rfl⟩:=own_shape k1;go_simp;have hbn:=(bR W.heap.size W).alloc (nR _) (.cells #[.int .i64 x.1,.int .i64 x.2,.slice ua cs.length uc] 208);exact hK _ _ (grown_alloc (grown_refl W _) _) (fun j u _ _ _ h=>toR_low j u h hbn) (fun e=>(hJ (by rwa [getD_set_ne false (by decide)] at e)).trans (hbn.mono (hJ (by rwa [getD_set_ne false (by decide)] at e)).size)) ⟨_,_,rfl,(Blk.new W _ _).cell 0,(Blk.new W _ _).cell 1,(Blk.new W _ _).cell 2,HZ.out W hG,by simp,row_below k1 hbn⟩
    · intro L T W hG hJ hLs hLi dq fq vq K hK
      have h1:=vq ⟨0,.data⟩ (by simp) rfl 5 rfl;obtain ⟨q,u,h2,k1,k2,k3,k4,k5,k6⟩:=vq ⟨5,.data⟩ (by simp) rfl 10 rfl;have hJ':=hJ (by rw [<- getD_flip (by rw [hLs];decide)];exact hLi);have hown:=Mx.row_below (show w1.drew.ownsRow B 208 3 fv LL.length (flatK encW LL) from HP.o1) hJ';obtain ⟨i0,hi,hz0,hz1,hz2⟩:=info_parts infoWay;obtain ⟨ua,uc,rfl⟩:=own_shape k6;refine wp_append_ownF W _ _ 205 rfl B 208 i0 (.agg #[.int .i64 0,.int .i64 0,.slice none 0 0]) 3 40 Tryz.underlying205 hi hz0 hz1 hz2 rfl (by decide) _ _ _ h1 hown ⟨q,0,none⟩ 1 1 (encW (.slice ua cs.length uc,x,cs)) h2 rfl ?_ ?_ ?_ ?_ ?_ ?_
      · intro j u hj
        match j,hj with
        | 0,hj=>obtain rfl:Value.int .i64 x.1=u:=by simpa [encW] using hj
                exact k1
        | 1,hj=>obtain rfl:Value.int .i64 x.2=u:=by simpa [encW] using hj
                exact k2
        | 2,hj=>obtain rfl:Value.slice ua cs.length uc=u:=by simpa [encW] using hj
                exact k3
      · intro u hu;simp [encW] at hu;rcases hu with rfl | rfl | rfl <;> rfl
      · have:=HP.o2;unfold maxLen;omega
      · have:=HP.o2;omega
      · have:=HP.o5;have:=HZ.out W hG;omega
      intro v' W' hown' hg' hfr;refine hK _ _ hg' (fun j u _ hj _ h=>toR_grown j u h hj hg' HP.o3) (fun e=>?_) ⟨_,hown',own_of_block k6 (fun b hb=>hg'.block b (own_lt k6 hb) (fun e2=>by have h8:=HP.o3 b e2.symm;have h9:=(own_ty_ k6 hb).1;omega)),fun b hb=>(hfr b hb).imp id (fun h=>Nat.le_trans (HZ.out W hG) h)⟩;rw [getD_set_self (by rw [hLs];decide)] at e
      cases e
  · intro f9 W5 hG hJe hR
    obtain ⟨u,e6,g6,f6⟩:=hR 6 11 (by decide) rfl;simp only [concDsts,qZ];clear hR;obtain ⟨va,vc,hv5⟩:=own_shape e6;obtain ⟨u11,hu11⟩:=eX (f9 11);rw [hu11] at e6 f6 hv5 ⊢;clear hu11;generalize f9 5=v5;generalize f9 6=v6;generalize f9 7=v7;generalize f9 8=v8;generalize f9 9=v9;generalize f9 10=v10;clear f9;have hg5:w1.grownBy W5 fv.ownBlock:=⟨hG.os,hG.tape,hG.output,hG.size,hG.block⟩;have hf5:=H1.o2.grown hg5 H1.o6;obtain ⟨b0,bz⟩:=hf5.facts1;have hbl:=hf5.lt;rw [hv5] at e6;rw [hv5];have H5:=Z5.mk hg5 hf5 e6 g6 f6;clear hg5 hf5 e6 g6 f6 hG hJe;go_wp2_with fail
    go_end0
    obtain ⟨hg5,hf5,e6,g6,f6⟩:=(A5 H5.o1 H5.o2 H5.o3 H5.o4 H5.o5);have hset:∀ b,b≠bF->(W5.setCell ⟨bF,0,none⟩ (.slice va (LL.length+1) vc)).heap[b]?=W5.heap[b]?:=fun b hb=>Below.heap_setCell W5 ⟨bF,0,none⟩ (.slice va (LL.length+1) vc) b hb
    have hB1:=HP.o5;have hty:∀ {t:TypeId} {b:Nat} {c:Array Value} {fz:Nat × Nat},t≠205->W5.heap[b]?=some (.cells c t fz)->b≠bF:=fun {t b c fz} ht h e=>by
      subst e;rw [show W5.heap[b]?=_ from hf5] at h;injection h with h;injection h with _ h _;exact ht h.symm
    refine ⟨rfl,u,⟨⟨_,hf5.set_ 0 _,?_⟩,fun z hz=>?_,HH.o1.le⟩,?_⟩
    · have h1:=own_of_block e6 fun b hb=>hset b (by obtain ⟨_,c,fz,h⟩:=own_ty_ e6 hb;exact hty (by decide) h)
      rw [List.length_append,List.length_singleton,<- flatK_snoc];exact h1
    · rcases List.mem_append.1 hz with hz | hz
      · refine (H1.o1.each z hz).keep fun g hg hl=>?_
        obtain ⟨q1,q2,c,fz,q3⟩:=hg;have e5:W5.heap[g]?=w1.heap[g]?:=hg5.block g hl (fun e=>by
          obtain ⟨_,c',fz',h5⟩:=own_ty_ HP.o1 e.symm;rw [q3] at h5;injection h5 with h5;injection h5 with _ h5 _;exact absurd h5 (by decide))
        have e7:=(hset g (hty (by decide) (e5.trans q3))).trans e5;exact ⟨⟨q1,q2,c,fz,e7.trans q3⟩,e7⟩
      · rw [List.mem_singleton] at hz
        subst hz;refine (own_sliceT encN_len g6).keep fun g hg hl=>?_;obtain ⟨q1,c,fz,q3⟩:=hg;have e7:=hset g (hty (by decide) q3);have hc5:=HH.o2;have hs1:=H1.o4.size;exact ⟨⟨by omega,by omega,c,fz,e7.trans q3⟩,e7⟩
    · have hb0:=H1.o4
      have hsz:(W5.setCell ⟨bF,0,none⟩ (.slice va (LL.length+1) vc)).heap.size=W5.heap.size:=by simp [World.setCell]
      refine ⟨hg5.os.trans hb0.os,hg5.tape.trans hb0.tape,hg5.output.trans hb0.output,by rw [hsz];exact Nat.le_trans hb0.size hg5.size,fun b hb hB=>?_,fun b hb hx hw=>?_⟩
      · have h3:=HH.o1.le
        refine (hset b (by omega)).trans ((hg5.block b (nL hb hb0.size) (fun e=>?_)).trans (hb0.block b hb));have:=(own_ty_ HP.o1 e.symm).1;omega
      · refine (hset b hx).trans ((hg5.block b (nL hb hb0.size) (fun e=>?_)).trans (hb0.block b hb))
        obtain ⟨_,c,fz,h1⟩:=own_ty_ HP.o1 e.symm;exact hw c fz ((hb0.block b hb).symm.trans h1)
theorem blk_ne {w:World} {a b:Nat} {t t':TypeId} {cs cs':Array Value} (h:Blk w a t cs) (k:Blk w b t' cs') (ht:t≠t'):a≠b:=fun e=>by
 subst e;have k2:w.heap[a]?=some (.cells cs' t' (0,0)):=k;rw [show w.heap[a]?=_ from h] at k2;injection k2 with k2;injection k2 with _ k2 _;exact ht k2
structure WB where
 bT:Nat
 bC:Nat
 bR:Nat
 bW:Nat
 bF:Nat
 cb:Nat
structure WalkW (B rb:Nat) (b:WB) (n:Nat) (cs:List Nat) (L:List (Value × Nd × List Nat)) (w:World):Prop where
 told:Blk w b.bT 209 #[.func (.func 122) #[] #[.pointer (some ⟨b.bF,0,none⟩)]]
 cuts:Blk w b.bC 57 #[.slice (some ⟨b.cb,0,none⟩) n n]
 run:Blk w b.bR 66 #[.pointer (some ⟨rb,0,none⟩)]
 walk:Blk w b.bW 236 #[.func (.func 147) #[] #[.pointer (some ⟨b.bT,0,none⟩),.pointer (some ⟨b.bC,0,none⟩),.pointer (some ⟨b.bR,0,none⟩),.pointer (some ⟨b.bW,0,none⟩)]]
 row:Blk w b.cb 3 (flatK encN cs).toArray
 len:cs.length=n
 found:FoundW B b.bF b.cb L w
 low:B<=b.cb
def exW (b:WB) (g:Nat):Prop:=g=b.bF∨g=b.cb
section
variable {B rb:Nat} {b:WB} {n:Nat} {cs:List Nat} {L:List (Value × Nd × List Nat)} {w w':World}
theorem WalkW.below (h:WalkW B rb b n cs L w) (hb:Below w.heap.size w w'):WalkW B rb b n cs L w' :=
 ⟨h.told.below hb h.told.lt,h.cuts.below hb h.cuts.lt,h.run.below hb h.run.lt,h.walk.below hb h.walk.lt,h.row.below hb h.row.lt,h.len,h.found.keep (ex:=fun _=>False) (KeepF.of hb) (fun _ h=>h.elim) (fun h=>h) (fun g c fz hh=>hb.block g (heap_lt hh)),h.low⟩
theorem flat_set:∀ (cs:List Nat) (k v:Nat),(flatK encN cs).toArray.setIfInBounds k (.int .i64 v)=(flatK encN (cs.set k v)).toArray:=fun cs k v=>by
 have e:∀ l:List Nat,flatK encN l=l.map fun n:Nat=>Value.int .i64 n:=fun l=>by
  induction l with
  | nil=>rfl
  | cons x l ih=>rw [flatK_cons,ih];rfl
 rw [e,e,List.setIfInBounds_toArray,List.map_set]
theorem WalkW.cut (h:WalkW B rb b n cs L w) (k v:Nat):WalkW B rb b n (cs.set k v) L (w.setCell ⟨b.cb,k,none⟩ (.int .i64 v)) /\ KeepF B (exW b) w (w.setCell ⟨b.cb,k,none⟩ (.int .i64 v)):=by
 have hset:∀ g,g≠b.cb->(w.setCell ⟨b.cb,k,none⟩ (.int .i64 v)).heap[g]?=w.heap[g]?:=fun g hg=>Below.heap_setCell w ⟨b.cb,k,none⟩ (.int .i64 v) g hg
 have hk:KeepF B (fun g=>g=b.cb) w (w.setCell ⟨b.cb,k,none⟩ (.int .i64 v)) :=
  ⟨rfl,rfl,rfl,by simp [World.setCell],fun g _ hB=>hset g (by have:=h.low;omega),fun g _ hg _=>hset g hg⟩
 have hF:b.bF≠b.cb:=by
  obtain ⟨fv,h1,_⟩:=h.found.row;exact blk_ne h1 h.row (by decide)
 refine ⟨⟨(hset _ (blk_ne h.told h.row (by decide))).trans h.told,(hset _ (blk_ne h.cuts h.row (by decide))).trans h.cuts,(hset _ (blk_ne h.run h.row (by decide))).trans h.run,(hset _ (blk_ne h.walk h.row (by decide))).trans h.walk,?_,by rw [List.length_set];exact h.len,h.found.keep hk (fun _ e=>e) hF (fun g c fz hh=>hset g (fun e=>?_)),h.low⟩,hk.mono (fun g e=>.inr e)⟩
 ·have:=h.row.set_ k (.int .i64 v);rw [flat_set] at this;exact this
 ·subst e;rw [show w.heap[b.cb]?=_ from h.row] at hh;injection hh with hh;injection hh with _ hh _;exact absurd hh (by decide)
end
theorem own_of_blk {w:World} {g:Nat} {cs:List Nat} (h:Blk w g 3 (flatK encN cs).toArray) (hl:cs.length<=1000):w.ownsRow 0 3 1 (.slice (some ⟨g,0,none⟩) cs.length cs.length) cs.length (flatK encN cs) :=
 ⟨flatK_len encN_len cs,.inr ⟨g,cs.length,_,rfl,Nat.zero_le _,h,nR _,by unfold maxLen;omega,by rw [List.size_toArray];exact flatK_len encN_len cs,List.take_of_length_le (by rw [show ((flatK encN cs).toArray).toList=flatK encN cs from rfl,flatK_len encN_len cs];omega)⟩⟩
theorem slice_of_blk {w:World} {g:Nat} {cs:List Nat} (h:Blk w g 3 (flatK encN cs).toArray) (hl:cs.length<=1000):SliceK (IntB w) encN 1 w (.slice (some ⟨g,0,none⟩) cs.length cs.length) cs :=
 (own_sliceT encN_len (own_of_blk h hl)).imp fun g hg _=>hg.2
theorem WalkW.turn {B rb:Nat} {b:WB} {n:Nat} {cs:List Nat} {L L':List (Value × Nd × List Nat)} {w w':World} (h:WalkW B rb b n cs L w) (hk:KeepF B (·=b.bF) w w') (hF:FoundW B b.bF b.cb L' w'):WalkW B rb b n cs L' w':=by
 obtain ⟨fv,h1,_⟩:=h.found.row;exact ⟨hk.blk h.told (blk_ne h.told h1 (by decide)) (by decide),hk.blk h.cuts (blk_ne h.cuts h1 (by decide)) (by decide),hk.blk h.run (blk_ne h.run h1 (by decide)) (by decide),hk.blk h.walk (blk_ne h.walk h1 (by decide)) (by decide),hk.blk h.row (blk_ne h.row h1 (by decide)) (by decide),h.len,hF,h.low⟩
def endW (cs:List Nat) (y:Nd × List Nat):Nd × List Nat:=(y.1,y.2++cs)
theorem ways_snoc (E:List (Nd × Nd)) (k:Nat) (c:Nat) (cs:List Nat) (x:Nd) (hc:c=x.2):(backF E x).flatMap (fun z=>(waysF E k z).map (endW (c::cs)))=(waysF E (k+1) x).map (endW cs):=by
 subst hc;rw [waysF,List.map_flatMap];congr 1;funext z;rw [List.map_map];apply List.map_congr_left;intro y _;simp [endW]
theorem ways_len (E:List (Nd × Nd)) (k:Nat) (x:Nd) (i:Nat) (z:Nd) (hz:(backF E x)[i]?=some z) (c:List Nat):(((backF E x).take i).flatMap fun z=>(waysF E k z).map (endW c)).length+(waysF E k z).length<=(waysF E (k+1) x).length:=by
 have hi:=(gS.1 hz).1;have e1:backF E x=(backF E x).take i++z::(backF E x).drop (i+1):=by
  have:(backF E x)[i]=z:=(gS.1 hz).2;rw [<- this];simp
 have e2:(waysF E (k+1) x).length=((backF E x).flatMap fun z=>(waysF E k z).map (endW c)).length:=by
  rw [waysF];simp [List.length_flatMap]
 rw [e2]
 conv=>rhs;rw [e1]
 rw [List.flatMap_append,List.flatMap_cons,List.length_append,List.length_append,List.length_map];omega
theorem walk_any (C:RC) (p:RP) (left:Nat->Int) (w0 wB:World) (ρ:Nat->Option Role) (m:Rm) (hR:RunM C p left w0 ρ m wB) (b:WB) (n:Nat) (hn:n<=1000) :
  ∀ (k:Nat) (x:Nd) (cs:List Nat) (L:List (Value × Nd × List Nat)) (w:World),k<=n->NdOk x->WalkW wB.heap.size C.rb b n cs L w->Below wB.heap.size wB w->L.length+(waysF m.back k x).length<2199023255552 ->
  Calls Tryz.prog 147 #[ndV x,.int .i64 k,.pointer (some ⟨b.bT,0,none⟩),.pointer (some ⟨b.bC,0,none⟩),.pointer (some ⟨b.bR,0,none⟩),.pointer (some ⟨b.bW,0,none⟩)] w fun e w'=>e=.returned (.tuple #[]) /\
   ∃ (N:List (Value × Nd × List Nat)) (cs':List Nat),WalkW wB.heap.size C.rb b n cs' (L++N) w' /\ cs'.drop k=cs.drop k /\ N.map (·.2)=(waysF m.back k x).map (endW (cs.drop k)) /\ KeepF wB.heap.size (exW b) w w' /\ Below wB.heap.size wB w'
 | 0,x,cs,L,w,hk,hx,hW,hb,hl=>by
  have hW1:=hW.below (show Below w.heap.size w (w.alloc (.cells #[.int .i64 x.1,.int .i64 x.2] 150)) from (bR _ _).alloc (nR _) _);have hb1:=hb.trans (show Below wB.heap.size w (w.alloc (.cells #[.int .i64 x.1,.int .i64 x.2] 150)) from ((bR _ _).alloc (nR _) _).mono hb.size);have hXB:Blk (w.alloc (.cells #[.int .i64 x.1,.int .i64 x.2] 150)) w.heap.size 150 #[.int .i64 x.1,.int .i64 x.2]:=Blk.new _ _ _;have hK1:KeepF wB.heap.size (exW b) w (w.alloc (.cells #[.int .i64 x.1,.int .i64 x.2] 150)):=KeepF.of ((bR _ _).alloc (nR _) _);unfold ndV;go_enter Tryz.func147,Tryz.ntmps147;go_upto_region 1 with fail
  generalize (w.alloc (.cells #[.int .i64 x.1,.int .i64 x.2] 150))=w1 at hW1 hb1 hXB hK1 ⊢;obtain ⟨x0,x1,_⟩:=hXB.facts2;obtain ⟨t0,_⟩:=hW1.told.facts1;obtain ⟨c0,_⟩:=hW1.cuts.facts1;have H1:=Z3.mk hW1 hb1 hK1;clear hW1 hb1 hXB hK1 hW hb;go_wp2_with fail
  have hcn:=H1.o1.len;have hsl:=slice_of_blk H1.o1.row (by omega);rw [hcn] at hsl;refine (told_any wB.heap.size b.bF b.cb L x cs _ w1 H1.o1.found H1.o1.row.lt hsl (by omega) (by omega)).mono ?_;rintro e w2 ⟨rfl,v',hF,hk2⟩;have H2:=Z2.mk hF hk2;clear hF hk2 hsl;go_wp2_with fail
  refine bodyPost_ret (results_none rfl _ _ _) rfl ?_;refine ⟨rfl,[(v',x,cs)],cs,H1.o1.turn H2.o2 H2.o1,rfl,by simp [waysF,endW],H1.o3.trans (H2.o2.mono fun g e=>.inl e),H2.o2.below H1.o2 H1.o2.size (nR _)⟩
 | k+1,x,cs,L,w,hk,hx,hW,hb,hl=>by
  have hW1:=hW.below (show Below w.heap.size w (w.alloc (.cells #[.int .i64 x.1,.int .i64 x.2] 150)) from (bR _ _).alloc (nR _) _);have hb1:=hb.trans (show Below wB.heap.size w (w.alloc (.cells #[.int .i64 x.1,.int .i64 x.2] 150)) from ((bR _ _).alloc (nR _) _).mono hb.size);have hXB:Blk (w.alloc (.cells #[.int .i64 x.1,.int .i64 x.2] 150)) w.heap.size 150 #[.int .i64 x.1,.int .i64 x.2]:=Blk.new _ _ _;have hK1:KeepF wB.heap.size (exW b) w (w.alloc (.cells #[.int .i64 x.1,.int .i64 x.2] 150)):=KeepF.of ((bR _ _).alloc (nR _) _);have hkn:k<cs.length:=by have:=hW.len;omega
  obtain ⟨kk,hkk⟩:∃ kk:Int,((k+1:Nat):Int)=kk:=⟨_,rfl⟩;unfold ndV;rw [hkk];go_enter Tryz.func147,Tryz.ntmps147;go_upto_region 1 with fail
  obtain ⟨nb,hnb⟩:=eX w.heap.size;rw [hnb] at hXB ⊢;generalize (w.alloc (.cells #[.int .i64 x.1,.int .i64 x.2] 150))=w1 at hW1 hb1 hXB hK1 ⊢;obtain ⟨x0,x1,_⟩:=hXB.facts2;obtain ⟨c0,_⟩:=hW1.cuts.facts1;have hfz:=hW1.row.frozen;have hcn:=hW1.len;have hcl:=hW1.row.lt;have hcell:w1.cell? ⟨b.cb,k,none⟩=some (.int .i64 ((cs[k]'hkn:Nat):Int)):=by
   rw [hW1.row.cell k];have:=flatK_get encN_len cs k (cs[k]'hkn) 0 (.int .i64 ((cs[k]'hkn:Nat):Int)) (gE hkn) rfl
   simpa using this
  obtain ⟨hW2,hK2⟩:=hW1.cut k x.2;have hb2:=hK2.below hb1 hb1.size (nR _);have hX2:Blk (w1.setCell ⟨b.cb,k,none⟩ (.int .i64 x.2)) nb 150 #[.int .i64 x.1,.int .i64 x.2]:=hXB.far (blk_ne hXB hW1.row (by decide)) _;have hd:(kk==0)=false:=by rw [<- hkk];simp;omega
  have hw1:IntKind.i64.wrap (kk - 1)=(k:Int):=by rw [show kk - 1=(k:Int) by omega];exact IntWalk.i64_in _ (by omega)
  clear hkk;have hk0:(0:Int)<=k:=by omega
  have hk1:(k:Int)<n:=by omega
  have H2:=Z4.mk hW2 hb2 hX2 (hK1.trans hK2);clear hW1 hb1 hXB hK1 hW hb hW2 hb2 hX2 hK2;go_upto_region 4 with fail
  clear x0 x1 c0 hfz hcell;generalize (w1.setCell ⟨b.cb,k,none⟩ (.int .i64 x.2))=w2 at H2 ⊢;obtain ⟨r0,_⟩:=H2.o1.run.facts1;obtain ⟨x0,x1,_⟩:=H2.o3.facts2;have hR2:=hR.below H2.o2;obtain ⟨_,b8,_,_,_,_,_⟩:=box_cells hR2.box;obtain ⟨mk,f,vb,h1,h2,h3,h4⟩:=hR2.back;have hkey:keyOf Tryz.prog 150 (.agg #[.int .i64 x.1,.int .i64 x.2])=some (kNd x):=keyOf_nd x hx;obtain ⟨gs,hgs⟩:=eX (vb x);have hh:=h4 x;rw [hgs] at hh;have hnv:(f (kNd x)).getD (.slice none 0 0)=gs:=by
   rw [h3 x hx]
   by_cases hr:backF m.back x=[]
   ·rw [if_pos hr];exact (hh.2.2 hr).symm
   ·rw [if_neg hr];simpa using hgs
  obtain ⟨ga,gc,rfl⟩:=own_shape hh.1;have hlk:∀ q,(Instr.lookup 76 (.map (some C.bb)) (.agg #[.int .i64 x.1,.int .i64 x.2]) false).run Tryz.prog (w2.drewN q)=.ok (.slice ga (backF m.back x).length gc) (w2.drewN q):=fun q=>by
   have h5:=(h1.drewN q).lookup (Keyed.of_law ndLaw) Tryz.underlying76 (Tryz.zeroValue214 (w2.drewN q)) hkey;rw [hnv] at h5;exact h5
  have hbl:(backF m.back x).length<=4398046511104:=by
   have:=hR.mb;unfold backF;rw [List.length_map];have:=List.length_filter_le (fun e:Nd × Nd=>e.1==x) m.back;omega
  have hbok:∀ z∈backF m.back x,NdOk z:=fun z hz=>(hR.bok _ (backF_mem.1 hz)).2;have hG:=Z4.mk hh.1 hh.2.1 hR2.lt hbok;clear hR2 h1 h2 h3 h4 hh hnv hkey hgs hbok;obtain ⟨E,hE⟩:=eX (backF m.back x);have HE:=Hd hE;rw [hE] at hlk hG hbl;clear hE
  go_quiet (fail)
  go_wp2_with fail
  have hdrop:(cs.set k x.2).drop k=x.2::cs.drop (k+1):=by
   rw [List.drop_set,if_neg (Nat.lt_irrefl k),Nat.sub_self];have:cs.drop k=cs[k]'(by omega)::cs.drop (k+1):=List.drop_eq_getElem_cons (by omega);rw [this];rfl
  have H3:=Hd hdrop;clear hdrop x0 x1 r0 b8 hlk
  go_loopg [29] E.length (fun me v wr=>∃ (i:Nat) (N:List (Value × Nd × List Nat)) (cs':List Nat),i<=E.length /\ me=E.length - i /\ v=.int .i64 i /\ WalkW wB.heap.size C.rb b n cs' (L++N) wr /\ cs'.drop k=x.2::cs.drop (k+1) /\
   N.map (·.2)=(E.take i).flatMap (fun z=>(waysF m.back k z).map (endW (x.2::cs.drop (k+1)))) /\ KeepF wB.heap.size (exW b) w wr /\ Below wB.heap.size wB wr)
  case atStart =>
   have hbd:Below w2.heap.size w2 (w2.drewN nq):=below_drewN (bR _ _) nq;refine ⟨0,[],_,by omega,rfl,rfl,by rw [List.append_nil];exact H2.o1.below hbd,H3.out,by simp,H2.o4.trans (KeepF.of hbd),H2.o2.trans (hbd.mono H2.o2.size)⟩
  case round =>
   obtain ⟨i,N,cs',hi,hm,rfl,hWr,hdr,hN,hKr,hbr⟩:=hrel
   by_cases hlt:i<E.length
   ·obtain ⟨z,hz⟩:∃ z,E[i]?=some z:=⟨_,gE hlt⟩;obtain ⟨gg,gcap,egs,_,_,_⟩:=own_some hG.o1 (by omega)
    injection egs with e1 e2 e3;subst e1;subst e3;clear e2;have hrow:wr.ownsRow 0 150 2 (.slice (some ⟨gg,0,none⟩) E.length gc) E.length (flatK encNd E):=own_of_block (w:=w2) hG.o1 fun q hq=>by
     have hq1:=hG.o2 q hq;have hq2:=hR.lt q (by rw [hq1];simp);exact (hbr.block q hq2).trans (H2.o2.block q hq2).symm
    have c0:wr.cell? ⟨gg,i * 2,none⟩=some (.int .i64 z.1):=by
     have h:=hrow.cells (g:=gg) rfl (i * 2) _ (flatK_get encNd_len E i z 0 _ hz rfl);rw [addr_add_,Nat.zero_add] at h;exact h
    have c1:wr.cell? ⟨gg,i * 2+1,none⟩=some (.int .i64 z.2):=by
     have h:=hrow.cells (g:=gg) rfl (i * 2+1) _ (flatK_get encNd_len E i z 1 _ hz rfl);rw [addr_add_,Nat.zero_add] at h;exact h
    have hzok:=hG.o4 z (gM hz);obtain ⟨wk0,_⟩:=hWr.walk.facts1;have hwl:=hWr.walk.lt;have hi0:(0:Int)<=i:=by omega
    have hi1:(i:Int)<E.length:=by omega
    have hA:Below wr.heap.size wr (wr.alloc (.cells #[.int .i64 z.1,.int .i64 z.2] 150)):=(bR _ _).alloc (nR _) _;have hlen:=ways_len m.back k x i z (by rw [HE.out];exact hz) (x.2::cs.drop (k+1));rw [HE.out,<- hN,List.length_map] at hlen;have hcall:=walk_any C p left w0 wB ρ m hR b n hn k z cs' (L++N) _ (by omega) hzok (hWr.below hA) (hbr.trans (hA.mono hbr.size)) (by rw [List.length_append];omega);have HR:=Z5.mk hm hdr hN (hKr.trans (KeepF.of hA)) hz;have HC:=Hd hcall;clear hcall hWr hdr hN hKr hbr hrow hA hm hlen hz hzok;go_wp2_with fail
    refine HC.out.mono ?_;rintro e w4 ⟨rfl,N2,cs2,q1,q2,q3,q4,q5⟩;have H4:=Z5.mk q1 q2 q3 q4 q5;clear q1 q2 q3 q4 q5;go_wp2_with fail
    go_roundg (E.length - (i+1))
    case measure=>have:=HR.o1;omega
    case rel =>
     refine ⟨i+1,N++N2,cs2,by omega,rfl,rfl,by rw [<- List.append_assoc];exact H4.o1,H4.o2.trans HR.o2,?_,HR.o4.trans H4.o4,H4.o5⟩;rw [List.map_append,HR.o3,H4.o3,HR.o2,List.take_add_one,HR.o5,List.flatMap_append];simp
   ·obtain rfl:i=E.length:=by omega
    rw [List.take_length] at hN;have HR:=Z5.mk hWr hdr hN hKr hbr;clear hWr hdr hN hKr hbr hm;go_wp2_with fail
    go_end0
    refine ⟨rfl,N,cs',HR.o1,?_,?_,HR.o4,HR.o5⟩
    ·have:=congrArg (List.drop 1) HR.o2;rw [List.drop_drop] at this
     simpa [Nat.add_comm] using this
    ·rw [HR.o3,<- HE.out];exact ways_snoc m.back k x.2 (cs.drop (k+1)) x rfl
theorem endW_nil (l:List (Nd × List Nat)):l.map (endW [])=l:=by
 have:∀ y∈l,endW [] y=id y:=fun y _=>by simp [endW]
 rw [List.map_congr_left this,List.map_id]
theorem flat_zeros (n:Nat):(flatK encN (List.replicate n 0)).toArray=Array.replicate n (.int .i64 0):=by
 have e:∀ n,flatK encN (List.replicate n 0)=List.replicate n (.int .i64 0):=fun n=>by
  induction n with
  | zero=>rfl
  | succ n ih=>rw [List.replicate_succ,flatK_cons,ih,List.replicate_succ];rfl
 rw [e];simp
theorem made_ints (n:Nat):madeCells (Value.int .i64 0).cells n=(flatK encN (List.replicate n 0)).toArray:=by
 rw [flat_zeros];apply Array.ext
 ·simp [madeCells]
 ·intro i h1 h2;simp [madeCells,Value.cells,Nat.mod_one]
theorem make_ints (n:Nat) (hn:n<=1000000000) (w:World):(Instr.makeSlice 57 (.int .i64 n) (.int .i64 n)).run Tryz.prog w=.ok (.slice (some ⟨w.heap.size,0,none⟩) n n) (w.alloc (.cells (flatK encN (List.replicate n 0)).toArray 3)):=by
 obtain ⟨i0,hi,hz0,hz1,hz2⟩:=info_parts infoIntG;have h:=run_make (P:=Tryz.prog) w 57 3 i0 _ Tryz.underlying57 hi hz0 .i64 .i64 (n:Int) (n:Int) (by omega) (by omega) (by rw [hz2];omega) (by omega);rw [hz1,Int.toNat_natCast,Nat.mul_one,made_ints] at h;exact h
theorem run_store_func_ {P:Program} {w:World} {a:Addr} {m:Mode} (fn:Fn) (x y:Array Value):(store a (.func fn x y) m).run P w=stored P w a (.func fn x y) m:=run_store P w a _ m rfl
attribute [local go_sem] run_store_func_
theorem ways_any (C:RC) (p:RP) (left:Nat->Int) (w0 wB:World) (ρ:Nat->Option Role) (m:Rm) (hR:RunM C p left w0 ρ m wB) (x:Nd) (hx:NdOk x) (n:Nat) (hn:n<=1000) (bF:Nat) (w:World) (hF:Blk w bF 205 #[.slice none 0 0]) (hbF:wB.heap.size<=bF) (hb:Below wB.heap.size wB w) (hl:(waysF m.back n x).length<2199023255552) :
  Calls Tryz.prog 121 #[.pointer (some ⟨C.rb,0,none⟩),ndV x,.int .i64 n,.func (.func 122) #[] #[.pointer (some ⟨bF,0,none⟩)]] w fun e w'=>e=.returned (.tuple #[]) /\
   ∃ (N:List (Value × Nd × List Nat)) (cb:Nat),FoundW wB.heap.size bF cb N w' /\ N.map (·.2)=waysF m.back n x /\ KeepF wB.heap.size (·=bF) w w' /\ w.heap.size<=cb:=by
 have hmf:∀ (fn:Fn) (first cap:Array Value) (w:World),(Instr.makeFunc fn first cap).run Tryz.prog w=.ok (.func fn first cap) w:=fun _ _ _ _=>rfl;have hms:=fun w=>make_ints n (by omega) w;have HH:=Z2.mk hF hb;clear hF hb;unfold ndV;go_enter Tryz.func121,Tryz.ntmps121;go_upto_region 3 with fail
 have hR0:Blk ((((((w.alloc (.cells #[.pointer (some ⟨C.rb,0,none⟩)] 66)).alloc (.cells #[.int .i64 x.1,.int .i64 x.2] 150)).alloc (.cells #[.func (.func 122) #[] #[.pointer (some ⟨bF,0,none⟩)]] 209)).alloc (.cells (flatK encN (List.replicate n 0)).toArray 3)).alloc (.cells #[.slice (some ⟨w.heap.size+1+1+1,0,none⟩) n n] 57)).alloc (.cells #[.nilFunc] 236)) w.heap.size 66 #[.pointer (some ⟨C.rb,0,none⟩)]:=(((((Blk.new_ rfl _ _).alloc _).alloc _).alloc _).alloc _).alloc _;have hX0:Blk ((((((w.alloc (.cells #[.pointer (some ⟨C.rb,0,none⟩)] 66)).alloc (.cells #[.int .i64 x.1,.int .i64 x.2] 150)).alloc (.cells #[.func (.func 122) #[] #[.pointer (some ⟨bF,0,none⟩)]] 209)).alloc (.cells (flatK encN (List.replicate n 0)).toArray 3)).alloc (.cells #[.slice (some ⟨w.heap.size+1+1+1,0,none⟩) n n] 57)).alloc (.cells #[.nilFunc] 236)) (w.heap.size+1) 150 #[.int .i64 x.1,.int .i64 x.2]:=((((Blk.new_ (by simp) _ _).alloc _).alloc _).alloc _).alloc _;have hT0:Blk ((((((w.alloc (.cells #[.pointer (some ⟨C.rb,0,none⟩)] 66)).alloc (.cells #[.int .i64 x.1,.int .i64 x.2] 150)).alloc (.cells #[.func (.func 122) #[] #[.pointer (some ⟨bF,0,none⟩)]] 209)).alloc (.cells (flatK encN (List.replicate n 0)).toArray 3)).alloc (.cells #[.slice (some ⟨w.heap.size+1+1+1,0,none⟩) n n] 57)).alloc (.cells #[.nilFunc] 236)) (w.heap.size+1+1) 209 #[.func (.func 122) #[] #[.pointer (some ⟨bF,0,none⟩)]]:=(((Blk.new_ (by simp) _ _).alloc _).alloc _).alloc _;have hc0:Blk ((((((w.alloc (.cells #[.pointer (some ⟨C.rb,0,none⟩)] 66)).alloc (.cells #[.int .i64 x.1,.int .i64 x.2] 150)).alloc (.cells #[.func (.func 122) #[] #[.pointer (some ⟨bF,0,none⟩)]] 209)).alloc (.cells (flatK encN (List.replicate n 0)).toArray 3)).alloc (.cells #[.slice (some ⟨w.heap.size+1+1+1,0,none⟩) n n] 57)).alloc (.cells #[.nilFunc] 236)) (w.heap.size+1+1+1) 3 (flatK encN (List.replicate n 0)).toArray:=((Blk.new_ (by simp) _ _).alloc _).alloc _;have hC0:Blk ((((((w.alloc (.cells #[.pointer (some ⟨C.rb,0,none⟩)] 66)).alloc (.cells #[.int .i64 x.1,.int .i64 x.2] 150)).alloc (.cells #[.func (.func 122) #[] #[.pointer (some ⟨bF,0,none⟩)]] 209)).alloc (.cells (flatK encN (List.replicate n 0)).toArray 3)).alloc (.cells #[.slice (some ⟨w.heap.size+1+1+1,0,none⟩) n n] 57)).alloc (.cells #[.nilFunc] 236)) (w.heap.size+1+1+1+1) 57 #[.slice (some ⟨w.heap.size+1+1+1,0,none⟩) n n]:=(Blk.new_ (by simp) _ _).alloc _;have hW0:Blk ((((((w.alloc (.cells #[.pointer (some ⟨C.rb,0,none⟩)] 66)).alloc (.cells #[.int .i64 x.1,.int .i64 x.2] 150)).alloc (.cells #[.func (.func 122) #[] #[.pointer (some ⟨bF,0,none⟩)]] 209)).alloc (.cells (flatK encN (List.replicate n 0)).toArray 3)).alloc (.cells #[.slice (some ⟨w.heap.size+1+1+1,0,none⟩) n n] 57)).alloc (.cells #[.nilFunc] 236)) (w.heap.size+1+1+1+1+1) 236 #[.nilFunc]:=Blk.new_ (by simp) _ _;have hbl:Below w.heap.size w ((((((w.alloc (.cells #[.pointer (some ⟨C.rb,0,none⟩)] 66)).alloc (.cells #[.int .i64 x.1,.int .i64 x.2] 150)).alloc (.cells #[.func (.func 122) #[] #[.pointer (some ⟨bF,0,none⟩)]] 209)).alloc (.cells (flatK encN (List.replicate n 0)).toArray 3)).alloc (.cells #[.slice (some ⟨w.heap.size+1+1+1,0,none⟩) n n] 57)).alloc (.cells #[.nilFunc] 236)):=((((((bR _ _).alloc (nR _) _).alloc (by simp) _).alloc (by simp;omega) _).alloc (by simp;omega) _).alloc (by simp;omega) _).alloc (by simp;omega) _;generalize ((((((w.alloc (.cells #[.pointer (some ⟨C.rb,0,none⟩)] 66)).alloc (.cells #[.int .i64 x.1,.int .i64 x.2] 150)).alloc (.cells #[.func (.func 122) #[] #[.pointer (some ⟨bF,0,none⟩)]] 209)).alloc (.cells (flatK encN (List.replicate n 0)).toArray 3)).alloc (.cells #[.slice (some ⟨w.heap.size+1+1+1,0,none⟩) n n] 57)).alloc (.cells #[.nilFunc] 236))=w1 at hR0 hX0 hT0 hc0 hC0 hW0 hbl ⊢;obtain ⟨nb,hnb⟩:=eX w.heap.size;rw [hnb] at hR0 hX0 hT0 hc0 hC0 hW0 ⊢;obtain ⟨fn0,fnz⟩:=hW0.facts1;have hwl:=hW0.lt;have hxw:nb+1≠nb+1+1+1+1+1:=by omega
 obtain ⟨x0,x1,_⟩:=hX0.facts2;have H1:=Z7.mk hR0 hT0 hc0 hC0 hW0 hbl hnb;clear hR0 hX0 hT0 hc0 hC0 hW0 hbl hnb hms;go_wp2_with fail
 obtain ⟨hR0,hT0,hc0,hC0,hW0,hbl,hnb⟩:=(A7 H1.o1 H1.o2 H1.o3 H1.o4 H1.o5 H1.o6 H1.o7);have hB1:=HH.o2.trans (hbl.mono HH.o2.size);have hwB:=HH.o2.size;have hFb:=HH.o1.below hbl HH.o1.lt;obtain ⟨fb,hfb⟩:∃ v:Value,v=.func (.func 147) #[] #[.pointer (some ⟨nb+1+1,0,none⟩),.pointer (some ⟨nb+1+1+1+1,0,none⟩),.pointer (some ⟨nb,0,none⟩),.pointer (some ⟨nb+1+1+1+1+1,0,none⟩)]:=⟨_,rfl⟩;rw [<- hfb];have hset:∀ g,g≠nb+1+1+1+1+1->(w1.setCell ⟨nb+1+1+1+1+1,0,none⟩ fb).heap[g]?=w1.heap[g]?:=fun g hg=>Below.heap_setCell w1 ⟨nb+1+1+1+1+1,0,none⟩ fb g hg
 have hFW:FoundW wB.heap.size bF (nb+1+1+1) [] (w1.setCell ⟨nb+1+1+1+1+1,0,none⟩ fb):=by
  refine ⟨⟨.slice none 0 0,(hset bF (blk_ne hFb hW0 (by decide))).trans hFb,World.ownsRow_nil _ _ _ _⟩,fun z hz=>absurd hz (by simp),hbF⟩
 have hWW:WalkW wB.heap.size C.rb ⟨nb+1+1,nb+1+1+1+1,nb,nb+1+1+1+1+1,bF,nb+1+1+1⟩ n (List.replicate n 0) [] (w1.setCell ⟨nb+1+1+1+1+1,0,none⟩ fb) :=
  ⟨(hset _ (by simp only;omega)).trans hT0,(hset _ (by simp only;omega)).trans hC0,(hset _ (by simp only;omega)).trans hR0,by
   have h:=hW0.set_ 0 fb;rw [hfb] at h ⊢;exact h,(hset _ (by simp only;omega)).trans hc0,by simp,hFW,by simp only;omega⟩
 have hB2:Below wB.heap.size wB (w1.setCell ⟨nb+1+1+1+1+1,0,none⟩ fb):=hB1.setCell (by simp;omega) _
 have hk1:KeepF wB.heap.size (·=bF) w (w1.setCell ⟨nb+1+1+1+1+1,0,none⟩ fb) :=
  ⟨hbl.os,hbl.tape,hbl.output,by have:=hbl.size;simpa [World.setCell] using this,fun b hb _=>(hset b (by omega)).trans (hbl.block b hb),fun b hb _ _=>(hset b (by omega)).trans (hbl.block b hb)⟩
 refine (walk_any C p left w0 wB ρ m hR ⟨nb+1+1,nb+1+1+1+1,nb,nb+1+1+1+1+1,bF,nb+1+1+1⟩ n hn n x (List.replicate n 0) [] _ (nR _) hx hWW hB2 (by simpa using hl)).mono ?_;rintro e w2 ⟨rfl,N,cs',q1,q2,q3,q4,q5⟩;have H2:=Z4.mk q1.found q3 q4 hk1;clear q1 q2 q3 q4 q5 hWW hFW hB2 hk1 hset hfb hB1 hFb hR0 hT0 hc0 hC0 hW0 hbl;go_wp2_with fail
 go_end0
 refine ⟨rfl,N,nb+1+1+1,by have:=H2.o1;rwa [List.nil_append] at this,?_,?_,by omega⟩
 ·have:=H2.o2;rw [show (List.replicate n 0).drop n=[] by simp,endW_nil] at this;exact this
 ·obtain ⟨k1,k2⟩:=(An H2.o3 H2.o4);refine ⟨k1.os.trans k2.os,k1.tape.trans k2.tape,k1.output.trans k2.output,Nat.le_trans k2.size k1.size,fun b hb hB=>(k1.low b (nL hb k2.size) hB).trans (k2.low b hb hB),fun b hb h1 h2=>?_⟩;have e:=k2.block b hb h1 h2;rw [<- e];exact k1.block b (nL hb k2.size) (fun h=>h.elim h1 (fun h=>by simp only at h;omega)) (by rw [e];exact h2)
end Go.Proofs.YthiochcpmfkgcaaGreatDoor.Gl
