/- Walks and plain laws that the last text stands on: GlWhole, GlPre, GlLay, GlMax, GlVals, GlApp, GlCmp, GlLess, GlSort, GlSorted. -/
import Derived.Test.YthiochcpmfkgcaaGreatDoorSo18
import Derived.Test.YthiochcpmfkgcaaGreatDoorSo19
import Derived.Shelf.SlIterI.Collect
import Derived.Shelf.SlIter.Stops
set_option linter.unusedVariables false
set_option linter.unusedSimpArgs false
set_option maxRecDepth 100000
set_option maxHeartbeats 16000000
namespace Go.Proofs.YthiochcpmfkgcaaGreatDoor.Gl
open Go Go.RowKit Go.Proofs Go.Maps Go.WideMaps Mx Tb
theorem gsets {g:Gr} (hg:Tb.Good g):SetsOk g /\ SortsAt g /\ NoSort g:=by
 have hm:∀ (x:It) (y:Sy),aheadF g x=some y->∃ p∈g.prods,y∈p.right:=fun x y h=>by
  unfold aheadF rightOf at h
  cases hp:g.prods[x.1]? with
  | none=>rw [hp] at h;simp at h
  | some p =>
   rw [hp] at h;exact ⟨p,gM hp,gM (show p.right[x.2]?=some y from h)⟩
 refine ⟨fun x y h hk=>?_,fun x y h hk=>?_,fun x y h hk=>?_⟩
 all_goals
  obtain ⟨p,hp,hy⟩:=hm x y h
  rcases hg.sym p hp y hy with ⟨h1,h2,h3,h4⟩ | ⟨h1,h2,h3,h4⟩
 ·exact h4
 ·omega
 ·omega
 ·exact ⟨h3,h4⟩
 ·exact h2
 ·omega
theorem gsyms (g:Gr) (l:List It):(symsR g l).length<=g.sorts.length+256:=by
 unfold symsR;rw [List.length_append,List.length_map,List.length_map];have h1:=List.length_filter_le (fun n:Nat=>l.any (sortHit g (n:Int))) (List.range g.sorts.length);have h2:=List.length_filter_le (fun c=>(setsOf g l).any fun s=>withinF c s) (refSplit (setsOf g l))
 have h3:(refSplit (setsOf g l)).length<=256:=by
  unfold refSplit firsts;rw [List.length_map];exact Nat.le_trans (List.length_filter_le _ _) (by simp)
 simp only [List.length_range] at h1;omega
theorem gedges {g:Gr} {l:List St} (hg:Tb.Good g) (hm:MadeLaw g l) {s:St} (hs:s∈l):s.edges.length<=2000:=by
 have h:=(hm.state s hs).len;obtain ⟨a,b,c⟩:=gsets hg;rw [h,leadsF_eq a b c,List.length_map];have:=gsyms g s.items;have:=hg.sorts;omega
def askF (g:Gr) (txt:List UInt8):Int × Option (List St) :=
 if chkN g=0 then if 4096<txt.length then (3,none) else match makeF g with | none=>(3,none) | some l=>(0,some l) else (160,none)
def AskT (g:Gr) (w:World) (e:Ending) (w':World):Int × Option (List St)->Prop
 | (n,none)=>e=.returned (.tuple #[.pointer none,.int .i64 n]) /\ Below w.heap.size w w'
 | (n,some l)=>∃ tb B sm,l=sm.map toSt /\ e=.returned (.tuple #[.pointer (some ⟨tb,0,none⟩),.int .i64 n]) /\ TabW g B tb sm w' /\ (∀ s∈sm,s.next=nextF s.edges) /\ Below w.heap.size w w'
theorem chk_two (g:Gr):chkN g=0∨chkN g=160:=by unfold chkN;split <;> simp
structure GrW (g:Gr) (p:RP) (w:World):Prop where
 start:p.st=g.start
 sorts:SliceK (fun _=>True) Tb.encS 1 w p.sv g.sorts
 prods:ProdsAt (fun _=>True) w p.pv g.prods
 fv:∃ fa fn fc,p.fv=.slice fa fn fc
 lv:∃ la ln lc,p.lv=.slice la ln lc
 good:chkN g=0->Tb.Good g
 env:EnvG w
 chk:∀ W,Below w.heap.size w W->Calls Tryz.prog 61 #[.agg #[p.sv,p.pv,.int .i64 p.st,p.fv,p.lv]] W fun e w'=>e=.returned (.int .i64 (chkN g)) /\ Below W.heap.size W w'
 txt:p.txt.length<=100000
theorem GrW.below {g:Gr} {p:RP} {w w':World} (h:GrW g p w) (hb:Below w.heap.size w w'):GrW g p w' :=
 ⟨h.start,h.sorts.all hb,h.prods.keep (fun b hb2 hl=>⟨trivial,hb.block b hl⟩),h.fv,h.lv,h.good,h.env.below hb h.env.big,fun W hW=>h.chk W (hb.trans (hW.mono hb.size)),h.txt⟩
theorem asked_any (g:Gr) (p:RP) (w:World) (h:GrW g p w) :
  Calls Tryz.prog 46 #[.agg #[p.sv,p.pv,.int .i64 p.st,p.fv,p.lv],.string ⟨p.txt.toArray⟩] w fun e w'=>AskT g w e w' (askF g p.txt):=by
 obtain ⟨fa,fn,fc,hf⟩:=h.fv;obtain ⟨la,ln,lc,hl⟩:=h.lv;have hck:=h.chk;have hst:=h.start;rw [hst,hf,hl] at hck ⊢;have hb0:=(bR w.heap.size w).alloc (nR _) (.cells #[p.sv,p.pv,.int .i64 g.start,.slice fa fn fc,.slice la ln lc] 27);have HH:=Z3.mk h hck hb0;clear h hck hf hl hst hb0;obtain ⟨tb,htb⟩:∃ tb:ByteArray,(⟨p.txt.toArray⟩:ByteArray)=tb:=⟨_,rfl⟩;have htz:tb.size=p.txt.length:=by rw [<- htb,ba_len]
 rw [htb];clear htb;go_enter Tryz.func46,Tryz.ntmps46;go_wp2_with fail
 refine (HH.o2 _ HH.o3).mono ?_;rintro e w1 ⟨rfl,hb1⟩;have hb2:=HH.o3.trans (hb1.mono HH.o3.size)
 rcases chk_two g with hc | hc
 ·rw [hc]
  by_cases hlong:4096<p.txt.length
  ·have d1:(4096:Int)<tb.size:=by omega
   have HR:=Z3.mk hb2 hc hlong;clear hb1 hb2 hc hlong htz;go_wp2_with fail
   refine bodyPost_ret (v:=.tuple #[.pointer none,.int .i64 3]) (by simp [results,Tryz.results46,go_sem]) rfl ?_;unfold askF;rw [if_pos HR.o2,if_pos HR.o3];exact ⟨rfl,HR.o1⟩
  ·have d1:¬ (4096:Int)<tb.size:=by omega
   obtain ⟨g0,g1,g2,g3,g4,gf⟩:=gfacts5 ((Blk.new w 27 #[p.sv,p.pv,.int .i64 g.start,.slice fa fn fc,.slice la ln lc]).below hb1 (by simp));have HR:=Z4.mk hb2 hc hlong hb1;clear hb1 hb2 hc hlong htz;go_wp2_with fail
   have hw1:=HH.o1.below HR.o1;refine (make_any (fun _=>True) g (HH.o1.good HR.o2) w1 p.sv p.pv fa la fn fc ln lc hw1.sorts hw1.prods (fun W hW=>by
    have h1:=HH.o2 W (HR.o1.trans (hW.mono HR.o1.size));rw [HR.o2] at h1;exact h1) hw1.env.bru (Nat.le_trans (by decide) hw1.env.big)).mono ?_
   rintro e w2 hT;have hask:askF g p.txt=match makeF g with | none=>(3,none) | some l=>(0,some l):=by
    unfold askF;rw [if_pos HR.o2,if_neg HR.o3]
   have HASK:=Hd hask;clear hask
   rcases hT with ⟨tb',B,sm,hmk,rfl,hTW,hnx,hb3⟩ | ⟨hmk,rfl,hb3⟩
   ·have HF:=Z4.mk hTW hnx hb3 hmk;clear hTW hnx hb3 hmk;go_wp2_with fail
    refine bodyPost_ret (v:=.tuple #[.pointer (some ⟨tb',0,none⟩),.int .i64 0]) (by simp [results,Tryz.results46,go_sem]) rfl ?_;rw [HASK.out,HF.o4];exact ⟨tb',B,sm,rfl,rfl,HF.o1,HF.o2,HR.o1.trans (HF.o3.mono HR.o1.size)⟩
   ·have HF:=Z2.mk hb3 hmk;clear hb3 hmk;go_wp2_with fail
    refine bodyPost_ret (v:=.tuple #[.pointer none,.int .i64 3]) (by simp [results,Tryz.results46,go_sem]) rfl ?_;rw [HASK.out,HF.o2];exact ⟨rfl,HR.o1.trans (HF.o1.mono HR.o1.size)⟩
 ·rw [hc];have HR:=Z2.mk hb2 hc;clear hb1 hb2 hc htz;go_wp2_with fail
  refine bodyPost_ret (v:=.tuple #[.pointer none,.int .i64 160]) (by simp [results,Tryz.results46,go_sem]) rfl ?_;unfold askF;rw [if_neg (by rw [HR.o2];decide)];exact ⟨rfl,HR.o1⟩
def wholeF (g:Gr) (txt:List UInt8) (bud:Int):Int × Option (List St × Rn) :=
 match askF g txt with
 | (n,none)=>(n,none)
 | (_,some l)=>if bud<0 then (2,none) else match goneF (tabF g l) txt bud.toNat with | .stop _=>(200,none) | .ok r=>(0,some (l,r))
structure Lim (g:Gr) (txt:List UInt8) (bud:Int):Prop where
 small:bud<=2199023255552
 ways:∀ l,makeF g=some l->Tb.Good g->0<=bud->∀ r,Inv (tabF g l) txt bud.toNat r->∀ x∈r.nodes,∀ q∈(tabF g l).done x.1,(waysF r.edges ((tabF g l).len q) x).length<2199023255552
 tries:∀ l,makeF g=some l->Tb.Good g->0<=bud->∀ e,(outA (goneF (tabF g l) txt bud.toNat)).tries.count e<4611686018427387904
def RP.withT (p:RP) (tv:Value):RP:=⟨p.sv,p.pv,p.st,p.fv,p.lv,tv,p.txt⟩
def WholeT (g:Gr) (p:RP) (w:World) (e:Ending) (w':World):Int × Option (List St × Rn)->Prop
 | (n,none)=>e=.returned (.tuple #[.pointer none,.int .i64 n]) /\ Below w.heap.size w w'
 | (n,some (l,r))=>∃ B sm tv C w0 ρ,l=sm.map toSt /\ Ctx g B sm (p.withT tv) w0 /\ Below w.heap.size w w0 /\ (∀ s∈sm,s.next=nextF s.edges) /\ e=.returned (.tuple #[.pointer (some ⟨C.rb,0,none⟩),.int .i64 n]) /\ RunW C (p.withT tv) (tabF g l).left w0 ρ r w'
theorem whole_any (g:Gr) (p:RP) (bud:Int) (w:World) (h:GrW g p w) (hL:Lim g p.txt bud) :
  Calls Tryz.prog 23 #[.agg #[p.sv,p.pv,.int .i64 p.st,p.fv,p.lv],.string ⟨p.txt.toArray⟩,.int .i64 bud] w fun e w'=>WholeT g p w e w' (wholeF g p.txt bud):=by
 have hb0:=(bR w.heap.size w).alloc (nR _) (.cells #[p.sv,p.pv,.int .i64 p.st,p.fv,p.lv] 27);have HH:=Z3.mk h hL hb0;clear h hL hb0;obtain ⟨tb,htb⟩:∃ tb:ByteArray,(⟨p.txt.toArray⟩:ByteArray)=tb:=⟨_,rfl⟩;have HTB:=Hd htb;rw [htb];clear htb;go_enter Tryz.func23,Tryz.ntmps23;go_wp2_with fail
 have hA:=asked_any g p _ (HH.o1.below HH.o3);rw [HTB.out] at hA;refine hA.mono ?_;clear hA;rintro e w1 hA;have hgl:=HH.o1.good;obtain ⟨qa,hqa⟩:=eX (askF g p.txt);obtain ⟨n,o⟩:=qa;rw [hqa] at hA
 cases o with
 | none =>
  obtain ⟨rfl,hb1⟩:=hA;have hn:n=3∨n=160:=by
   unfold askF at hqa
   split at hqa
   ·split at hqa
    ·cases hqa;exact .inl rfl
    ·split at hqa
     ·cases hqa;exact .inl rfl
     ·cases hqa
   ·cases hqa;exact .inr rfl
  have hw:wholeF g p.txt bud=(n,none):=by unfold wholeF;rw [hqa]
  have HR:=Z2.mk (HH.o3.trans (hb1.mono HH.o3.size)) hw;clear hb1 hw hqa hgl
  rcases hn with rfl | rfl
  ·go_wp2_with fail
   refine bodyPost_ret (v:=.tuple #[.pointer none,.int .i64 3]) (by simp [results,Tryz.results23,go_sem]) rfl ?_;rw [HR.o2];exact ⟨rfl,HR.o1⟩
  ·go_wp2_with fail
   refine bodyPost_ret (v:=.tuple #[.pointer none,.int .i64 160]) (by simp [results,Tryz.results23,go_sem]) rfl ?_;rw [HR.o2];exact ⟨rfl,HR.o1⟩
 | some l =>
  obtain ⟨tb',B,sm,hl,rfl,hTW,hnx,hb1⟩:=hA;have hask:n=0 /\ chkN g=0 /\ makeF g=some l:=by
   unfold askF at hqa
   split at hqa
   ·split at hqa
    ·cases hqa
    ·split at hqa
     ·cases hqa
     ·next hm=>cases hqa;exact ⟨rfl,by assumption,hm⟩
   ·cases hqa
  obtain ⟨rfl,hc0,hmk⟩:=hask;have hb2:=HH.o3.trans (hb1.mono HH.o3.size)
  by_cases hneg:bud<0
  ·have hw:wholeF g p.txt bud=(2,none):=by unfold wholeF;rw [hqa];simp only [hneg,if_true]
   have HR:=Z2.mk hb2 hw;clear hb1 hb2 hw hqa hgl hTW hnx hmk hl;go_wp2_with fail
   refine bodyPost_ret (v:=.tuple #[.pointer none,.int .i64 2]) (by simp [results,Tryz.results23,go_sem]) rfl ?_;rw [HR.o2];exact ⟨rfl,HR.o1⟩
  ·obtain ⟨Bd,rfl⟩:∃ Bd:Nat,bud=(Bd:Int):=⟨bud.toNat,by omega⟩
   have hw:wholeF g p.txt (Bd:Int)=match goneF (tabF g l) p.txt Bd with | .stop _=>(200,none) | .ok r=>(0,some (l,r)):=by
    unfold wholeF;rw [hqa];simp only [hneg,if_false,Int.toNat_natCast]
   obtain ⟨g0,g1,g2,g3,g4,gf⟩:=gfacts5 ((Blk.new w 27 #[p.sv,p.pv,.int .i64 p.st,p.fv,p.lv]).below hb1 (by simp))
   have hctx:Ctx g B sm (p.withT (.pointer (some ⟨tb',0,none⟩))) w1:=by
    have hw1:=HH.o1.below hb2;have hgd:=hgl hc0;have hml:=makeF_law hmk;rw [hl] at hml;refine ⟨.inr ⟨tb',rfl,hTW⟩,hw1.prods,hw1.env,by have:=hgd.prods;omega,fun q hq=>by have:=hgd.right q hq;omega,fun s hs=>?_,hml,HH.o1.txt⟩
    have h1:=gedges hgd hml (List.mem_map_of_mem (f:=toSt) hs);have h2:=(hml.state (toSt s) (List.mem_map_of_mem (f:=toSt) hs)).done;have h3:=(hTW.each s hs).len;have h4:s.done.length<=s.items.length:=by
     have:s.done=doneF g s.items:=h2;rw [this];unfold doneF;rw [List.length_map];exact List.length_filter_le _ _
    exact ⟨Nat.le_trans h1 (by decide),by omega⟩
   have hgone:=gone_any g B sm (p.withT (.pointer (some ⟨tb',0,none⟩))) w1 hctx Bd ⟨fun r hr x hx q hq=>by
    have:=HH.o2.ways l hmk (hgl hc0) (by omega) r;rw [hl] at this;exact this hr x hx q hq⟩ (by have:=HH.o2.small;omega) (fun e=>by
    have:=HH.o2.tries l hmk (hgl hc0) (by omega) e;rw [hl] at this;exact this)
   have hgone:Calls Tryz.prog 52 #[.agg #[p.sv,p.pv,.int .i64 p.st,p.fv,p.lv],.pointer (some ⟨tb',0,none⟩),.string tb,.int .i64 Bd] w1 fun e w'=>GoneT (p.withT (.pointer (some ⟨tb',0,none⟩))) (TT g sm).left w1 e w' (goneF (TT g sm) p.txt Bd):=by
    rw [<- HTB.out];exact hgone
   have HR:=Z6.mk hb2 hw hl hnx hctx hgone;clear hb1 hb2 hw hqa hgl hTW hnx hmk hl hctx hgone;go_wp2_with fail
   refine HR.o6.mono ?_;rintro e w2 hG
   cases hgf:goneF (TT g sm) p.txt Bd with
   | stop r =>
    rw [hgf] at hG;obtain ⟨v,rfl,hb3⟩:=hG;have HF:=Hd hb3;have HGF:=Hd hgf;clear hb3 hgf;go_wp2_with fail
    refine bodyPost_ret (v:=.tuple #[.pointer none,.int .i64 200]) (by simp [results,Tryz.results23,go_sem]) rfl ?_;rw [HR.o2,HR.o3,HGF.out];exact ⟨rfl,HR.o1.trans (HF.out.mono HR.o1.size)⟩
   | ok r =>
    rw [hgf] at hG;obtain ⟨C,ρ,rfl,hR⟩:=hG;have HF:=Hd hR;have HGF:=Hd hgf;clear hR hgf;go_wp2_with fail
    refine bodyPost_ret (v:=.tuple #[.pointer (some ⟨C.rb,0,none⟩),.int .i64 0]) (by simp [results,Tryz.results23,go_sem]) rfl ?_;rw [HR.o2,HR.o3,HGF.out];exact ⟨B,sm,_,C,w1,ρ,rfl,HR.o5,HR.o1,HR.o4,rfl,HF.out⟩
def nextL (l:List St) (L:List Nat):Nat:=L.foldl (fun (a n:Nat)=>a ||| nextF (edgesAt l n)) 0
theorem next_same {sm:List SM} (h:∀ s∈sm,s.next=nextF s.edges) (n:Nat):(stAt sm (n:Int)).next=nextF (edgesAt (sm.map toSt) n):=by
 rw [tt_edges,stAt_get]
 cases hs:sm[n]? with
 | none=>simp [noSM,freshSM,nextF]
 | some s=>exact h s (gM hs)
theorem nextAt_same {sm:List SM} (h:∀ s∈sm,s.next=nextF s.edges) (L:List Nat):nextAt sm L=nextL (sm.map toSt) L:=by
 unfold nextAt nextL;congr 1;funext a n;rw [next_same h]
def preF (g:Gr) (txt:List UInt8) (bud:Int):Nat × Bool × Int :=
 match wholeF g txt bud with
 | (n,none)=>(0,false,n)
 | (_,some (l,r))=>if rowF r txt.length=[] then (0,false,0) else (nextL l (rowF r txt.length),true,0)
theorem whole_err {g:Gr} {txt:List UInt8} {bud n:Int} (h:wholeF g txt bud=(n,none)):n=160∨n=3∨n=2∨n=200:=by
 unfold wholeF at h
 split at h
 ·next n' ha =>
  cases h
  unfold askF at ha
  split at ha
  ·split at ha
   ·cases ha;simp
   ·split at ha
    ·cases ha;simp
    ·cases ha
  ·cases ha;simp
 ·split at h
  ·cases h;simp
  ·split at h
   ·cases h;simp
   ·cases h
theorem whole_ok {g:Gr} {txt:List UInt8} {bud n:Int} {v:List St × Rn} (h:wholeF g txt bud=(n,some v)):n=0 /\ chkN g=0 /\ ¬ 4096<txt.length /\ makeF g=some v.1 /\ 0<=bud /\ goneF (tabF g v.1) txt bud.toNat=.ok v.2:=by
 unfold wholeF at h
 split at h
 ·cases h
 ·next l ha =>
  split at h
  ·cases h
  ·next hb =>
   split at h
   ·cases h
   ·next r hg =>
    cases h
    unfold askF at ha
    split at ha
    ·next hc =>
     split at ha
     ·cases ha
     ·next hl =>
      split at ha
      ·cases ha
      ·next hm=>cases ha;exact ⟨rfl,hc,hl,hm,by omega,hg⟩
    ·cases ha
theorem pres (tmps:Array Value) (w:World) (a M:Nat) (bv:Bool) (n:Int) (h6:tmps.getD 6 undef=.pointer (some ⟨a,0,none⟩)) (h7:tmps.getD 7 undef=.bool bv) (h8:tmps.getD 8 undef=.int .i64 n) (hb:Blk w a 33 (setC M)) :
  (results Tryz.f17 tmps).run Tryz.prog w=.ok (.tuple #[setV M,.bool bv,.int .i64 n]) w:=by
 obtain ⟨s0,s1,s2,s3,sf⟩:=hb.facts4;simp at h6 h7 h8;simp [results,Tryz.results17,asAddr,h6,h7,h8,s0,s1,s2,s3,setV,go_sem]
theorem prefix_any (g:Gr) (p:RP) (bud:Int) (w:World) (h:GrW g p w) (hL:Lim g p.txt bud) :
  Calls Tryz.prog 17 #[.agg #[p.sv,p.pv,.int .i64 p.st,p.fv,p.lv],.string ⟨p.txt.toArray⟩,.int .i64 bud] w fun e w'=>e=.returned (.tuple #[setV (preF g p.txt bud).1,.bool (preF g p.txt bud).2.1,.int .i64 (preF g p.txt bud).2.2]) /\ Below w.heap.size w w':=by
 have HH:=Z2.mk h hL;clear h hL;obtain ⟨tb,htb⟩:∃ tb:ByteArray,(⟨p.txt.toArray⟩:ByteArray)=tb:=⟨_,rfl⟩;have htz:tb.size=p.txt.length:=by rw [<- htb,ba_len]
 have HTB:=Z2.mk htb htz;rw [htb];clear htb;go_enter Tryz.func17,Tryz.ntmps17;go_upto_region 1 with fail
 have hGB:Blk ((w.alloc (.cells #[p.sv,p.pv,.int .i64 p.st,p.fv,p.lv] 27)).alloc (.cells #[.int .u64 0,.int .u64 0,.int .u64 0,.int .u64 0] 33)) w.heap.size 27 #[p.sv,p.pv,.int .i64 p.st,p.fv,p.lv]:=(Blk.new_ rfl _ _).alloc _;have hRB:Blk ((w.alloc (.cells #[p.sv,p.pv,.int .i64 p.st,p.fv,p.lv] 27)).alloc (.cells #[.int .u64 0,.int .u64 0,.int .u64 0,.int .u64 0] 33)) (w.heap.size+1) 33 (setC 0):=Blk.new_ (by simp) _ _;have hb0:Below w.heap.size w ((w.alloc (.cells #[p.sv,p.pv,.int .i64 p.st,p.fv,p.lv] 27)).alloc (.cells #[.int .u64 0,.int .u64 0,.int .u64 0,.int .u64 0] 33)):=((bR _ _).alloc (nR _) _).alloc (by simp) _;generalize ((w.alloc (.cells #[p.sv,p.pv,.int .i64 p.st,p.fv,p.lv] 27)).alloc (.cells #[.int .u64 0,.int .u64 0,.int .u64 0,.int .u64 0] 33))=w1 at hGB hRB hb0 ⊢;obtain ⟨nb,hnb⟩:=eX w.heap.size;rw [hnb] at hGB hRB ⊢;obtain ⟨g0,g1,g2,g3,g4,gf⟩:=gfacts5 hGB;have hwh:=whole_any g p bud w1 (HH.o1.below hb0) HH.o2;rw [HTB.o1] at hwh;have H1:=Z4.mk hRB hb0 hnb hwh;clear hGB hRB hb0 hwh hnb;go_wp2_with fail
 refine H1.o4.mono ?_;rintro e w2 hW;obtain ⟨qa,hqa⟩:=eX (wholeF g p.txt bud);obtain ⟨n,o⟩:=qa;rw [hqa] at hW
 cases o with
 | none =>
  obtain ⟨rfl,hb2⟩:=hW;have hpre:preF g p.txt bud=(0,false,n):=by unfold preF;rw [hqa]
  have hn:=whole_err hqa;have hS:=H1.o1.below hb2 H1.o1.lt;obtain ⟨s0,s1,s2,s3,sf⟩:=hS.facts4;have hsl:=hS.lt;have H2:=Z3.mk hb2 hpre hS;clear hb2 hqa hpre hS
  rcases hn with rfl | rfl | rfl | rfl
  all_goals
   go_wp2_with fail
   refine bodyPost_ret (pres _ _ (nb+1) 0 false _ (by rfl) (by rfl) (by rfl) ((((H2.o3.set_ 0 (.int .u64 0)).set_ 1 (.int .u64 0)).set_ 2 (.int .u64 0)).set_ 3 (.int .u64 0))) rfl ?_;have hnb:=H1.o3;rw [H2.o2];refine ⟨rfl,((((H1.o2.trans (H2.o1.mono H1.o2.size)).setCell ?_ _).setCell ?_ _).setCell ?_ _).setCell ?_ _⟩ <;> (simp only;omega)
 | some v =>
  obtain ⟨l,r⟩:=v;obtain ⟨B,sm,tv,C,w0,ρ,hl,hc,hb2,hnx,rfl,hR⟩:=hW;obtain ⟨rfl,hc0,hlen,hmk,hbud,hgo⟩:=whole_ok hqa;have hb3:Below w1.heap.size w1 w2:=hb2.trans (hR.mem.low.mono hb2.size);have hal:p.txt.length<1048576:=by omega
  obtain ⟨ra,rc,hro,hrr,hrl⟩:=row_look hR.mem p.txt.length hal;have hlook:=hrl w2 rfl;have b11:w2.cell? ⟨C.rb,11,none⟩=some (.map (some C.br)):=hR.mem.box.cell 11;obtain ⟨L,hL⟩:=eX (rowN (rmOf r).nodes p.txt.length);have hLF:rowF r p.txt.length=L:=hL;rw [hL] at hlook;have hS:=H1.o1.below hb3 H1.o1.lt;obtain ⟨s0,s1,s2,s3,sf⟩:=hS.facts4;have hsl:=hS.lt;have hgn:=gnext_any g B sm C (p.withT tv) (tabF g l).left w0 hc ρ (rmOf r) w2 hR.mem p.txt.length hal;rw [hL] at hgn;have hpre:preF g p.txt bud=if L=[] then (0,false,0) else (nextL l L,true,0):=by unfold preF;rw [hqa,<- hLF]
  rw [<- htz] at hlook hgn;have H2:=Z6.mk hb3 hpre hS hgn hnx hl;clear hb3 hpre hS hgn hnx hl hqa hb2 hR hc hro hrr hrl hL hLF htz hc0 hlen hmk hbud hgo hal
  by_cases hL0:L=[]
  ·subst hL0;go_wp2_with fail
   refine bodyPost_ret (pres _ _ (nb+1) 0 false _ (by rfl) (by rfl) (by rfl) ((((H2.o3.set_ 0 (.int .u64 0)).set_ 1 (.int .u64 0)).set_ 2 (.int .u64 0)).set_ 3 (.int .u64 0))) rfl ?_;have hnb:=H1.o3;rw [H2.o2,if_pos trivial];refine ⟨rfl,((((H1.o2.trans (H2.o1.mono H1.o2.size)).setCell ?_ _).setCell ?_ _).setCell ?_ _).setCell ?_ _⟩ <;> (simp only;omega)
  ·have hLn:¬ ((L.length:Int)=0):=by intro h;exact hL0 (List.length_eq_zero_iff.1 (by omega))
   go_wp2_with fail
   refine H2.o4.mono ?_;rintro e w3 ⟨rfl,hb4⟩;have hS3:=H2.o3.below hb4 H2.o3.lt;obtain ⟨t0,t1,t2,t3,tf⟩:=hS3.facts4;have htl:=hS3.lt;have hM:nextAt sm L=nextL l L:=by rw [H2.o6];exact nextAt_same H2.o5 L
   obtain ⟨M,hMd⟩:=eX (nextAt sm L);rw [hMd] at hM ⊢;have H3:=Z3.mk hS3 hb4 hM;clear hS3 hb4 hM hMd;unfold setV;go_wp2_with fail
   refine bodyPost_ret (pres _ _ (nb+1) M true _ (by rfl) (by rfl) (by rfl) ((((H3.o1.set_ 0 (.int .u64 (wd M 0))).set_ 1 (.int .u64 (wd M 1))).set_ 2 (.int .u64 (wd M 2))).set_ 3 (.int .u64 (wd M 3)))) rfl ?_;have hnb:=H1.o3;rw [H2.o2,if_neg hL0,<- H3.o3];refine ⟨rfl,(((((H1.o2.trans (H2.o1.mono H1.o2.size)).trans (H3.o2.mono (Nat.le_trans H1.o2.size H2.o1.size))).setCell ?_ _).setCell ?_ _).setCell ?_ _).setCell ?_ _⟩ <;> (simp only;omega)
end Go.Proofs.YthiochcpmfkgcaaGreatDoor.Gl
namespace Go.Proofs
open Go.Shelf
def Tryz.glKeys_ren:Go.Shelf.Ren:=⟨fun | 7=>26 | 10=>54 | n=>n,fun | 23=>74 | 26=>3 | 3=>57 | 28=>72 | 0=>0 | 27=>71 | 33=>56 | 4=>4 | n=>n,fun | n=>n⟩
theorem Tryz.glKeys:Go.Proofs.SlLaysZI.n7 Tryz.prog Tryz.glKeys_ren:={
 mixed:=by kernel_rfl
 f7:=⟨Tryz.f26.name,by decide,Tryz.func26.trans (congrArg some (by kernel_rfl))⟩
 f10:=⟨Tryz.f54.name,by decide,Tryz.func54.trans (congrArg some (by kernel_rfl))⟩
 t0:=Tryz.underlying0
 a0:=Tryz.isAgg0
 z0:=Tryz.sizeOf0
 v0:=Tryz.zeroValue0
 t4:=Tryz.underlying4
 a4:=Tryz.isAgg4
 z4:=Tryz.sizeOf4
 v4:=Tryz.zeroValue4
 t23:=Tryz.underlying74
 a23:=Tryz.isAgg74
 z23:=Tryz.sizeOf74
 v23:=Tryz.zeroValue74
 t26:=Tryz.underlying3
 a26:=Tryz.isAgg3
 z26:=Tryz.sizeOf3
 v26:=Tryz.zeroValue3
 t27:=Tryz.underlying71
 a27:=Tryz.isAgg71
 z27:=Tryz.sizeOf71
 v27:=Tryz.zeroValue71
 t28:=Tryz.underlying72
 a28:=Tryz.isAgg72
 z28:=Tryz.sizeOf72
 v28:=Tryz.zeroValue72
 t33:=Tryz.underlying56
 a33:=Tryz.isAgg56
 z33:=Tryz.sizeOf56
 v33:=Tryz.zeroValue56 }
def Tryz.glColl_ren:Go.Shelf.Ren:=⟨fun | 8=>25 | 11=>53 | n=>n,fun | 26=>3 | 28=>72 | 24=>57 | 0=>0 | 33=>56 | 4=>4 | n=>n,fun | n=>n⟩
theorem Tryz.glColl:Go.Proofs.SlLaysZI.n8 Tryz.prog Tryz.glColl_ren:={
 mixed:=by kernel_rfl
 f8:=⟨Tryz.f25.name,by decide,Tryz.func25.trans (congrArg some (by kernel_rfl))⟩
 f11:=⟨Tryz.f53.name,by decide,Tryz.func53.trans (congrArg some (by kernel_rfl))⟩
 t0:=Tryz.underlying0
 a0:=Tryz.isAgg0
 z0:=Tryz.sizeOf0
 v0:=Tryz.zeroValue0
 t24:=Tryz.underlying57
 a24:=Tryz.isAgg57
 z24:=Tryz.sizeOf57
 v24:=Tryz.zeroValue57
 t26:=Tryz.underlying3
 a26:=Tryz.isAgg3
 z26:=Tryz.sizeOf3
 v26:=Tryz.zeroValue3
 t28:=Tryz.underlying72
 a28:=Tryz.isAgg72
 z28:=Tryz.sizeOf72
 v28:=Tryz.zeroValue72
 i26:=by kernel_rfl }
def Tryz.sortAlts_ren:Go.Shelf.Ren:=⟨fun | 6=>58 | 15=>76 | 14=>75 | 28=>102 | 29=>103 | 20=>94 | 21=>95 | 22=>96 | 23=>97 | 24=>98 | 25=>99 | 26=>100 | 27=>101 | 46=>127 | 47=>128 | 48=>129 | 49=>130 | 50=>131 | 57=>148 | n=>n,fun | 22=>30 | 24=>59 | 25=>90 | 3=>3 | 39=>155 | 0=>0 | 53=>189 | 55=>31 | 4=>4 | 46=>183 | 45=>182 | 50=>111 | 5=>5 | 9=>9 | 66=>215 | 70=>219 | 76=>237 | 77=>238 | n=>n,fun | n=>n⟩
theorem Tryz.sortAlts:Go.Proofs.SlLaysF0.n6 Tryz.prog Tryz.sortAlts_ren:={
 mixed:=by kernel_rfl
 f6:=⟨Tryz.f58.name,by decide,Tryz.func58.trans (congrArg some (by kernel_rfl))⟩
 f14:=⟨Tryz.f75.name,by decide,Tryz.func75.trans (congrArg some (by kernel_rfl))⟩
 f15:=Tryz.func76.trans (congrArg some (by kernel_rfl))
 f20:=⟨Tryz.f94.name,by decide,Tryz.func94.trans (congrArg some (by kernel_rfl))⟩
 f21:=⟨Tryz.f95.name,by decide,Tryz.func95.trans (congrArg some (by kernel_rfl))⟩
 f22:=⟨Tryz.f96.name,by decide,Tryz.func96.trans (congrArg some (by kernel_rfl))⟩
 f23:=⟨Tryz.f97.name,by decide,Tryz.func97.trans (congrArg some (by kernel_rfl))⟩
 f24:=⟨Tryz.f98.name,by decide,Tryz.func98.trans (congrArg some (by kernel_rfl))⟩
 f25:=⟨Tryz.f99.name,by decide,Tryz.func99.trans (congrArg some (by kernel_rfl))⟩
 f26:=⟨Tryz.f100.name,by decide,Tryz.func100.trans (congrArg some (by kernel_rfl))⟩
 f27:=⟨Tryz.f101.name,by decide,Tryz.func101.trans (congrArg some (by kernel_rfl))⟩
 f28:=Tryz.func102.trans (congrArg some (by kernel_rfl))
 f29:=Tryz.func103.trans (congrArg some (by kernel_rfl))
 f46:=⟨Tryz.f127.name,by decide,Tryz.func127.trans (congrArg some (by kernel_rfl))⟩
 f47:=Tryz.func128.trans (congrArg some (by kernel_rfl))
 f48:=Tryz.func129.trans (congrArg some (by kernel_rfl))
 f49:=⟨Tryz.f130.name,by decide,Tryz.func130.trans (congrArg some (by kernel_rfl))⟩
 f50:=⟨Tryz.f131.name,by decide,Tryz.func131.trans (congrArg some (by kernel_rfl))⟩
 f57:=⟨Tryz.f148.name,by decide,Tryz.func148.trans (congrArg some (by kernel_rfl))⟩
 t0:=Tryz.underlying0
 a0:=Tryz.isAgg0
 z0:=Tryz.sizeOf0
 v0:=Tryz.zeroValue0
 t3:=Tryz.underlying3
 a3:=Tryz.isAgg3
 z3:=Tryz.sizeOf3
 v3:=Tryz.zeroValue3
 t4:=Tryz.underlying4
 a4:=Tryz.isAgg4
 z4:=Tryz.sizeOf4
 v4:=Tryz.zeroValue4
 t5:=Tryz.underlying5
 a5:=Tryz.isAgg5
 z5:=Tryz.sizeOf5
 v5:=Tryz.zeroValue5
 t9:=Tryz.underlying9
 a9:=Tryz.isAgg9
 z9:=Tryz.sizeOf9
 v9:=Tryz.zeroValue9
 t22:=Tryz.underlying30
 a22:=Tryz.isAgg30
 z22:=Tryz.sizeOf30
 v22:=Tryz.zeroValue30
 t25:=Tryz.underlying90
 a25:=Tryz.isAgg90
 z25:=Tryz.sizeOf90
 v25:=Tryz.zeroValue90
 t39:=Tryz.underlying155
 a39:=Tryz.isAgg155
 z39:=Tryz.sizeOf155
 v39:=Tryz.zeroValue155
 t45:=Tryz.underlying182
 a45:=Tryz.isAgg182
 z45:=Tryz.sizeOf182
 v45:=Tryz.zeroValue182
 t46:=Tryz.underlying183
 a46:=Tryz.isAgg183
 z46:=Tryz.sizeOf183
 v46:=Tryz.zeroValue183
 t50:=Tryz.underlying111
 a50:=Tryz.isAgg111
 z50:=Tryz.sizeOf111
 v50:=Tryz.zeroValue111
 t53:=Tryz.underlying189
 a53:=Tryz.isAgg189
 z53:=Tryz.sizeOf189
 v53:=Tryz.zeroValue189
 t55:=Tryz.underlying31
 a55:=Tryz.isAgg31
 z55:=Tryz.sizeOf31
 v55:=Tryz.zeroValue31
 t66:=Tryz.underlying215
 a66:=Tryz.isAgg215
 z66:=Tryz.sizeOf215
 v66:=Tryz.zeroValue215
 t70:=Tryz.underlying219
 a70:=Tryz.isAgg219
 z70:=Tryz.sizeOf219
 v70:=Tryz.zeroValue219
 t76:=Tryz.underlying237
 a76:=Tryz.isAgg237
 z76:=Tryz.sizeOf237
 v76:=Tryz.zeroValue237
 t77:=Tryz.underlying238
 a77:=Tryz.isAgg238
 z77:=Tryz.sizeOf238
 v77:=Tryz.zeroValue238 }
end Go.Proofs
namespace Go.Proofs.YthiochcpmfkgcaaGreatDoor.Gl
open Go Go.RowKit Go.Proofs Go.Maps Go.WideMaps Mx Tb
def maxN (L:List Nat):Nat:=L.foldl max 0
theorem maxN_snoc (L:List Nat) (n:Nat):maxN (L++[n])=max (maxN L) n:=by simp [maxN]
theorem maxN_le {L:List Nat} {n:Nat} (h:n∈L):n<=maxN L:=by
 have:∀ (L:List Nat) (a:Nat),a<=L.foldl max a /\ ∀ n∈L,n<=L.foldl max a:=by
  intro L
  induction L with
  | nil=>intro a;simp
  | cons x t ih =>
   intro a;have:=ih (max a x);refine ⟨Nat.le_trans (Nat.le_max_left a x) this.1,fun n hn=>?_⟩
   rcases List.mem_cons.1 hn with rfl | hn
   ·exact Nat.le_trans (Nat.le_max_right a _) this.1
   ·exact this.2 n hn
 exact (this L 0).2 n h
theorem maxN_mem {L:List Nat} (h:L≠[]):maxN L∈L:=by
 have:∀ (L:List Nat) (a:Nat),L.foldl max a=a∨L.foldl max a∈L:=by
  intro L
  induction L with
  | nil=>intro a;simp
  | cons x t ih =>
   intro a
   rcases ih (max a x) with h | h
   ·show t.foldl max (max a x)=a∨t.foldl max (max a x)∈x::t;rw [h]
    rcases Nat.le_total a x with h2 | h2
    ·right;rw [Nat.max_eq_right h2];simp
    ·left;exact Nat.max_eq_left h2
   ·right;exact List.mem_cons_of_mem _ h
 cases L with
 | nil=>exact absurd rfl h
 | cons x t =>
  rcases this t x with h2 | h2
  ·have:maxN (x::t)=x:=by show t.foldl max (max 0 x)=x;rw [Nat.zero_max];exact h2
   rw [this];simp
  ·have:maxN (x::t)=t.foldl max x:=by show t.foldl max (max 0 x)=_;rw [Nat.zero_max]
   rw [this];exact List.mem_cons_of_mem _ h2
theorem maxN_ext {L K:List Nat} (h:∀ n,n∈L↔n∈K):maxN L=maxN K:=by
 by_cases hL:L=[]
 ·subst hL;have:K=[]:=List.eq_nil_iff_forall_not_mem.2 fun n hn=>by simpa using (h n).2 hn
  rw [this]
 ·have hK:K≠[]:=fun e=>by subst e;have:=(h _).1 (maxN_mem hL);simp at this
  exact Nat.le_antisymm (maxN_le ((h _).1 (maxN_mem hL))) (maxN_le ((h _).2 (maxN_mem hK)))
theorem max_any (L:List Nat) (hL:L≠[]) (hlen:L.length<=4398046511104) (B:Nat) (v:Value) (w:World) (hv:w.ownsRow B 3 1 v L.length (flatK encN L)) :
  Calls Tryz.prog 24 #[v] w fun e w'=>e=.returned (.int .i64 (maxN L:Int)) /\ Below w.heap.size w w':=by
 have hpos:0<L.length:=List.length_pos_iff.2 hL;obtain ⟨g,cap,rfl,_,_,_⟩:=own_some hv hpos;have hcell:∀ (i x:Nat),L[i]?=some x->w.cell? ⟨g,i,none⟩=some (.int .i64 x):=fun i x hx=>by
  have h:=hv.cells (g:=g) rfl (i * 1) _ (flatK_get encN_len L i x 0 _ hx rfl);rw [addr_add_,Nat.zero_add,Nat.mul_one] at h;exact h
 obtain ⟨x0,hx0⟩:∃ x,L[0]?=some x:=⟨_,gE hpos⟩;have c0:=hcell 0 x0 hx0;have hnl:¬ (L.length:Int)<1:=by omega
 have hp0:(0:Int)<L.length:=by omega
 have HH:=Z3.mk hcell hx0 hlen;clear hcell hv hL hx0 hlen;go_enter Tryz.func24,Tryz.ntmps24;go_wp2_with fail
 go_loopg [3,4] (L.length - 1) (fun m v3 v4 wr=>∃ i:Nat,1<=i /\ i<=L.length /\ m=L.length - i /\ v4=.int .i64 i /\ v3=.int .i64 (maxN (L.take i):Int) /\ wr=w)
 case atStart =>
  refine ⟨1,by omega,by omega,rfl,rfl,?_,rfl⟩
  have:L.take 1=[x0]:=by
   cases L with
   | nil=>simp at hpos
   | cons a t=>have:=HH.o2;simp at this;simp [this]
  rw [this];simp [maxN]
 case round =>
  obtain ⟨i,h1,hi,hm,rfl,rfl,rfl⟩:=hrel
  by_cases hlt:i<L.length
  ·obtain ⟨x,hx⟩:∃ x,L[i]?=some x:=⟨_,gE hlt⟩;have k0:=HH.o1 i x hx;have hi0:(0:Int)<=i:=by omega
   have hi1:(i:Int)<L.length:=by omega
   have hil:i<=4398046511104:=by have:=HH.o3;omega
   obtain ⟨M,hM⟩:=eX (maxN (L.take i));rw [hM];have HR:=Z3.mk hm hx hM;clear hm hx hM;go_wp2_with fail
   go_roundg (L.length - (i+1))
   case measure=>have:=HR.o1;omega
   case rel =>
    refine ⟨i+1,by omega,by omega,rfl,rfl,?_,rfl⟩;rw [List.take_add_one,HR.o2];show _=Value.int .i64 ((maxN (L.take i++[x]):Nat):Int);rw [maxN_snoc,HR.o3]
    first | rfl | (congr 1;omega)
  ·obtain rfl:i=L.length:=by omega
   rw [List.take_length];clear hm;go_wp2_with fail
   go_ret;exact ⟨rfl,bR _ _⟩
theorem mem_intKeys {H:Type} {P:Program} {k:TypeId} {R:Value->Option (DataW H × List MemPlace)} {w:World} {b n:Nat} {D:DataW H} (hown:w.ownsMap P k R b n D) (hk:P.underlying k=some (.int .i64)) (x:Int) :
  x∈intKeys D↔has D (.int .i64 x)=true:=by
 obtain ⟨es',rfl,hko⟩:=hown.keysOf;have hk2:∀ p∈es',∃ x,p.1=.int .i64 x:=fun p hp=>by obtain ⟨v,hv⟩:=hko p hp;obtain ⟨x,_,hx,_⟩:=Maps.keyOf_i64 hk hv;exact ⟨x,hx⟩
 rw [has_eq,List.any_eq_true];show x∈List.map _ es'↔_;rw [List.mem_map]
 constructor
 ·rintro ⟨p,hp',rfl⟩;obtain ⟨a,ha⟩:=hk2 p hp';exact ⟨p,hp',by rw [ha];simp [Lit.sameKey,Go.intOf]⟩
 ·rintro ⟨p,hp',hs⟩;obtain ⟨a,ha⟩:=hk2 p hp';rw [ha] at hs;exact ⟨p,hp',by rw [ha];simpa [Lit.sameKey,Go.intOf] using hs⟩
theorem intKeys_len {H:Type} {D:DataW H}:(intKeys D).length<=Maps.size D:=by
 cases D <;> simp [intKeys,Maps.size]
theorem rows_keys {C:RC} {ρ:Nat->Option Role} {N:List Nd} {w:World} (h:RowsW C ρ N w) (hN:∀ x∈N,NdOk x) :
  ∃ (D:DataW Value) (m:Nat),w.ownsMap Tryz.prog 3 asIs C.br m D /\ Maps.size D=m /\ m<=N.length /\ ∀ z:Int,z∈intKeys D↔0<=z /\ z.toNat∈N.map (·.2):=by
 obtain ⟨m,f,vr,⟨D,h1,h2,h3⟩,hm,hf,hr⟩:=h;refine ⟨D,m,h1,h2,hm,fun z=>?_⟩
 rw [mem_intKeys h1 Tryz.underlying3];have hrow:∀ i,rowN N i≠[]↔i∈N.map (·.2):=fun i=>by
  unfold rowN;rw [ne_eq,List.map_eq_nil_iff,List.filter_eq_nil_iff]
  constructor
  ·intro h;apply Classical.byContradiction;intro hn;exact h fun x hx he=>hn (List.mem_map.2 ⟨x,hx,by simpa using he⟩)
  ·intro h hn;obtain ⟨x,hx,rfl⟩:=List.mem_map.1 h;exact hn x hx (by simp)
 constructor
 ·intro hz;have hwf:(Lit.int .i64 z).wf=true:=intKeys_wf h1 Tryz.underlying3 z ((mem_intKeys h1 Tryz.underlying3 z).2 hz);have h4:=(h3 (.int .i64 z) ⟨.int .i64 z,keyOf_int_mk Tryz.underlying3 hwf⟩).1;rw [hz,hf] at h4
  split at h4
  ·next hh=>exact ⟨hh.1,(hrow _).1 hh.2⟩
  ·simp at h4
 ·rintro ⟨h0,hm2⟩
  obtain ⟨x,hx,hxe⟩:=List.mem_map.1 hm2;have hwf:(Lit.int .i64 z).wf=true:=by
   have:=litN x.2 (hN x hx).2;rw [hxe] at this
   rwa [Int.toNat_of_nonneg h0] at this
  have h4:=(h3 (.int .i64 z) ⟨.int .i64 z,keyOf_int_mk Tryz.underlying3 hwf⟩).1;rw [h4,hf,if_pos ⟨h0,(hrow _).2 hm2⟩]
  rfl
theorem keys_any (mb:Option Nat) (w:World):Calls Tryz.prog 26 #[.map mb] w fun e w'=>e=.returned (.func (.func 54) #[] #[.pointer (some ⟨w.heap.size,0,none⟩)]) /\ w'=w.alloc (.cells #[.map mb] 74) :=
 (callsIn_wide (n:=6)).1 (AnyZI.keys_in Tryz.glKeys Fence.wide 6 trivial rfl mb w)
theorem collect_any {C:RC} {ρ:Nat->Option Role} {N:List Nd} {w:World} (h:RowsW C ρ N w) (hN:∀ x∈N,NdOk x) (hl:N.length<=4398046511104) :
  Calls Tryz.prog 25 #[.func (.func 54) #[] #[.pointer (some ⟨w.heap.size,0,none⟩)]] (w.alloc (.cells #[.map (some C.br)] 74)) fun e w' =>
   ∃ (v:Value) (L:List Nat),e=.returned v /\ L.length<=4398046511104 /\ (∀ n,n∈L↔n∈N.map (·.2)) /\ w'.ownsRow w.heap.size 3 1 v L.length (flatK encN L) /\ Below w.heap.size w w':=by
 obtain ⟨D,m,h1,h2,h3,h4⟩:=rows_keys h hN;have hbl:=h1.lt;have hown:(w.alloc (.cells #[.map (some C.br)] 74)).ownsMap Tryz.prog 3 asIs C.br m D:=by
  obtain ⟨es,clock,hb,Ft,hs,hD⟩:=h1;exact ⟨es,clock,(Below.heap_alloc _ _ _ hbl).trans hb,Ft,hs,hD⟩
 have hseq:SeqGives Fence.wide 3 Tryz.prog 54 #[.pointer (some ⟨w.heap.size,0,none⟩)] encZ (fun ss=>ss.Perm (intKeys D)) (Maps.size D) (w.alloc (.cells #[.map (some C.br)] 74)) :=
  AnyZI.keys_gives (ρ:=Tryz.glKeys_ren) { Tryz.glKeys with } Fence.wide _ trivial rfl (by omega) w.heap.size C.br m D _ (by simp) (by simp) hown
 have hc:=AnyZI.collect_in Tryz.glColl Fence.wide 5 trivial trivial rfl (by omega) 54 #[.pointer (some ⟨w.heap.size,0,none⟩)] trivial (enters_of Tryz.func54 (by kernel_rfl) rfl) _ (Maps.size D) (by rw [h2];unfold maxLen;omega) (by rw [h2];omega) _ hseq;refine (callsIn_wide.1 hc).mono ?_;rintro e w' ⟨v,ss,rfl,hp,hrow,hnil,hb⟩;have hss:∀ z∈ss,(0:Int)<=z:=fun z hz=>((h4 z).1 (hp.mem_iff.1 hz)).1;have hlen:ss.length<=4398046511104:=by rw [hp.length_eq];have:=intKeys_len (D:=D);omega
 refine ⟨v,ss.map Int.toNat,rfl,by rw [List.length_map];exact hlen,fun n=>?_,?_,((bR _ _).alloc (nR _) _).trans (hb.mono (by simp))⟩
 ·rw [List.mem_map]
  constructor
  ·rintro ⟨z,hz,rfl⟩;exact ((h4 z).1 (hp.mem_iff.1 hz)).2
  ·intro hn;exact ⟨(n:Int),hp.mem_iff.2 ((h4 n).2 ⟨by omega,by simpa using hn⟩),by simp⟩
 ·have e1:ss.map encZ=flatK encN (ss.map Int.toNat):=by
   clear hrow hp hlen hnil
   induction ss with
   | nil=>rfl
   | cons z t ih =>
    have hz:=hss z (by simp);simp only [List.map_cons,flatK,List.flatMap_cons,encN,List.singleton_append];rw [show ((z.toNat:Nat):Int)=z from Int.toNat_of_nonneg hz,ih (fun y hy=>hss y (by simp [hy]))]
    rfl
  rw [List.length_map,<- e1];exact own_low hrow (by simp)
open Go.Sort
def CollA (A:List Al) (lf:Lit->Bool) (ss:List Al):Prop:=ss.Nodup /\ ∀ a,a∈ss↔a∈A /\ lf (.string (keyA a))=false
theorem CollA.step {A:List Al} {lf:Lit->Bool} {ss:List Al} (h:CollA A lf ss) {a:Al} (ha:a∈A) (hl:lf (.string (keyA a))=true):CollA A (fun z=>lf z&&!z.sameKey (.string (keyA a))) (ss++[a]):=by
 have hnew:a ∉ ss:=fun hx=>by have:=((h.2 a).1 hx).2;rw [hl] at this;cases this
 refine ⟨List.nodup_append.2 ⟨h.1,by simp,fun x hx b hb=>by simp at hb;subst hb;exact fun e=>hnew (e ▸ hx)⟩,fun y=>?_⟩
 by_cases hy:y=a
 ·subst hy;simp [ha,Lit.sameKey]
 ·have hk:keyA y≠keyA a:=fun e=>hy (keyA_inj e);simp [h.2 y,hy,Lit.sameKey,hk]
theorem CollA.perm {A:List Al} {lf:Lit->Bool} {ss:List Al} (h:CollA A lf ss) (hA:A.Nodup) (hl:∀ kl,lf kl=false):ss.Perm A :=
 (List.perm_ext_iff_of_nodup h.1 hA).2 fun a=>by rw [h.2 a,hl];simp
theorem vals_in (F:Fence) (n:Nat) (hF:F.fn 59) (hro:F.round=none) (hn:1<=n) (l Bm b m:Nat) (A:List Al) (hA:A.Nodup) (left:Nat->Int) (va:Al->Value) (D0:DataW Value) (f:Lit->Option Value)
  (hD:∀ l,(∃ v,keyOf Tryz.prog 9 v=some l)->has D0 l=(f l).isSome /\ ∀ z,D0.atKey l (.held z)=.held ((f l).getD z)) (hf:∀ l,f (.string l)=(A.find? fun a=>keyA a==l).map fun a=>alV left (va a) a) (hsz:Maps.size D0=A.length) (hva:∀ a∈A,∃ sa sc,va a=.slice sa a.cuts.length sc) (hkey:∀ a∈A,keyOf Tryz.prog 9 (encStr (keyA a))=some (.string (keyA a)))
  (J Jx:List Al->World->Prop)
  (hY:∀ pre x W,J pre W->pre.length<A.length->YieldAt F (n - 1) Tryz.prog l #[alV left (va x) x] W fun e W' =>
   (e=.returned (.bool true) /\ J (pre++[x]) W' /\ KeepsWalks W W')∨(e=.returned (.bool false) /\ Jx (pre++[x]) W'))
  (W:World) (hJ:AbidesFrom W.heap.size J) (hm:W.cell? ⟨Bm,0,none⟩=some (.map (some b))) (hown:W.ownsMap Tryz.prog 9 asIs b m D0) (h0:J [] W) :
  CallsIn F n Tryz.prog 59 #[.func (.yield l) #[] #[],.pointer (some ⟨Bm,0,none⟩)] W fun e W'=>(∃ v,e=.returned v) /\ ((∃ ss:List Al,ss.Perm A /\ J ss W')∨(∃ pre:List Al,True /\ Jx pre W')):=by
 refine callsIn_of_wp Tryz.func59 rfl hF ?_ hro;simp only [Tryz.ntmps59,List.size_toArray,List.length_cons,List.length_nil,Nat.reduceAdd,Nat.reduceSub,Array.replicate_succ,Array.replicate_zero,List.push_toArray,List.append_toArray,List.nil_append,List.cons_append]
 gi_wp2_with (first
  | (gi_at_range;refine wpListIn_range_own _ rfl _ 78 rfl 9 59 (string_keyed Tryz.underlying9) Tryz.underlying78 _ b m _ rfl hown ?_;intro w0 hrg0 hg0 hs0)
  | gi_in)
 go_frame
 gi_loopw [4] (fun _ wr=>∃ (lf:Lit->Bool) (cnt:Nat) (ss:List Al),wr.ranges Tryz.prog 9 asIs b W.heap.size m D0 lf cnt /\ ss.length+cnt<=A.length /\ CollA A lf ss /\ J ss wr)
  (fun _ wr=>wr.rangeLeft b W.heap.size)
 case atStart =>
  refine ⟨_,_,[],hrg0,by simp [hsz],⟨List.nodup_nil,fun a=>?_⟩,hJ [] W w0 none h0 hg0 (fun r e=>by cases e)⟩;refine ⟨(fun h=>by cases h),fun h=>?_⟩;obtain ⟨ha,hn0⟩:=h;have h1:=(hD (.string (keyA a)) ⟨encStr (keyA a),hkey a ha⟩).1;rw [hn0,hf] at h1
  cases hfa:A.find? fun b=>keyA b==keyA a with
  | none=>have:=List.find?_eq_none.1 hfa a ha;simp at this
  | some b=>rw [hfa] at h1;cases h1
 case round =>
  obtain ⟨lf,cnt,ss,hrg,hcs,hC,hJs⟩:=hrel
  gi_wp2_with (first
   | (gi_at_next;refine wpListIn_next_ranges _ rfl _ rfl 9 (string_keyed Tryz.underlying9) asIs encStr id (fun key kl hk=>by obtain ⟨x,hx,_⟩:=Maps.keyOf_str Tryz.underlying9 hk;exact ⟨x,hx⟩) (fun v _ _=>⟨v,rfl⟩) b W.heap.size m _ _ _ rfl hrg ?_ ?_)
   | gi_in)
  ·intro hc0 hl0
   gi_wp2
   go_end0
   exact ⟨⟨_,rfl⟩,.inl ⟨ss,hC.perm hA hl0,hJs⟩⟩
  ·clear hkey;intro x c kl yd yp w2 cnt2 hkey hlk hv hat hrg2 hlt hg2 hs2 hen;obtain ⟨x',ex,rfl,_⟩:=Maps.keyOf_str Tryz.underlying9 hkey;obtain rfl:x=x':=encStr_inj ex;have hJ2:J ss w2:=hJ ss wr w2 (some W.heap.size) hJs hg2 (fun r e=>by cases e;exact ⟨nR _,hrg.iter_walk⟩)
   obtain ⟨hd1,hd2⟩:=hD (.string x) ⟨_,hkey⟩;rw [has_true_of_atKey hat,hf] at hd1;obtain ⟨a,ha⟩:∃ a,(A.find? fun a=>keyA a==x)=some a:=by
    cases h:A.find? fun a=>keyA a==x with
    | none=>rw [h] at hd1;cases hd1
    | some a=>exact ⟨a,rfl⟩
   have hka:keyA a=x:=by have:=List.find?_some ha;simpa using this
   have haA:a∈A:=List.mem_of_find?_eq_some ha;have hcv:c=alV left (va a) a:=by
    have h1:=hat (.held c);rw [hd2,hf,ha] at h1;simp only [Option.map_some,Option.getD_some] at h1;unfold asIs at hv;simp only [id,Option.some.injEq,Prod.mk.injEq] at hv;rw [<- hv.1] at h1;injection h1 with h1;exact h1.symm
   subst hcv;subst hka;have hC2:=hC.step haA hlk;have hV:=hY ss a;obtain ⟨sa,sc,hsl⟩:=hva a haA;unfold alV at hV hen ⊢;rw [hsl] at hV hen ⊢;have HO:=Z7.mk hJ2 hC2 hV hrg2 hlt hs2 hrg;clear hJ2 hC2 hV hrg2 hlt hrg hC hJs hat hd1 hd2 ha haA hlk hkey hs2
   gi_wp2
   obtain ⟨w3,hw3⟩:=eX (w2.alloc (.cells #[Value.int IntKind.i64 (left a.prod),Value.int IntKind.i64 a.src,Value.int IntKind.i64 a.til,Value.int IntKind.i64 a.prod,Value.slice sa a.cuts.length sc] 59));have hg3:w2.grownBy w3 none:=by rw [<- hw3];exact ⟨rfl,rfl,rfl,by simp,fun k hk _=>Below.heap_alloc _ _ k hk⟩
   have hJ3:=hJ ss w2 w3 none HO.o1 hg3 (fun r e=>by cases e);obtain ⟨fn,tmps,assign,body,hy,hR⟩:=HO.o3 _ hJ3 (by have:=HO.o5;omega);rw [hw3];clear hw3;rw [hy];refine An (fun _=>hn) (hR.mono ?_);have hC2:=HO.o2;rintro e W3 (⟨rfl,hJ3,hk3⟩ | ⟨rfl,hJx3⟩)
   ·gi_wp2
    have hrg3:=HO.o4.of_walks ((KeepsWalks.of_grownBy hg3 (by intro j o e;cases e)).trans hk3)
    go_roundw
    case rel=>exact ⟨_,cnt2,ss++[a],hrg3,by have:=HO.o5;simp;omega,hC2,hJ3⟩
    case measure=>rw [hrg3.left_eq,HO.o7.left_eq];exact HO.o5
   ·gi_wp2
    refine bodyPost_ret (results_none rfl _ _ _) rfl ?_;exact ⟨⟨_,rfl⟩,.inr ⟨ss++[a],trivial,hJx3⟩⟩
open Go.Shelf
attribute [local go_sem] Oper.semAt_some
def encAl (left:Nat->Int) (va:Al->Value) (a:Al):List Value:=[.int .i64 (left a.prod),.int .i64 a.src,.int .i64 a.til,.int .i64 a.prod,va a]
theorem encAl_len (left:Nat->Int) (va:Al->Value) (a:Al):(encAl left va a).length=5:=rfl
theorem vals_stops (F:Fence) (n:Nat) (hF:F.fn 59) (hro:F.round=none) (hn:1<=n) (Bm b m:Nat) (A:List Al) (hA:A.Nodup) (left:Nat->Int) (va:Al->Value) (D0:DataW Value) (f:Lit->Option Value)
  (hD:∀ l,(∃ v,keyOf Tryz.prog 9 v=some l)->has D0 l=(f l).isSome /\ ∀ z,D0.atKey l (.held z)=.held ((f l).getD z)) (hf:∀ l,f (.string l)=(A.find? fun a=>keyA a==l).map fun a=>alV left (va a) a) (hsz:Maps.size D0=A.length) (hva:∀ a∈A,∃ sa sc,va a=.slice sa a.cuts.length sc) (hkey:∀ a∈A,keyOf Tryz.prog 9 (encStr (keyA a))=some (.string (keyA a)))
  (w:World) (hBm:Bm<w.heap.size) (hm:w.cell? ⟨Bm,0,none⟩=some (.map (some b))) (hown:w.ownsMap Tryz.prog 9 asIs b m D0) :
  SeqStopsK F n Tryz.prog 59 #[.pointer (some ⟨Bm,0,none⟩)] (fun a=>#[alV left (va a) a]) KeepsWalks (fun ss=>ss.Perm A) (fun _=>True) A.length w:=fun l J Jx W hW hJ _ hY h0=>by
 have hown':W.ownsMap Tryz.prog 9 asIs b m D0:=by
  have hbl:=hown.lt;obtain ⟨es,clock,hb,Ft,hs,hDD⟩:=hown;exact ⟨es,clock,(hW.block b hbl).trans hb,Ft,hs,hDD⟩
 exact vals_in F n hF hro hn l Bm b m A hA left va D0 f hD hf hsz hva hkey J Jx hY W hJ ((hW.cell (p:=⟨Bm,0,none⟩) hBm).trans hm) hown' h0
theorem box_ne {W:World} {n0 b k:Nat} {v u:Value} {xs:List Value} (hr:W.ownsRow n0 59 5 v k xs) (hb:Blk W b 30 #[u]):some b≠v.ownBlock:=fun e=>by
 rcases ownsRow_ne_a hr hb (fun cur e=>by cases e) with h | h
 ·rw [h] at e;cases e
 ·exact h e.symm
def apI (n0 Bs:Nat) (w:World) (left:Nat->Int) (va:Al->Value) (ss:List Al) (W:World):Prop :=
 ∃ v,Blk W Bs 30 #[v] /\ W.ownsRow n0 59 5 v ss.length (flatK (encAl left va) ss) /\ (v=.slice none 0 0↔ss=[]) /\ Below n0 w W
theorem appendAlts_in (F:Fence) (n:Nat) (hFf:F.fn 74) (hro:F.round=none) (hn:2<=n) (g:Nat) (lb:Array Value) (hFg:F.fn g) (eg:∀ args w,(callFunc g args).run Tryz.prog w=.ok (.enter g args) w)
    (left:Nat->Int) (va:Al->Value) (hva:∀ a,∃ sa sn sc,va a=.slice sa sn sc) (S Sp:List Al->Prop) (N:Nat) (hN:N<=2199023255552) (w:World) (hseq:SeqStopsK F (n - 1) Tryz.prog g lb (fun a=>#[alV left (va a) a]) KeepsWalks S Sp N w) :
    CallsIn F n Tryz.prog 74 #[.slice none 0 0,.func (.func g) #[] lb] w fun e w'=>∃ (v:Value) (ss:List Al),e=.returned v /\ S ss /\ w'.ownsRow w.heap.size 59 5 v ss.length (flatK (encAl left va) ss) /\ Below w.heap.size w w':=by
  have h1:1<=n:=by omega
  refine callsIn_of_wp_marks Tryz.func74 rfl hFf ?_ hro;simp only [Tryz.ntmps74,List.size_toArray,List.length_cons,List.length_nil,Nat.reduceAdd,Nat.reduceSub,Array.replicate_succ,Array.replicate_zero,List.push_toArray,List.append_toArray,List.nil_append,List.cons_append]
  gi_wp2
  obtain ⟨W0,hW0⟩:=eX (w.alloc (.cells #[.slice none 0 0] 30));have hs0:W0.heap.size=w.heap.size+1:=by rw [<- hW0];simp
  have hv0:Blk W0 w.heap.size 30 #[.slice none 0 0]:=by rw [<- hW0];exact Blk.new_ rfl _ _
  have hb0:Below w.heap.size w W0:=by rw [<- hW0];exact (bR _ w).alloc (nR _) _
  rw [hW0];clear hW0;obtain ⟨n0,hn0⟩:=eX w.heap.size;rw [hn0] at hs0 hv0 hb0 ⊢;refine wpIn_rangeFunc_ownH hro h1 (gf:=g) (lb:=lb) rfl hFg eg hseq KeepsWalks.trans (fun W l o o' _ ho h1 h2=>KeepsWalks.putObj o' ho h2) (by rw [hn0];exact hb0) (fun _=>rfl)
    (fun ss W=>apI n0 n0 w left va ss W)
    (fun _ _ _=>False)
    ?own (fun _ _ _ _ _ hs _ _=>hs) ?start
    (fun x a' W=>∃ q,n0<q /\ Blk W q 59 (encAl left va x).toArray /\ a'={ tmps:=#[.slice none 0 0,.func (.func g) #[] lb,.pointer (some ⟨n0,0,none⟩),undef,.slice none 0 0,.pointer (some ⟨q,0,none⟩),.func (.func g) #[] lb,alV left (va x) x,undef,undef,undef,undef,undef],defers:=[] })
    ?ownx ?assign ?body ?done ?stop
  case own =>
    rintro ss W W' row ⟨v,hb,hr,hnil,hbl⟩ hg hrow;refine ⟨v,hb.grown hg (fun e=>?_),hr.kept hg ?_,hnil,hbl.grown hg (by have:=hbl.size;omega) (fun k e=>?_)⟩
    · have:=(hrow _ e.symm).1;omega
    · cases hvo:v.ownBlock with
      | none=>exact .inl rfl
      | some j =>
        refine .inr fun e=>?_;obtain ⟨_,o,ho,hc⟩:=hrow j e.symm
        rcases ownsRow_ne_a hr ho (fun cur e=>by rw [e] at hc;cases hc) with h | h
        · rw [h] at hvo;cases hvo
        · exact h hvo
    · have:=(hrow k e).1;omega
  case start=>exact ⟨_,hv0,⟨rfl,.inl ⟨rfl,rfl⟩⟩,by simp,hb0⟩
  case ownx =>
    rintro x a' u W W' row ⟨q,h1,h2,h3⟩ hg hrow;refine ⟨q,h1,h2.grown hg (fun e=>?_),h3⟩;obtain ⟨_,o,ho,hc⟩:=hrow q e.symm;rw [h2] at ho
    cases ho
    cases hc
  case assign =>
    rintro l pre x W K hI hK;obtain ⟨sa,sn,sc,hsl⟩:=hva x;unfold alV at hK ⊢;rw [hsl] at hK ⊢;have HK:=Z2.mk hK hI;clear hK hI
    gi_wp2
    obtain ⟨v,hb,hr,hnil,hbl⟩:=HK.o2;have hblt:=hb.lt;refine HK.o1 _ _ ((KeepsOthers.alloc _ _).from _) (KeepsWalks.alloc _ _) ⟨v,hb.alloc _,hr.alloc _,hnil,hbl.alloc (by have:=hbl.size;omega) _⟩ ⟨W.heap.size,hblt,?_,rfl⟩;unfold encAl;rw [hsl];exact Blk.new _ _ _
  case body =>
    rintro l pre x a' W hl ⟨rr,hrr⟩ ⟨v,hb,hr,hnil,hbl⟩ ⟨q,hq,hbq,rfl⟩ hlt;obtain ⟨sa,sn,sc,hsl⟩:=hva x;have HB:=Z4.mk hl hrr hnil hbl;clear hl hrr hnil hbl;unfold encAl at hbq;unfold alV;rw [hsl] at hbq ⊢;obtain ⟨q0,q1,q2,q3,q4,qf⟩:=gfacts5 hbq;obtain ⟨b0,bf⟩:=hb.facts1;obtain ⟨i0,hi,hz0,hz1,hz2⟩:=info_parts (show (Tryz.prog.info? 59).map (fun i=>(i.zero,i.size,i.bytes))=some (some (.agg #[.int .i64 0,.int .i64 0,.int .i64 0,.int .i64 0,.slice none 0 0]),5,56) by kernel_rfl)
    have hnews:∀ (j:Nat) (u:Value),([.int .i64 (left x.prod),.int .i64 x.src,.int .i64 x.til,.int .i64 x.prod,.slice sa sn sc]:List Value)[j]?=some u ->
        (W.alloc (.cells #[.int .i64 (left x.prod),.int .i64 x.src,.int .i64 x.til,.int .i64 x.prod,.slice sa sn sc] 59)).cell? ((⟨W.heap.size,0,none⟩:Addr).add j)=some u:=fun j u h=>by
      rw [addr_add_,Nat.zero_add,(Blk.new W _ _).cell j]
      simpa using h
    have hone:∀ u∈([.int .i64 (left x.prod),.int .i64 x.src,.int .i64 x.til,.int .i64 x.prod,.slice sa sn sc]:List Value),u.oneCell'=true:=fun u hu=>by
      simp only [List.mem_cons,List.not_mem_nil,or_false] at hu
      rcases hu with rfl | rfl | rfl | rfl | rfl <;> rfl
    have hns:=HB.o4.size;rw [hn0] at hns;have hblt:=hb.lt;have hlw:l<W.heap.size:=(Array.getElem?_eq_some_iff.1 HB.o2).1;have HO:=Z2.mk hb hr;clear hbq
    gi_wp2_with (first
      | (gi_at_builtin;refine wpListIn_append_own _ rfl _ _ 30 rfl n0 59 i0 _ 5 56 Tryz.underlying30 hi hz0 hz1 hz2 rfl (by decide) v pre.length _ rfl (hr.alloc _) ⟨W.heap.size,0,none⟩ 1 1 _ rfl rfl hnews hone (by unfold maxLen;omega) (by omega) (by simp;omega) ?_;intro v' w3 hown' hg3 hnil3
         have hb3:Blk w3 n0 30 #[v]:=(hb.alloc _).grown hg3 (box_ne hr hb);obtain ⟨ga,gc,rfl⟩:=own_shape hown';obtain ⟨c3,f3⟩:=hb3.facts1
         go_frame)
      | gi_round_op_a)
    have hg3':(W.alloc (.cells #[.int .i64 (left x.prod),.int .i64 x.src,.int .i64 x.til,.int .i64 x.prod,.slice sa sn sc] 59)).grownBy w3 v.ownBlock:=hg3;have hcells:∀ (j:Nat) (o:Obj),v.ownBlock=some j->(W.alloc (.cells #[.int .i64 (left x.prod),.int .i64 x.src,.int .i64 x.til,.int .i64 x.prod,.slice sa sn sc] 59)).heap[j]?=some o->o.isCells=true:=fun j o hj ho=>by
      cases ho2:o.isCells with
      | true=>rfl
      | false =>
        rcases ownsRow_ne_a (hr.alloc _) ho (fun cur e=>by rw [e] at ho2;cases ho2) with h | h
        · rw [h] at hj;cases hj
        · exact absurd hj h
    have hko:KeepsOthers W w3:=(KeepsOthers.alloc W _).trans (KeepsOthers.of_grownBy hg3' hcells);have hkw:KeepsOthers W (w3.setCell ⟨n0,0,none⟩ (.slice ga (pre.length+1) gc)):=hko.trans (KeepsOthers.setCell _ _ _);have hb4:Below n0 w w3:=(HB.o4.alloc hns _).grown hg3' (by simp;omega) (fun k e=>(hr.lt k e).1);refine ⟨hkw.from _,hkw.walks,.slice ga (pre.length+1) gc,?_,?_,?_,hb4.setCell (p:=⟨n0,0,none⟩) (by simp) _⟩
    · exact hb3.set_ 0 _
    · have e1:flatK (encAl left va) (pre++[x])=flatK (encAl left va) pre++[.int .i64 (left x.prod),.int .i64 x.src,.int .i64 x.til,.int .i64 x.prod,.slice sa sn sc]:=by
        unfold Mx.flatK;rw [List.flatMap_append];simp [encAl,hsl]
      rw [e1,List.length_append];exact hown'.kept (grownBy_setCell0_a _ _ _) (ownsRow_ne_a hown' hb3 (fun cur e=>by cases e))
    · simp at hnil3 ⊢
      try exact hnil3
  case done =>
    rintro D ss W hD hS ⟨v,hb,hr,hnil,hbl⟩ hK;have hwD:w.heap.size<=D:=by omega
    obtain ⟨b0,bf⟩:=hb.facts1;have HD:=Z3.mk hb hr hbl;clear hb hr hbl
    gi_wp2
    refine ⟨by simp,.inl ⟨_,_,rfl,run_takeDeferred hK,?_⟩⟩;refine ⟨_,results_tmp rfl _ _ _,v,ss,rfl,hS,?_,?_⟩
    · rw [hn0]
      exact HD.o2.kept (grownBy_putObj_a _ _ _) (ownsRow_ne_a HD.o2 hK (fun cur e=>by cases e))
    · rw [hn0]
      exact HD.o3.grown (grownBy_putObj_a W D (.deferred none)) (by have:=HD.o3.size;omega) (fun k e=>by cases e;omega)
  case stop =>
    rintro D c pre W _ _ h _;exact h.elim
end Go.Proofs.YthiochcpmfkgcaaGreatDoor.Gl
namespace Go.Proofs.YthiochcpmfkgcaaGreatDoor.Gl
open Go Go.RowKit Go.Proofs Go.Maps Go.WideMaps Mx Tb
def cmpI (a b:Int):Int:=if a<b then -1 else if b<a then 1 else 0
def cmpLs:List Nat->List Nat->Int
 | [],[]=>0
 | [],_::_=>-1
 | _::_,[]=>1
 | a::s,b::t=>if cmpI a b=0 then cmpLs s t else cmpI a b
def orI:List Int->Int
 | []=>0
 | a::l=>if a=0 then orI l else a
theorem nan_any (a:Int) (w:World):Calls Tryz.prog 60 #[.int .i64 a] w fun e w'=>e=.returned (.bool false) /\ w'=w:=by
 go_enter Tryz.func60,Tryz.ntmps60
 go_wp2_with fail
 go_ret;exact ⟨by simp,rfl⟩
theorem compare_any (a b:Int) (w:World):Calls Tryz.prog 32 #[.int .i64 a,.int .i64 b] w fun e w'=>e=.returned (.int .i64 (cmpI a b)) /\ w'=w:=by
 go_enter Tryz.func32,Tryz.ntmps32
 go_wp2_with fail
 refine (nan_any a _).mono ?_;rintro e w' ⟨rfl,rfl⟩;go_wp2_with fail
 refine (nan_any b _).mono ?_;rintro e w' ⟨rfl,rfl⟩
 by_cases h1:a<b
 ·have HC:=Hd (show cmpI a b=-1 by unfold cmpI;rw [if_pos h1]);go_wp2_with fail
  go_ret;exact ⟨by rw [HC.out];rfl,rfl⟩
 ·by_cases h2:b<a
  ·have HC:=Hd (show cmpI a b=1 by unfold cmpI;rw [if_neg h1,if_pos h2]);go_wp2_with fail
   go_ret;exact ⟨by rw [HC.out];rfl,rfl⟩
  ·have HC:=Hd (show cmpI a b=0 by unfold cmpI;rw [if_neg h1,if_neg h2]);go_wp2_with fail
   go_ret;exact ⟨by rw [HC.out];rfl,rfl⟩
theorem or_drop (l:List Int) (i:Nat) (x:Int) (h:l[i]?=some x):orI (l.drop i)=if x=0 then orI (l.drop (i+1)) else x:=by
 have hi:=(gS.1 h);obtain ⟨hlt,rfl⟩:=hi;rw [List.drop_eq_getElem_cons hlt]
 rfl
theorem or_any (l:List Int) (hl:l.length<=1000) (g:Nat) (w:World) (hb:Blk w g 3 (l.map (Value.int .i64)).toArray) :
  Calls Tryz.prog 31 #[.slice (some ⟨g,0,none⟩) l.length l.length] w fun e w'=>e=.returned (.int .i64 (orI l)) /\ w'=w:=by
 have hcell:∀ (i:Nat) (x:Int),l[i]?=some x->w.cell? ⟨g,i,none⟩=some (.int .i64 x):=fun i x hx=>by
  rw [hb.cell];simp [hx]
 have HH:=Z2.mk hcell hl;clear hcell hb hl;go_enter Tryz.func31,Tryz.ntmps31;go_wp2_with fail
 go_loopg [8] l.length (fun m v8 wr=>∃ i:Nat,i<=l.length /\ m=l.length - i /\ v8=.int .i64 i /\ wr=w /\ orI l=orI (l.drop i))
 case atStart=>exact ⟨0,by omega,rfl,rfl,rfl,rfl⟩
 case round =>
  obtain ⟨i,hi,hm,rfl,rfl,ho⟩:=hrel
  by_cases hlt:i<l.length
  ·obtain ⟨x,hx⟩:∃ x,l[i]?=some x:=⟨_,gE hlt⟩;have k0:=HH.o1 i x hx;rw [or_drop l i x hx] at ho;have hi0:(0:Int)<=i:=by omega
   have hi1:(i:Int)<l.length:=by omega
   have hil:i<=1000:=by have:=HH.o2;omega
   have HR:=Z2.mk hm ho;clear hm ho hx
   by_cases hx0:x=0
   ·subst hx0;go_wp2_with fail
    go_roundg (l.length - (i+1))
    case measure=>have:=HR.o1;omega
    case rel=>exact ⟨i+1,by omega,rfl,rfl,rfl,by have:=HR.o2;simpa using this⟩
   ·go_wp2_with fail
    go_ret;exact ⟨by rw [HR.o2,if_neg hx0];rfl,rfl⟩
  ·obtain rfl:i=l.length:=by omega
   rw [List.drop_length] at ho;have HR:=Hd ho;clear hm ho;go_wp2_with fail
   go_ret;exact ⟨by rw [HR.out];rfl,rfl⟩
theorem cmpLs_drop (s t:List Nat) (i a b:Nat) (hs:s[i]?=some a) (ht:t[i]?=some b):cmpLs (s.drop i) (t.drop i)=if cmpI a b=0 then cmpLs (s.drop (i+1)) (t.drop (i+1)) else cmpI a b:=by
 obtain ⟨h1,rfl⟩:=gS.1 hs;obtain ⟨h2,rfl⟩:=gS.1 ht;rw [List.drop_eq_getElem_cons h1,List.drop_eq_getElem_cons h2]
 rfl
theorem read_cells {D:Nat->Prop} {w:World} {v:Value} {L:List Nat} (h:SliceK D encN 1 w v L):∃ a c,v=.slice a L.length c /\ (L≠[]->∃ g o,a=some ⟨g,o,none⟩ /\ ∀ i x:Nat,L[i]?=some x->w.cell? ⟨g,o+i,none⟩=some (.int .i64 x)):=by
 obtain ⟨a,c,rfl,_,_,hk⟩:=h;refine ⟨a,c,rfl,fun hne=>?_⟩;obtain ⟨g,o,rfl,_,hr⟩:=hk hne;refine ⟨g,o,rfl,fun i x hx=>?_⟩;have:=hr.cells i x hx 0 _ rfl;rw [Nat.mul_one] at this;exact this
theorem scompare_any (D D2:Nat->Prop) (s t:List Nat) (u v:Value) (w:World) (hs:SliceK D encN 1 w u s) (ht:SliceK D2 encN 1 w v t) (h1:s.length<=4398046511104) (h2:t.length<=4398046511104) :
  Calls Tryz.prog 33 #[u,v] w fun e w'=>e=.returned (.int .i64 (cmpLs s t)) /\ w'=w:=by
 obtain ⟨sa,sc,rfl,hsr⟩:=read_cells hs;obtain ⟨ta,tc,rfl,htr⟩:=read_cells ht;have HH:=Z4.mk hsr htr h1 h2;clear hsr htr h1 h2 hs ht;go_enter Tryz.func33,Tryz.ntmps33;go_wp2_with fail
 go_loopg [11] s.length (fun m v11 wr=>∃ i:Nat,i<=s.length /\ i<=t.length /\ m=s.length - i /\ v11=.int .i64 i /\ wr=w /\ cmpLs s t=cmpLs (s.drop i) (t.drop i))
 case atStart=>exact ⟨0,by omega,by omega,rfl,rfl,rfl,rfl⟩
 case round =>
  obtain ⟨i,hi,hi2,hm,rfl,rfl,ho⟩:=hrel
  by_cases hlt:i<s.length
  ·obtain ⟨x,hx⟩:∃ x,s[i]?=some x:=⟨_,gE hlt⟩;obtain ⟨sg,so,rfl,hsr⟩:=HH.o1 (by rintro h;rw [h] at hlt;simp at hlt);have k0:=hsr i x hx;have hi0:(0:Int)<=i:=by omega
   have hi1:(i:Int)<s.length:=by omega
   have hil:i<=4398046511104:=by have:=HH.o3;omega
   by_cases hlt2:i<t.length
   ·obtain ⟨y,hy⟩:∃ y,t[i]?=some y:=⟨_,gE hlt2⟩;obtain ⟨tg,tO,rfl,htr⟩:=HH.o2 (by rintro h;rw [h] at hlt2;simp at hlt2);have k1:=htr i y hy;have hi3:(i:Int)<t.length:=by omega
    have hi4:¬ (t.length:Int)<=i:=by omega
    rw [cmpLs_drop s t i x y hx hy] at ho;have HR:=Z3.mk hm ho hsr;clear hm ho hsr htr hx hy;go_wp2_with fail
    refine (compare_any (x:Int) (y:Int) _).mono ?_;rintro e w' ⟨rfl,rfl⟩;obtain ⟨c,hc⟩:=eX (cmpI (x:Int) (y:Int));have HC:=Hd hc;rw [hc];clear hc
    by_cases hc0:c=0
    ·subst hc0;go_wp2_with fail
     go_roundg (s.length - (i+1))
     case measure=>have:=HR.o1;omega
     case rel=>exact ⟨i+1,by omega,by omega,rfl,rfl,rfl,by have:=HR.o2;rw [if_pos HC.out] at this;exact this⟩
    ·go_wp2_with fail
     go_ret;exact ⟨by rw [HR.o2,HC.out,if_neg hc0];rfl,rfl⟩
   ·obtain rfl:i=t.length:=by omega
    have hi4:(t.length:Int)<=t.length:=by omega
    have he:cmpLs (s.drop t.length) (t.drop t.length)=1:=by
     rw [List.drop_length,List.drop_eq_getElem_cons hlt];rfl
    rw [he] at ho;have HR:=Z2.mk ho hsr;clear hm ho hsr hx he;go_wp2_with fail
    go_ret;exact ⟨by rw [HR.o1];rfl,rfl⟩
  ·obtain rfl:i=s.length:=by omega
   have hll:(decide ((s.length:Int)<t.length))=decide (s.length<t.length):=by simp
   have HR:=Hd ho;clear hm ho
   by_cases hlt2:s.length<t.length
   ·have hi4:(s.length:Int)<t.length:=by omega
    have he:cmpLs (s.drop s.length) (t.drop s.length)=-1:=by
     rw [List.drop_length,List.drop_eq_getElem_cons hlt2];rfl
    have HE:=Hd he;clear he hll;go_wp2_with fail
    go_ret;exact ⟨by rw [HR.out,HE.out];rfl,rfl⟩
   ·have hi4:¬ (s.length:Int)<t.length:=by omega
    have he:cmpLs (s.drop s.length) (t.drop s.length)=0:=by
     rw [List.drop_length,List.drop_eq_nil_of_le (by omega)];rfl
    have HE:=Hd he;clear he hll;go_wp2_with fail
    go_ret;exact ⟨by rw [HR.out,HE.out];rfl,rfl⟩
def leR (nb:Nat) (a0 a1 a2 a3 b0 b1 b2 b3 c4:Int) (sa ta:Option Addr) (sn tn sc tc B0:Nat) (j:Nat) (v:Value) (W:World):Prop :=
 match j with
 | 0=>v=.pointer (some ⟨nb,0,none⟩)
 | 1=>v=.int .i64 a0
 | 2=>v=.pointer (some ⟨nb+1,0,none⟩)
 | 3=>v=.int .i64 b0
 | 4=>v=.int .i64 (cmpI a0 b0)
 | 5=>v=.pointer (some ⟨nb,1,none⟩)
 | 6=>v=.int .i64 a1
 | 7=>v=.pointer (some ⟨nb+1,1,none⟩)
 | 8=>v=.int .i64 b1
 | 9=>v=.int .i64 (cmpI a1 b1)
 | 10=>v=.pointer (some ⟨nb,2,none⟩)
 | 11=>v=.int .i64 a2
 | 12=>v=.pointer (some ⟨nb+1,2,none⟩)
 | 13=>v=.int .i64 b2
 | 14=>v=.int .i64 (cmpI a2 b2)
 | 15=>v=.pointer (some ⟨nb,3,none⟩)
 | 16=>v=.int .i64 a3
 | 17=>v=.pointer (some ⟨nb+1,3,none⟩)
 | 18=>v=.int .i64 b3
 | 19=>v=.int .i64 (cmpI a3 b3)
 | 20=>v=.pointer (some ⟨nb,4,none⟩)
 | 21=>v=.slice sa sn sc
 | 22=>v=.pointer (some ⟨nb+1,4,none⟩)
 | 23=>v=.slice ta tn tc
 | 24=>v=.int .i64 c4
 | 25=>∃ q,v=.slice (some ⟨q,0,none⟩) 5 5 /\ Blk W q 3 #[.int .i64 (cmpI a0 b0),.int .i64 (cmpI a1 b1),.int .i64 (cmpI a2 b2),.int .i64 (cmpI a3 b3),.int .i64 c4] /\ B0<=q
 | 26=>v=.int .i64 (orI [cmpI a0 b0,cmpI a1 b1,cmpI a2 b2,cmpI a3 b3,c4])
 | _=>True
theorem leR_low {nb:Nat} {a0 a1 a2 a3 b0 b1 b2 b3 c4:Int} {sa ta:Option Addr} {sn tn sc tc B0:Nat} (j:Nat) (v:Value) {W W':World} (h:leR nb a0 a1 a2 a3 b0 b1 b2 b3 c4 sa ta sn tn sc tc B0 j v W) (hb:Below W.heap.size W W'):leR nb a0 a1 a2 a3 b0 b1 b2 b3 c4 sa ta sn tn sc tc B0 j v W':=by
 unfold leR at h ⊢
 split at h <;> first | exact h | skip
 obtain ⟨q,e,h1,h2⟩:=h;exact ⟨q,e,h1.below hb h1.lt,h2⟩
theorem or5_any (c0 c1 c2 c3 c4:Int) (g:Nat) (w:World) (hb:Blk w g 3 #[.int .i64 c0,.int .i64 c1,.int .i64 c2,.int .i64 c3,.int .i64 c4]) :
  Calls Tryz.prog 31 #[.slice (some ⟨g,0,none⟩) 5 5] w fun e w'=>e=.returned (.int .i64 (orI [c0,c1,c2,c3,c4])) /\ w'=w :=
 or_any [c0,c1,c2,c3,c4] (by simp) g w (by simpa using hb)
def cfAl (left:Nat->Int) (ct:Al->List Nat) (x y:Al):Int:=orI [cmpI (left x.prod) (left y.prod),cmpI x.src y.src,cmpI x.til y.til,cmpI x.prod y.prod,cmpLs (ct x) (ct y)]
theorem less_any (left:Nat->Int) (va:Al->Value) (ct:Al->List Nat) (D:Nat->Prop) (w:World) (hm:∀ a,SliceK D encN 1 w (va a) (ct a) /\ (ct a).length<=4398046511104) (x y:Al) :
  Calls Tryz.prog 30 #[alV left (va x) x,alV left (va y) y] w fun e w'=>e=.returned (.int .i64 (cfAl left ct x y)) /\ Grew w w':=by
 obtain ⟨sa,sc,hx,_⟩:=read_cells (hm x).1;obtain ⟨ta,tc,hy,_⟩:=read_cells (hm y).1;have hcs:∀ W,Grew w W->Calls Tryz.prog 33 #[.slice sa (ct x).length sc,.slice ta (ct y).length tc] W fun e w'=>e=.returned (.int .i64 (cmpLs (ct x) (ct y))) /\ w'=W:=fun W hW=>by
  have h1:=(hm x).1.all hW.below;have h2:=(hm y).1.all hW.below;rw [hx] at h1;rw [hy] at h2;exact scompare_any D D (ct x) (ct y) _ _ W h1 h2 (hm x).2 (hm y).2
 unfold cfAl alV;rw [hx,hy];have HS0:=Hd hcs;clear hcs hx hy hm;obtain ⟨sn,hsn⟩:=eX ((ct x).length);obtain ⟨tn,htn⟩:=eX ((ct y).length);obtain ⟨c4,hc4⟩:=eX (cmpLs (ct x) (ct y));rw [hsn,htn,hc4] at HS0;rw [hsn,htn,hc4];clear hsn htn hc4;obtain ⟨a0,ha0⟩:=eX (left x.prod);obtain ⟨a1,ha1⟩:∃ a:Int,(x.src:Int)=a:=⟨_,rfl⟩;obtain ⟨a2,ha2⟩:∃ a:Int,(x.til:Int)=a:=⟨_,rfl⟩;obtain ⟨a3,ha3⟩:∃ a:Int,(x.prod:Int)=a:=⟨_,rfl⟩;obtain ⟨b0,hb0⟩:=eX (left y.prod);obtain ⟨b1,hb1⟩:∃ a:Int,(y.src:Int)=a:=⟨_,rfl⟩;obtain ⟨b2,hb2⟩:∃ a:Int,(y.til:Int)=a:=⟨_,rfl⟩;obtain ⟨b3,hb3⟩:∃ a:Int,(y.prod:Int)=a:=⟨_,rfl⟩;rw [ha0,ha1,ha2,ha3,hb0,hb1,hb2,hb3];clear ha0 ha1 ha2 ha3 hb0 hb1 hb2 hb3;go_enter Tryz.func30,Tryz.ntmps30;go_upto_region 1 with fail
 have hX:Blk ((w.alloc (.cells #[.int .i64 a0,.int .i64 a1,.int .i64 a2,.int .i64 a3,.slice sa sn sc] 59)).alloc (.cells #[.int .i64 b0,.int .i64 b1,.int .i64 b2,.int .i64 b3,.slice ta tn tc] 59)) w.heap.size 59 #[.int .i64 a0,.int .i64 a1,.int .i64 a2,.int .i64 a3,.slice sa sn sc]:=(Blk.new_ rfl _ _).alloc _;have hY:Blk ((w.alloc (.cells #[.int .i64 a0,.int .i64 a1,.int .i64 a2,.int .i64 a3,.slice sa sn sc] 59)).alloc (.cells #[.int .i64 b0,.int .i64 b1,.int .i64 b2,.int .i64 b3,.slice ta tn tc] 59)) (w.heap.size+1) 59 #[.int .i64 b0,.int .i64 b1,.int .i64 b2,.int .i64 b3,.slice ta tn tc]:=Blk.new_ (by simp) _ _
 have hg0:Grew w ((w.alloc (.cells #[.int .i64 a0,.int .i64 a1,.int .i64 a2,.int .i64 a3,.slice sa sn sc] 59)).alloc (.cells #[.int .i64 b0,.int .i64 b1,.int .i64 b2,.int .i64 b3,.slice ta tn tc] 59)):=((Grew.refl _).alloc _).alloc _;generalize ((w.alloc (.cells #[.int .i64 a0,.int .i64 a1,.int .i64 a2,.int .i64 a3,.slice sa sn sc] 59)).alloc (.cells #[.int .i64 b0,.int .i64 b1,.int .i64 b2,.int .i64 b3,.slice ta tn tc] 59))=w1 at hX hY hg0 ⊢;obtain ⟨nb,hnb⟩:=eX w.heap.size;rw [hnb] at hX hY ⊢;have HC:=Hd (show ∀ W,Grew w1.drew W->W.cell? ⟨nb,0,none⟩=some (.int .i64 a0) /\ W.cell? ⟨nb,1,none⟩=some (.int .i64 a1) /\ W.cell? ⟨nb,2,none⟩=some (.int .i64 a2) /\ W.cell? ⟨nb,3,none⟩=some (.int .i64 a3) /\ W.cell? ⟨nb,4,none⟩=some (.slice sa sn sc) /\ W.cell? ⟨nb+1,0,none⟩=some (.int .i64 b0) /\ W.cell? ⟨nb+1,1,none⟩=some (.int .i64 b1) /\ W.cell? ⟨nb+1,2,none⟩=some (.int .i64 b2) /\ W.cell? ⟨nb+1,3,none⟩=some (.int .i64 b3) /\ W.cell? ⟨nb+1,4,none⟩=some (.slice ta tn tc) from fun W hG=>by
  have h1:=hX.drew.below hG.below hX.lt;have h2:=hY.drew.below hG.below hY.lt;exact ⟨h1.cell 0,h1.cell 1,h1.cell 2,h1.cell 3,h1.cell 4,h2.cell 0,h2.cell 1,h2.cell 2,h2.cell 3,h2.cell 4⟩)
 have HS:=Hd (fun W (hG:Grew w1.drew W)=>HS0.out W ((hg0.drew).trans hG));have HZ:=Hd (show ∀ W,Grew w1.drew W->nb<=W.heap.size from fun W hG=>by have h1:=hG.below.size;have h2:nb<w1.heap.size:=hX.lt;exact Nat.le_trans (Nat.le_of_lt h2) h1);have HG:=Hd hg0;clear hX hY hg0 hnb HS0;refine wp_region_concT 27 (leR nb a0 a1 a2 a3 b0 b1 b2 b3 c4 sa ta sn tn sc tc nb) (fun A W=>Grew A W) (fun _ _=>True) (by kernel_rfl) (by kernel_rfl) (by kernel_rfl) (by kernel_rfl) (Grew.refl _) trivial (fun h k=>h.trans k) ?_ ?_
 ·simp only [List.take_succ_cons,List.take_zero];refine ⟨?_,?_,?_,?_,?_,?_,?_,?_,?_,?_,?_,?_,?_,?_,?_,?_,?_,?_,?_,?_,?_,?_,?_,?_,?_,?_,?_,trivial⟩
  all_goals intro L T W hG hJ hLs hLi dq fq vq K hK
  all_goals try have zk:=fun v=>hK v W (Grew.refl W) (fun j u _ _ _ h=>h) trivial
  all_goals try have zv:=fun i h=>vq ⟨i,.data⟩ h rfl
  ·have h1:=fq 2 (by decide);simp at h1;go_simp;exact zk _ rfl
  ·have h1:=zv 0 (by simp) 5 rfl;simp [leR] at h1;obtain ⟨x0,x1,x2,x3,x4,y0,y1,y2,y3,y4⟩:=HC.out W hG;go_simp;exact zk _ rfl
  ·have h1:=fq 3 (by decide);simp at h1;go_simp;exact zk _ rfl
  ·have h1:=zv 2 (by simp) 7 rfl;simp [leR] at h1;obtain ⟨x0,x1,x2,x3,x4,y0,y1,y2,y3,y4⟩:=HC.out W hG;go_simp;exact zk _ rfl
  ·have h1:=zv 1 (by simp) 6 rfl;have h2:=zv 3 (by simp) 8 rfl;simp [leR] at h1 h2;have hcl:=compare_any a0 b0 W;go_simp;refine hcl.mono ?_;rintro e W2 ⟨rfl,rfl⟩;exact hK _ _ (Grew.refl _) (fun j u _ _ _ h=>h) trivial rfl
  ·have h1:=fq 2 (by decide);simp at h1;go_simp;exact zk _ rfl
  ·have h1:=zv 5 (by simp) 10 rfl;simp [leR] at h1;obtain ⟨x0,x1,x2,x3,x4,y0,y1,y2,y3,y4⟩:=HC.out W hG;go_simp;exact zk _ rfl
  ·have h1:=fq 3 (by decide);simp at h1;go_simp;exact zk _ rfl
  ·have h1:=zv 7 (by simp) 12 rfl;simp [leR] at h1;obtain ⟨x0,x1,x2,x3,x4,y0,y1,y2,y3,y4⟩:=HC.out W hG;go_simp;exact zk _ rfl
  ·have h1:=zv 6 (by simp) 11 rfl;have h2:=zv 8 (by simp) 13 rfl;simp [leR] at h1 h2;have hcl:=compare_any a1 b1 W;go_simp;refine hcl.mono ?_;rintro e W2 ⟨rfl,rfl⟩;exact hK _ _ (Grew.refl _) (fun j u _ _ _ h=>h) trivial rfl
  ·have h1:=fq 2 (by decide);simp at h1;go_simp;exact zk _ rfl
  ·have h1:=zv 10 (by simp) 15 rfl;simp [leR] at h1;obtain ⟨x0,x1,x2,x3,x4,y0,y1,y2,y3,y4⟩:=HC.out W hG;go_simp;exact zk _ rfl
  ·have h1:=fq 3 (by decide);simp at h1;go_simp;exact zk _ rfl
  ·have h1:=zv 12 (by simp) 17 rfl;simp [leR] at h1;obtain ⟨x0,x1,x2,x3,x4,y0,y1,y2,y3,y4⟩:=HC.out W hG;go_simp;exact zk _ rfl
  ·have h1:=zv 11 (by simp) 16 rfl;have h2:=zv 13 (by simp) 18 rfl;simp [leR] at h1 h2;have hcl:=compare_any a2 b2 W;go_simp;refine hcl.mono ?_;rintro e W2 ⟨rfl,rfl⟩;exact hK _ _ (Grew.refl _) (fun j u _ _ _ h=>h) trivial rfl
  ·have h1:=fq 2 (by decide);simp at h1;go_simp;exact zk _ rfl
  ·have h1:=zv 15 (by simp) 20 rfl;simp [leR] at h1;obtain ⟨x0,x1,x2,x3,x4,y0,y1,y2,y3,y4⟩:=HC.out W hG;go_simp;exact zk _ rfl
  ·have h1:=fq 3 (by decide);simp at h1;go_simp;exact zk _ rfl
  ·have h1:=zv 17 (by simp) 22 rfl;simp [leR] at h1;obtain ⟨x0,x1,x2,x3,x4,y0,y1,y2,y3,y4⟩:=HC.out W hG;go_simp;exact zk _ rfl
  ·have h1:=zv 16 (by simp) 21 rfl;have h2:=zv 18 (by simp) 23 rfl;simp [leR] at h1 h2;have hcl:=compare_any a3 b3 W;go_simp;refine hcl.mono ?_;rintro e W2 ⟨rfl,rfl⟩;exact hK _ _ (Grew.refl _) (fun j u _ _ _ h=>h) trivial rfl
  ·have h1:=fq 2 (by decide);simp at h1;go_simp;exact zk _ rfl
  ·have h1:=zv 20 (by simp) 25 rfl;simp [leR] at h1;obtain ⟨x0,x1,x2,x3,x4,y0,y1,y2,y3,y4⟩:=HC.out W hG;go_simp;exact zk _ rfl
  ·have h1:=fq 3 (by decide);simp at h1;go_simp;exact zk _ rfl
  ·have h1:=zv 22 (by simp) 27 rfl;simp [leR] at h1;obtain ⟨x0,x1,x2,x3,x4,y0,y1,y2,y3,y4⟩:=HC.out W hG;go_simp;exact zk _ rfl
  ·have h1:=zv 21 (by simp) 26 rfl;have h2:=zv 23 (by simp) 28 rfl;simp [leR] at h1 h2;have hcl:=HS.out W hG;go_simp;refine hcl.mono ?_;rintro e W2 ⟨rfl,rfl⟩;exact hK _ _ (Grew.refl _) (fun j u _ _ _ h=>h) trivial rfl
  ·have h1:=zv 4 (by simp) 9 rfl;have h2:=zv 9 (by simp) 14 rfl;have h3:=zv 14 (by simp) 19 rfl;have h4:=zv 19 (by simp) 24 rfl;have h5:=zv 24 (by simp) 29 rfl;simp [leR] at h1 h2 h3 h4 h5;go_simp;have hbn:=(Grew.refl W).alloc (.cells #[.int .i64 (cmpI a0 b0),.int .i64 (cmpI a1 b1),.int .i64 (cmpI a2 b2),.int .i64 (cmpI a3 b3),.int .i64 c4] 3);exact hK _ _ hbn (fun j u _ _ _ h=>leR_low j u h hbn.below) trivial ⟨_,rfl,Blk.new W _ _,HZ.out W hG⟩
  ·obtain ⟨q,h1,k1,k2⟩:=zv 25 (by simp) 30 rfl;simp at h1;have hcl:=or5_any _ _ _ _ _ _ W k1;go_simp;refine hcl.mono ?_;rintro e W2 ⟨rfl,rfl⟩;exact hK _ _ (Grew.refl _) (fun j u _ _ _ h=>h) trivial rfl
 ·intro f9 w2 hG hJe hR;have e26:=hR 26 31 (by decide) rfl;simp only [concDsts,qZ];simp only [leR] at e26;rw [e26];clear e26 hR;generalize f9 5=v5;generalize f9 6=v6;generalize f9 7=v7;generalize f9 8=v8;generalize f9 9=v9;generalize f9 10=v10;generalize f9 11=v11;generalize f9 12=v12;generalize f9 13=v13;generalize f9 14=v14;generalize f9 15=v15;generalize f9 16=v16;generalize f9 17=v17;generalize f9 18=v18;generalize f9 19=v19;generalize f9 20=v20;generalize f9 21=v21;generalize f9 22=v22;generalize f9 23=v23;generalize f9 24=v24;generalize f9 25=v25;generalize f9 26=v26;generalize f9 27=v27;generalize f9 28=v28;generalize f9 29=v29;generalize f9 30=v30;clear f9;have HG2:=Hd ((HG.out.drew).trans hG);clear hG hJe HC HS HZ;go_wp2_with fail
  go_ret;exact ⟨rfl,HG2.out⟩
open Go.Sort Go.Shelf
instance:Inhabited Al:=⟨⟨0,0,0,[]⟩⟩
def keyL (left:Nat->Int) (cuts:List Nat) (a:Al):List Int:=left a.prod::(a.src:Int)::(a.til:Int)::(a.prod:Int)::cuts.map Int.ofNat
theorem cmpI_lt {a b:Int}:cmpI a b<0↔a<b:=by unfold cmpI;(repeat' split) <;> omega
theorem cmpI_zero {a b:Int}:cmpI a b=0↔a=b:=by unfold cmpI;(repeat' split) <;> omega
theorem cmpLs_lt:∀ (s t:List Nat),cmpLs s t<0↔s.map Int.ofNat<t.map Int.ofNat
 | [],[]=>by simp [cmpLs]
 | [],_::_=>by simp [cmpLs]
 | _::_,[]=>by simp [cmpLs]
 | a::s,b::t=>by
  rw [List.map_cons,List.map_cons,List.cons_lt_cons_iff,cmpLs]
  by_cases h:cmpI a b=0
  ·rw [if_pos h,cmpLs_lt s t];have h1:=cmpI_zero.1 h;have h2:¬ (Int.ofNat a<Int.ofNat b):=by have h3:Int.ofNat a=(a:Int):=rfl;have h4:Int.ofNat b=(b:Int):=rfl;omega
   constructor
   ·exact fun h=>.inr ⟨h1,h⟩
   ·rintro (h | h)
    ·exact absurd h h2
    ·exact h.2
  ·rw [if_neg h,cmpI_lt]
   constructor
   ·exact fun h=>.inl h
   ·rintro (h2 | h2)
    ·exact h2
    ·exact absurd (cmpI_zero.2 h2.1) h
theorem or_step (a b:Int) (l:List Int) (x y:List Int) (h:orI l<0↔x<y):orI (cmpI a b::l)<0↔a::x<b::y:=by
 rw [List.cons_lt_cons_iff,orI]
 by_cases h0:cmpI a b=0
 ·rw [if_pos h0,h];have h1:=cmpI_zero.1 h0
  constructor
  ·exact fun h=>.inr ⟨h1,h⟩
  ·rintro (h | h)
   ·omega
   ·exact h.2
 ·rw [if_neg h0,cmpI_lt]
  constructor
  ·exact fun h=>.inl h
  ·rintro (h2 | h2)
   ·exact h2
   ·exact absurd (cmpI_zero.2 h2.1) h0
theorem cfAl_lt (left:Nat->Int) (ct:Al->List Nat) (x y:Al):cfAl left ct x y<0↔keyL left (ct x) x<keyL left (ct y) y:=by
 unfold cfAl keyL;refine or_step _ _ _ _ _ (or_step _ _ _ _ _ (or_step _ _ _ _ _ (or_step _ _ _ _ _ ?_)));rw [orI]
 by_cases h:cmpLs (ct x) (ct y)=0
 ·rw [if_pos h,<- cmpLs_lt,h];simp [orI]
 ·rw [if_neg h,cmpLs_lt]
theorem lt_cfAl (left:Nat->Int) (ct:Al->List Nat) (x y:Al):ltOf (cfAl left ct) x y=decide (keyL left (ct x) x<keyL left (ct y) y):=by
 unfold ltOf;exact decide_eq_decide.2 (cfAl_lt left ct x y)
theorem swo_cfAl (left:Nat->Int) (ct:Al->List Nat):SWO (ltOf (cfAl left ct)) where
 irrefl x:=by rw [lt_cfAl,decide_eq_false_iff_not];exact List.lt_irrefl _
 trans x y z h k:=by rw [lt_cfAl,decide_eq_true_eq] at *;exact List.lt_trans h k
 ntrans x y z h k:=by
  rw [lt_cfAl,decide_eq_false_iff_not,List.not_lt] at *;exact List.le_trans k h
def leAl (left:Nat->Int) (x y:Al):Bool:=decide (keyL left x.cuts x<=keyL left y.cuts y)
theorem keyL_inj {left:Nat->Int} {x y:Al} (h:keyL left x.cuts x=keyL left y.cuts y):x=y:=by
 unfold keyL at h;simp only [List.cons.injEq] at h;obtain ⟨_,h1,h2,h3,h4⟩:=h;have h4:x.cuts=y.cuts:=by
  have:=congrArg (List.map Int.toNat) h4;rw [List.map_map,List.map_map] at this;have hid:∀ l:List Nat,l.map (Int.toNat ∘ Int.ofNat)=l:=fun l=>by
   rw [show (Int.toNat ∘ Int.ofNat)=id from rfl,List.map_id]
  rwa [hid,hid] at this
 cases x;cases y
 simp only at h1 h2 h3 h4;obtain rfl:=h4;have h1:=Int.ofNat_inj.1 h1;have h2:=Int.ofNat_inj.1 h2;have h3:=Int.ofNat_inj.1 h3;rw [h1,h2,h3]
def sortAl (left:Nat->Int) (A:List Al):List Al:=A.mergeSort (leAl left)
theorem sortAl_perm (left:Nat->Int) (A:List Al):(sortAl left A).Perm A:=List.mergeSort_perm _ _
theorem sortAl_sorted (left:Nat->Int) (A:List Al):(sortAl left A).Pairwise fun x y=>keyL left x.cuts x<=keyL left y.cuts y:=by
 have h:=List.pairwise_mergeSort (le:=leAl left) (fun a b c h1 h2=>by unfold leAl at *;rw [decide_eq_true_eq] at *;exact List.le_trans h1 h2) (fun a b=>by unfold leAl;rw [Bool.or_eq_true,decide_eq_true_eq,decide_eq_true_eq];exact List.le_total _ _) A;exact h.imp (fun h=>by unfold leAl at h;simpa using h)
theorem sortAl_unique {left:Nat->Int} {A B:List Al} (hp:B.Perm A) (hs:B.Pairwise fun x y=>keyL left x.cuts x<=keyL left y.cuts y):B=sortAl left A :=
 List.Perm.eq_of_pairwise (le:=fun x y=>keyL left x.cuts x<=keyL left y.cuts y) (fun a b _ _ h1 h2=>keyL_inj (List.le_antisymm h1 h2)) hs (sortAl_sorted left A) (hp.trans (sortAl_perm left A).symm)
theorem sortedAl_of {left:Nat->Int} {ct:Al->List Nat} (d:Array Al) (l:List Al) (hct:∀ a∈l,ct a=a.cuts) (hp:PermIn 0 l.length l.toArray d) (hs:SortedIn (ltOf (cfAl left ct)) 0 l.length d):d.toList=sortAl left l:=by
 obtain ⟨h1,_,h2⟩:=hp;have e1:d.size=l.length:=by simpa using h1
 have hperm:d.toList.Perm l:=by
  have h3:(d.extract 0 l.length).toList=d.toList:=by rw [<- e1];simp
  have h4:(l.toArray.extract 0 l.length).toList=l:=by simp
  rw [h3,h4] at h2;exact h2
 refine sortAl_unique hperm ?_;rw [List.pairwise_iff_getElem];intro i j hi hj hij;have h3:=hs i j (Nat.zero_le _) hij (by rw [<- e1];simpa using hj);rw [lt_cfAl,decide_eq_false_iff_not,List.not_lt] at h3;have ei:d[i]! = d.toList[i]:=by rw [getElem!_pos d i (by simpa using hi)];simp
 have ej:d[j]! = d.toList[j]:=by rw [getElem!_pos d j (by simpa using hj)];simp
 rw [ei,ej,hct _ (hperm.mem_iff.1 (List.getElem_mem _)),hct _ (hperm.mem_iff.1 (List.getElem_mem _))] at h3;exact h3
theorem sortAlts_any (left:Nat->Int) (va:Al->Value) (ct:Al->List Nat) (l:List Al) (hct:∀ a∈l,ct a=a.cuts) (B:Nat) (v:Value) (w:World) (h:w.ownsRow B 59 5 v l.length (flatK (encAl left va) l)) (hmax:l.length<4611686018427387904)
  (hm:∀ a,SliceK (fun b=>b<B) encN 1 w (va a) (ct a) /\ (ct a).length<=4398046511104) :
  Calls Tryz.prog 58 #[v,.func (.func 30) #[] #[]] w fun e w'=>e=.returned (.tuple #[]) /\ w'.ownsRow B 59 5 v (sortAl left l).length (flatK (encAl left va) (sortAl left l)) /\ w.grownBy w' v.ownBlock:=by
 rcases h.2 with ⟨rfl,h0⟩ | ⟨g,cap,cur,rfl,hBg,_⟩
 ·have hl:l=[]:=List.eq_nil_of_length_eq_zero h0;subst hl;exact (AnyF.slices_SortFunc_none Tryz.sortAlts none 0 _ w).mono fun _ _ ⟨he,hw⟩=>⟨he,by rw [hw,<- show ([]:List Al)=sortAl left [] from sortAl_unique (List.Perm.refl _) List.Pairwise.nil];exact h,by rw [hw];exact grown_refl _ _⟩
 ·have hg:=(h.lt g rfl).2;have eg:∀ args w,(callFunc 30 args).run Tryz.prog w=.ok (.enter 30 args) w:=enters_of Tryz.func30 (by kernel_rfl) rfl;have hH:=own_holds (encAl_len left va) (by decide) h rfl
  have hone:∀ x,∀ u∈encAl left va x,u.oneCell'=true:=fun x u hu=>by
   obtain ⟨sa,sc,hx,_⟩:=read_cells (hm x).1;unfold encAl at hu;rw [hx] at hu;simp only [List.mem_cons,List.not_mem_nil,or_false] at hu
   rcases hu with rfl | rfl | rfl | rfl | rfl <;> rfl
  have hcmp:CmpLays Tryz.prog 30 #[] (encAl left va) 5 (cfAl left ct) g 0 l.toArray.size w:=fun m os dk hdk x y=>by
   have hgr:=(sorted_own (encAl_len left va) (by decide) h m dk (by simpa using hdk) os).2;refine (less_any left va ct (fun b=>b<B) _ (fun a=>⟨(hm a).1.keep (fun b hb hl=>⟨hb,hgr.block b hl (by intro e;injection e with e;omega)⟩),(hm a).2⟩) x y).mono ?_;rintro e w' ⟨rfl,hw⟩;exact ⟨rfl,hw⟩
  have hcon:=AnyQ.slices_SortFunc Tryz.sortAlts 5 Tryz.isAgg59 Tryz.sizeOf59 (encAl left va) (encAl_len left va) hone (cfAl left ct) (swo_cfAl left ct) 30 #[] g 0 cap l.toArray w eg hcmp hH hg (by simpa using hmax);refine hcon.mono ?_;rintro e w' ⟨rfl,d,n,os,hp,hs,rfl⟩;have hd:d.toList=sortAl left l:=sortedAl_of d l hct (by simpa using hp) (by simpa using hs);have hsz:d.size=l.length:=by have:=hp.1;simpa using this
  have hso:=sorted_own (encAl_len left va) (by decide) h n d hsz os;rw [hd] at hso;have hlen:(sortAl left l).length=l.length:=(sortAl_perm left l).length_eq;refine ⟨rfl,?_,hso.2⟩;rw [hlen];exact hso.1
theorem values_any (mb:Option Nat) (w:World):Calls Tryz.prog 29 #[.map mb] w fun e w'=>e=.returned (.func (.func 59) #[] #[.pointer (some ⟨w.heap.size,0,none⟩)]) /\ w'=w.alloc (.cells #[.map mb] 78):=by
 have hmf:∀ (fn:Fn) (first cap:Array Value) (w:World),(Instr.makeFunc fn first cap).run Tryz.prog w=.ok (.func fn first cap) w:=fun _ _ _ _=>rfl;go_enter Tryz.func29,Tryz.ntmps29;go_wp2_with fail
 go_ret;exact ⟨rfl,rfl⟩
def SortedT (lo:Nat->Prop) (left:Nat->Int) (A:List Al) (n0:Nat) (v:Value) (va:Al->Value) (w':World):Prop :=
 w'.ownsRow n0 59 5 v (sortAl left A).length (flatK (encAl left va) (sortAl left A)) /\ ∀ a∈A,SliceK (fun b=>(lo b /\ b<n0) /\ IntB w' b) encN 1 w' (va a) a.cuts
theorem sorted_any {C:RC} {left:Nat->Int} {ρ:Nat->Option Role} {A:List Al} {w:World} (h:AltsW C left ρ A w) (hok:∀ a∈A,AlOk a) (hA:A.Nodup) (hl:A.length<=2199023255552) :
  Calls Tryz.prog 28 #[.func (.func 59) #[] #[.pointer (some ⟨w.heap.size,0,none⟩)],.func (.func 30) #[] #[]] (w.alloc (.cells #[.map (some C.ba)] 78)) fun e w' =>
   ∃ v va,e=.returned v /\ SortedT (fun b=>ρ b=none /\ C.rb<=b) left A (w.heap.size+1) v va w' /\ Below w.heap.size w w':=by
 classical
 obtain ⟨f,va0,⟨D,hD1,hD2,hD3⟩,hf0,hs0⟩:=h;obtain ⟨va,hva⟩:∃ va:Al->Value,va=fun a=>if a∈A then va0 a else .slice none 0 0:=⟨_,rfl⟩
 obtain ⟨ct,hct⟩:∃ ct:Al->List Nat,ct=fun a=>if a∈A then a.cuts else []:=⟨_,rfl⟩
 have hvin:∀ a∈A,va a=va0 a:=fun a ha=>by rw [hva];simp [ha]
 have hcin:∀ a∈A,ct a=a.cuts:=fun a ha=>by rw [hct];simp [ha]
 have hf:∀ l,f (.string l)=(A.find? fun a=>keyA a==l).map fun a=>alV left (va a) a:=fun l=>by
  rw [hf0]
  cases hx:A.find? fun a=>keyA a==l with
  | none=>rfl
  | some a=>simp [hvin a (List.mem_of_find?_eq_some hx)]
 have hcl:∀ a∈A,a.cuts.length<=4398046511104:=fun a ha=>by have:=(hok a ha).len;omega
 have hm:∀ a,SliceK (fun b=>CutB C ρ w b /\ b<w.heap.size) encN 1 w (va a) (ct a) /\ (ct a).length<=4398046511104:=fun a=>by
  by_cases ha:a∈A
  ·rw [hvin a ha,hcin a ha];exact ⟨(hs0 a ha).keep (fun b h1 hb=>⟨⟨h1,hb⟩,rfl⟩),hcl a ha⟩
  ·have h1:va a=.slice none 0 0:=by rw [hva];simp [ha]
   have h2:ct a=[]:=by rw [hct];simp [ha]
   rw [h1,h2];exact ⟨SliceK.nil,by simp⟩
 have hvs:∀ a,∃ sa sn sc,va a=.slice sa sn sc:=fun a=>by
  obtain ⟨sa,sc,hx,_⟩:=read_cells (hm a).1;exact ⟨sa,_,sc,hx⟩
 have hvs2:∀ a∈A,∃ sa sc,va a=.slice sa a.cuts.length sc:=fun a ha=>by
  obtain ⟨sa,sc,hx,_⟩:=read_cells (hm a).1;rw [hcin a ha] at hx;exact ⟨sa,sc,hx⟩
 have hkey:∀ a∈A,keyOf Tryz.prog 9 (encStr (keyA a))=some (.string (keyA a)):=fun a ha=>by
  have hkl:=keyA_len a (hok a ha);have h1:=WideMaps.keyOf_string_mk (P:=Tryz.prog) (k:=9) Tryz.underlying9 (s:=⟨(keyA a).toArray⟩) (by unfold maxLen;show (keyA a).toArray.size<=_;simp;omega)
  simpa using h1
 obtain ⟨w1,hw1⟩:=eX (w.alloc (.cells #[.map (some C.ba)] 78));have hs1:w1.heap.size=w.heap.size+1:=by rw [<- hw1];simp
 have hb1:Below w.heap.size w w1:=by rw [<- hw1];exact (bR _ _).alloc (nR _) _
 have hbox:w1.cell? ⟨w.heap.size,0,none⟩=some (.map (some C.ba)):=by rw [<- hw1];simp
 have hown:w1.ownsMap Tryz.prog 9 asIs C.ba A.length D:=by
  obtain ⟨es,clock,hb,Ft,hs,hDD⟩:=hD1;exact ⟨es,clock,(hb1.block _ (Array.getElem?_eq_some_iff.1 hb).1).trans hb,Ft,hs,hDD⟩
 rw [hw1];clear hw1;obtain ⟨n0,hn0⟩:=eX w.heap.size;rw [hn0] at hs1 hb1 hbox hm ⊢;have hseq:=vals_stops Fence.wide 4 trivial rfl (by omega) n0 C.ba A.length A hA left va D f hD3 hf hD2 hvs2 hkey w1 (by omega) hbox hown;have eg:∀ args w,(callFunc 59 args).run Tryz.prog w=.ok (.enter 59 args) w:=enters_of Tryz.func59 (by kernel_rfl) rfl;have hap:=callsIn_wide.1 (appendAlts_in Fence.wide 5 trivial rfl (by omega) 59 #[.pointer (some ⟨n0,0,none⟩)] trivial eg left va hvs (fun ss=>ss.Perm A) (fun _=>True) A.length hl w1 hseq)
 have hcol:Calls Tryz.prog 57 #[.func (.func 59) #[] #[.pointer (some ⟨n0,0,none⟩)]] w1 fun e w'=>∃ (v:Value) (ss:List Al),e=.returned v /\ ss.Perm A /\ w'.ownsRow w1.heap.size 59 5 v ss.length (flatK (encAl left va) ss) /\ Below w1.heap.size w1 w':=by
  have HA:=Hd hap;clear hap hseq hown hbox;go_enter Tryz.func57,Tryz.ntmps57;go_wp2_with fail
  refine HA.out.mono ?_;rintro e w2 ⟨v,ss,rfl,hp,hr,hb⟩;go_wp2_with fail
  go_ret;exact ⟨v,ss,rfl,hp,hr,hb⟩
 have HH:=Z7.mk hcol hm hcin hs1 hb1 hl hn0;clear hcol hap hseq hown hbox hkey hvs hvs2 hcl hf hf0 hs0 hvin hD1 hD2 hD3 hb1 hn0;go_enter Tryz.func28,Tryz.ntmps28;go_wp2_with fail
 refine HH.o1.mono ?_;rintro e w2 ⟨v,ss,rfl,hp,hr,hb⟩;have hs2:=HH.o4;have hso:=sortAlts_any left va ct ss (fun a ha=>HH.o3 a (hp.mem_iff.1 ha)) w1.heap.size v w2 hr (by rw [hp.length_eq];have:=HH.o6;omega) (fun a=>⟨((HH.o2 a).1.keep (fun b hb3 hl=>by
  have h1:=HH.o7;have h2:b<w1.heap.size:=by have:=hb3.2;omega
  have h4:=hb3.2;exact ⟨h2,(hb.block b h2).trans (HH.o5.block b (by omega))⟩)),(HH.o2 a).2⟩)
 have hsort:sortAl left ss=sortAl left A:=sortAl_unique ((sortAl_perm left ss).trans hp) (sortAl_sorted left ss);rw [hsort] at hso;have HS:=Z4.mk hso hp hr hb;clear hso hp hr hb hsort;go_wp2_with fail
 refine HS.o1.mono ?_;rintro e w3 ⟨rfl,hr3,hg3⟩;have HF:=Z2.mk hr3 hg3;clear hr3 hg3;go_wp2_with fail
 go_ret;have hb2:=HS.o4;have hbig:∀ k,v.ownBlock=some k->w1.heap.size<=k:=fun k e=>(HS.o3.lt k e).1;have hb3:Below w1.heap.size w1 w3:=hb2.grown HF.o2 hb2.size (fun k e=>hbig k e);have hn0:=HH.o7;refine ⟨v,va,rfl,⟨by rw [<- hs2];exact HF.o1,fun a ha=>?_⟩,?_⟩
 ·have h1:=(HH.o2 a).1
  rw [HH.o3 a ha] at h1;exact h1.keep (fun b hb4 hl=>by
   have h4:=hb4.2;have h2:b<w1.heap.size:=by omega
   have h5:=(hb3.block b h2).trans (HH.o5.block b (by omega));exact ⟨⟨⟨hb4.1.1,by omega⟩,(hb4.1.keep_ (ρ':=ρ) rfl h5).2⟩,h5⟩)
 ·exact HH.o5.trans (hb3.mono (by omega))
end Go.Proofs.YthiochcpmfkgcaaGreatDoor.Gl
