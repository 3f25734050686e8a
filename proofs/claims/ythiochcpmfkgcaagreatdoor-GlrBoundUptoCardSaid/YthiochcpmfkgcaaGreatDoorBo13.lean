/- Walks and plain laws that the last text stands on: TbCheckA. -/
import Derived.Test.YthiochcpmfkgcaaGreatDoorBo6
import Derived.Test.YthiochcpmfkgcaaGreatDoorBo1
import Derived.Deep.RegionHeld3
import Derived.Deep.DeepCutAuto
set_option linter.unusedVariables false
set_option linter.unusedSimpArgs false
set_option maxRecDepth 100000
set_option maxHeartbeats 16000000
namespace Go.Proofs.YthiochcpmfkgcaaGreatDoor.Tb
open Go Go.RowKit Go.Proofs Go.Maps Mx
def encS (s:List UInt8):List Value:=[.string ⟨s.toArray⟩]
theorem encS_len (s:List UInt8):(encS s).length=1:=rfl
structure SortsOk (g:Gr):Prop where
 nodup:g.sorts.Nodup
 each:∀ s∈g.sorts,s≠[] /\ s.length<=1000
 some_:1<=g.sorts.length
 many:g.sorts.length<=1000
 start:0<=g.start /\ g.start<g.sorts.length
theorem sorts_ok (D:Nat->Prop) (g:Gr) (hg:SortsOk g) (w:World) (sv pv fv lv:Value) (hs:SliceK D encS 1 w sv g.sorts) :
  Calls Tryz.prog 77 #[.agg #[sv,pv,.int .i64 g.start,fv,lv]] w fun e w'=>e=.returned (.bool true) /\ Below w.heap.size w w':=by
 obtain ⟨a,c,rfl,hc1,hc2,hk⟩:=hs;have hmm:=@run_makeMap Tryz.prog;have h1:=hg.some_;have h2:=hg.many;have h3:=hg.start.1;have h4:=hg.start.2;have HK:=Hd (An hk hg);clear hk hg
 go_enter Tryz.func77,Tryz.ntmps77
 go_wp2_with fail
 have hB1:Blk ((w.alloc (.cells #[.slice a g.sorts.length c,pv,.int .i64 g.start,fv,lv] 27)).alloc (.map #[] 0)) w.heap.size 27 #[.slice a g.sorts.length c,pv,.int .i64 g.start,fv,lv]:=(Blk.new _ _ _).alloc _;have hM1:MapV Tryz.prog 9 ((w.alloc (.cells #[.slice a g.sorts.length c,pv,.int .i64 g.start,fv,lv] 27)).alloc (.map #[] 0)) (w.heap.size+1) 0 (fun _=>none):=by
  have:=MapV.made (w.alloc (.cells #[.slice a g.sorts.length c,pv,.int .i64 g.start,fv,lv] 27)) Tryz.prog 9
  simpa using this
 have hb1:Below w.heap.size w ((w.alloc (.cells #[.slice a g.sorts.length c,pv,.int .i64 g.start,fv,lv] 27)).alloc (.map #[] 0)):=((Below.refl _ w).alloc (Nat.le_refl _) _).alloc (by simp) _
 have hz1:w.heap.size+2<=((w.alloc (.cells #[.slice a g.sorts.length c,pv,.int .i64 g.start,fv,lv] 27)).alloc (.map #[] 0)).heap.size:=by simp
 generalize (w.alloc (.cells #[.slice a g.sorts.length c,pv,.int .i64 g.start,fv,lv] 27)).alloc (.map #[] 0)=W1 at hB1 hM1 hb1 hz1 ⊢;have H1:=Hd (An hB1 (An hM1 (An hb1 hz1)));clear hB1 hM1 hb1 hz1
 go_loopg [10] g.sorts.length (fun m v10 wr=>∃ (i:Nat) (f:Lit->Option Value),i<=g.sorts.length /\ m=g.sorts.length - i /\ v10=.int .i64 i /\ MapV Tryz.prog 9 wr (w.heap.size+1) i f /\
  (∀ s,f (.string s)=if s∈g.sorts.take i then some (.int .i64 1) else none) /\ Below w.heap.size w wr /\ Blk wr w.heap.size 27 #[.slice a g.sorts.length c,pv,.int .i64 g.start,fv,lv])
 case atStart=>exact ⟨0,_,by omega,rfl,rfl,H1.out.2.1,(fun s=>by simp),H1.out.2.2.1,H1.out.1⟩
 case round =>
  obtain ⟨i,f,hi,hm,rfl,hM,hf,hb,hB⟩:=hrel;have q0:=hB.cell 0;have q2:=hB.cell 2;simp at q0 q2
  by_cases hlt:i<g.sorts.length
  ·obtain ⟨s,hsi⟩:∃ s,g.sorts[i]?=some s:=⟨_,List.getElem?_eq_getElem hlt⟩
   obtain ⟨kg,ko,rfl,hkD,hkr⟩:=HK.out.1 (by rintro h;rw [h] at hlt;simp at hlt)
   have k0:=hkr.cells i _ hsi 0 _ rfl;simp only [Nat.add_zero,Nat.mul_one] at k0;have k0:=(World.cell?_of_block (hb.block kg hkr.lt)).trans k0;have hsm:=HK.out.2.each s (List.mem_of_getElem? hsi);have hnot:s ∉ g.sorts.take i:=fun h=>by
    obtain ⟨j,hj,e⟩:=List.getElem_of_mem h;have hji:j<i:=by rw [List.length_take] at hj;omega
    rw [List.getElem_take] at e;have h1:=List.pairwise_iff_getElem.1 HK.out.2.nodup j i (by omega) hlt hji
    rw [e,(List.getElem?_eq_some_iff.1 hsi).2] at h1;exact h1 rfl
   have hsl:(s.toArray.size:Int)<=1000:=by simp;omega
   have hkey:keyOf Tryz.prog 9 (.string ⟨s.toArray⟩)=some (.string s):=by
    have h1:=WideMaps.keyOf_string_mk (P:=Tryz.prog) (k:=9) Tryz.underlying9 (s:=⟨s.toArray⟩) (by unfold maxLen;show s.toArray.size<=_;simp;omega)
    simpa using h1
   have hlk:(Instr.lookup 128 (.map (some (w.heap.size+1))) (.string ⟨s.toArray⟩) false).run Tryz.prog wr=.ok (.int .i64 0) wr:=by
    have h1:=hM.lookup (string_keyed Tryz.underlying9) Tryz.underlying128 (Tryz.zeroValue3 wr) hkey;rw [hf,if_neg hnot] at h1;exact h1
   have hi0:(0:Int)<=(i:Int):=by omega
   have hi1:(i:Int)<(g.sorts.length:Int):=by omega
   have hmx:i<maxLen:=by unfold maxLen;omega
   have HMv:=Hd hM;have HR:=Hd (An hm (An hf (An hb (An hB (An hsi hnot)))));clear hm hf hb hB hsi hnot hM hkr q0 q2;go_wp2_with (at_mapUpdate;refine wpList_mapUpdateV _ rfl _ _ _ 128 rfl 9 3 (string_keyed Tryz.underlying9) Tryz.underlying128 (w.heap.size+1) i f rfl ?_ hmx _ _ _ rfl rfl hkey ?_;exact HMv.out)
   intro w5 hm5 hg5;have hf5:∀ t,putV f (.string s) (.int .i64 1) (.string t)=if t∈g.sorts.take (i+1) then some (.int .i64 1) else none:=fun t=>by
    rw [putV_string,List.take_add_one,HR.out.2.2.2.2.1]
    by_cases e:t=s
    ·rw [if_pos e,if_pos (by simp [e])]
    ·rw [if_neg e,HR.out.2.1]
     by_cases e2:t∈g.sorts.take i
     ·rw [if_pos e2,if_pos (by simp [e2])]
     ·rw [if_neg e2,if_neg (by simp [e2,e])]
   have hlk5:(Instr.lookup 128 (.map (some (w.heap.size+1))) (.string ⟨s.toArray⟩) false).run Tryz.prog w5=.ok (.int .i64 1) w5:=by
    have h1:=hm5.lookup (string_keyed Tryz.underlying9) Tryz.underlying128 (Tryz.zeroValue3 w5) hkey;rw [putV_string,if_pos rfl] at h1;exact h1
   have hb5:Below w.heap.size w w5:=HR.out.2.2.1.trans (below_of_grown hg5 HR.out.2.2.1.size (Nat.le_succ _));have hB5:=HR.out.2.2.2.1.grown hg5 (by simp)
   have HS:=Hd (An hm5 (An hf5 (An hb5 hB5)));clear hm5 hf5 hb5 hB5 hg5 hlk;have hse:s.isEmpty=false:=by cases s with | nil=>exact absurd rfl hsm.1 | cons _ _=>rfl
   have hsd:decide (1000<(s.length:Int))=false:=decide_eq_false (by have:=hsm.2;omega)
   go_wp2_with fail
   go_roundg (g.sorts.length - (i+1))
   case measure=>have:=HR.out.1;omega
   case rel=>exact ⟨i+1,_,by omega,rfl,rfl,HS.out.1,HS.out.2.1,HS.out.2.2.1,HS.out.2.2.2⟩
  ·obtain rfl:i=g.sorts.length:=by omega
   have HR:=Hd (An hb hB);clear hb hB hM hf;go_wp2_with fail
   go_ret
   exact ⟨rfl,HR.out.1⟩
end Go.Proofs.YthiochcpmfkgcaaGreatDoor.Tb
namespace Go.Proofs.YthiochcpmfkgcaaGreatDoor.Tb
open Go Go.RowKit Go.Proofs Go.Maps Mx
attribute [local go_sem] eqSet
structure PrOk (g:Gr) (p:Pr):Prop where
 left:0<=p.left /\ p.left<g.sorts.length
 right:p.right.length<=30
 role:0<=p.role /\ p.role<=11
 made:-1<=p.made
 cons:p.cons.length<=64
 bare:p.cons=[]∨p.role=0
 one:p.prefer=false∨p.avoid=false
 sym:∀ s∈p.right,(s.kind=0 /\ s.sort=0 /\ s.set≠0 /\ s.set<2 ^ 256)∨(s.kind=1 /\ s.set=0 /\ 0<=s.sort /\ s.sort<g.sorts.length /\ p.role≠11)
theorem ProdsAt.at_ {D:Nat->Prop} {w:World} {vp:Value} {ps:List Pr} (h:ProdsAt D w vp ps) {n:Nat} {p:Pr} (hp:ps[n]?=some p):∃ cap b o vr,vp=.slice (some ⟨b,o,none⟩) ps.length cap /\ b<w.heap.size /\ SliceK D encSy 6 w vr p.right /\
  (∀ j u,(encPr (vr,p))[j]?=some u->w.cell? ⟨b,o+n * 7+j,none⟩=some u):=by
 obtain ⟨l,hl,e⟩:=h;have hlen:l.length=ps.length:=by rw [<- e];simp
 have hx:∃ vr,l[n]?=some (vr,p):=by
  rw [<- e,List.getElem?_map] at hp
  cases hq:l[n]? with
  | none=>rw [hq] at hp;simp at hp
  | some q=>rw [hq] at hp;simp at hp;exact ⟨q.1,by rw [<- hp]⟩
 obtain ⟨vr,hx⟩:=hx;obtain ⟨a,cap,rfl,hc1,hc2,hK⟩:=hl.row;obtain ⟨b,o,rfl,hDb,hr⟩:=hK (by rintro rfl;simp at hx)
 rw [hlen];exact ⟨cap,b,o,vr,rfl,hr.lt,hl.right _ (List.mem_of_getElem? hx),fun j u hu=>hr.cells n _ hx j u hu⟩
theorem sort_in (w:World) (b:Nat) (sa:Option Addr) (n c:Nat) (h:w.cell? ⟨b,0,none⟩=some (.slice sa n c)) (s:Int) (h0:0<=s) (h1:s<n) :
  Calls Tryz.prog 104 #[.int .i64 s,.pointer (some ⟨b,0,none⟩)] w fun e w'=>e=.returned (.bool true) /\ w'=w:=by
 go_enter Tryz.func104,Tryz.ntmps104
 go_wp2_with fail
 go_ret
 exact ⟨rfl,rfl⟩
theorem prods_ok (D:Nat->Prop) (g:Gr) (hpm:g.prods.length<=1000) (hg:∀ p∈g.prods,PrOk g p) (w:World) (sa:Option Addr) (sn sc:Nat) (hsn:sn=g.sorts.length) (pv fv lv:Value) (hs:ProdsAt D w pv g.prods) (hpl:∃ pa pc,pv=.slice pa g.prods.length pc) :
  Calls Tryz.prog 78 #[.agg #[.slice sa sn sc,pv,.int .i64 g.start,fv,lv]] w fun e w'=>e=.returned (.bool true) /\ Below w.heap.size w w':=by
 obtain ⟨pa,pc,rfl⟩:=hpl;have hmf:∀ (fn:Fn) (first cap:Array Value) (w:World),(Instr.makeFunc fn first cap).run Tryz.prog w=.ok (.func fn first cap) w:=fun _ _ _ _=>rfl
 have HK:=Hd (An hs (An hg hsn));clear hs hg hsn
 go_enter Tryz.func78,Tryz.ntmps78
 go_wp2_with fail
 have hB1:Blk (w.alloc (.cells #[.slice sa sn sc,.slice pa g.prods.length pc,.int .i64 g.start,fv,lv] 27)) w.heap.size 27 #[.slice sa sn sc,.slice pa g.prods.length pc,.int .i64 g.start,fv,lv]:=Blk.new _ _ _;have hb1:Below w.heap.size w (w.alloc (.cells #[.slice sa sn sc,.slice pa g.prods.length pc,.int .i64 g.start,fv,lv] 27)):=(Below.refl _ w).alloc (Nat.le_refl _) _;generalize (w.alloc (.cells #[.slice sa sn sc,.slice pa g.prods.length pc,.int .i64 g.start,fv,lv] 27))=W1 at hB1 hb1 ⊢;have H1:=Hd (An hB1 hb1);clear hB1 hb1
 go_loopg [12] g.prods.length (fun m v12 wr=>∃ (i:Nat),i<=g.prods.length /\ m=g.prods.length - i /\ v12=.int .i64 i /\ Below w.heap.size w wr /\ Blk wr w.heap.size 27 #[.slice sa sn sc,.slice pa g.prods.length pc,.int .i64 g.start,fv,lv])
 case atStart=>exact ⟨0,by omega,rfl,rfl,H1.out.2,H1.out.1⟩
 case round =>
  obtain ⟨i,hi,hm,rfl,hb,hB⟩:=hrel;have q0:=hB.cell 0;have q1:=hB.cell 1;simp at q0 q1
  by_cases hlt:i<g.prods.length
  ·obtain ⟨p,hp⟩:∃ p,g.prods[i]?=some p:=⟨_,List.getElem?_eq_getElem hlt⟩
   obtain ⟨cap,b,o,vr,epv,hbl,hvr,hpc⟩:=HK.out.1.at_ hp;injection epv with e1 e2 e3;subst e1;subst e3;obtain ⟨ra,rc,rfl,hrc1,hrc2,hrk⟩:=hvr;have hok:=HK.out.2.1 p (List.mem_of_getElem? hp);have up:∀ {i:Nat} {u:Value},w.cell? ⟨b,i,none⟩=some u->wr.cell? ⟨b,i,none⟩=some u:=fun h=>(World.cell?_of_block (hb.block b hbl)).trans h
   have f0:=up (hpc 0 _ rfl);have f1:=up (hpc 1 _ rfl);have f2:=up (hpc 2 _ rfl);have f3:=up (hpc 3 _ rfl);have f4:=up (hpc 4 _ rfl);have f5:=up (hpc 5 _ rfl);have f6:=up (hpc 6 _ rfl);simp only [Nat.add_zero] at f0;have hi0:(0:Int)<=(i:Int):=by omega
   have hi1:(i:Int)<(g.prods.length:Int):=by omega
   have HR:=Hd (An hm (An hb (An hB (An hrk hok))));have hsl:=sort_in;clear hm hb hB hpc up hrk hp
   go_upto_region 5 with fail
   have hP:Blk (wr.alloc (.cells #[.int .i64 p.left,.slice ra p.right.length rc,.string ⟨p.cons.toArray⟩,.int .i64 p.role,.bool p.prefer,.bool p.avoid,.int .i64 p.made] 53)) wr.heap.size 53 #[.int .i64 p.left,.slice ra p.right.length rc,.string ⟨p.cons.toArray⟩,.int .i64 p.role,.bool p.prefer,.bool p.avoid,.int .i64 p.made]:=Blk.new _ _ _;have hb3:Below wr.heap.size wr (wr.alloc (.cells #[.int .i64 p.left,.slice ra p.right.length rc,.string ⟨p.cons.toArray⟩,.int .i64 p.role,.bool p.prefer,.bool p.avoid,.int .i64 p.made] 53)):=(Below.refl _ wr).alloc (Nat.le_refl _) _;generalize (wr.alloc (.cells #[.int .i64 p.left,.slice ra p.right.length rc,.string ⟨p.cons.toArray⟩,.int .i64 p.role,.bool p.prefer,.bool p.avoid,.int .i64 p.made] 53))=w3 at hP hb3 ⊢;have hG3:=HR.out.2.2.1.below hb3 HR.out.2.2.1.lt;have g0:=hG3.cell 0;simp at g0;have x0:=hP.cell 0;have x1:=hP.cell 1;have x2:=hP.cell 2;have x3:=hP.cell 3;have x4:=hP.cell 4;have x5:=hP.cell 5;have x6:=hP.cell 6;simp at x0 x1 x2 x3 x4 x5 x6;have ok:=HR.out.2.2.2.2;have o1:decide (30<(p.right.length:Int))=false:=decide_eq_false (by have:=ok.right;omega)
   have o2:decide (p.role<0)=false:=decide_eq_false (by have:=ok.role;omega)
   have o3:decide (11<p.role)=false:=decide_eq_false (by have:=ok.role;omega)
   have o4:decide (p.made < -1)=false:=decide_eq_false (by have:=ok.made;omega)
   have o5:decide (64<(p.cons.length:Int))=false:=decide_eq_false (by have:=ok.cons;omega)
   have hl0:=ok.left.1;have hl1:p.left<(sn:Int):=by rw [HK.out.2.2];exact ok.left.2
   have HQ:=Hd (An hP (An hb3 hG3));have hbare:=ok.bare;have hone:=ok.one;clear hP hb3 hG3 ok f0 f1 f2 f3 f4 f5 f6 q0 q1
   go_cut [65] from 13 to 65 (fun s65 wx=>s65=.bool false /\ wx=w3)
   case first =>
    rcases hbare with hc | hc <;> rcases hone with ho | ho
    all_goals (
    go_wp2_with fail
    refine (sort_in w3 _ sa sn sc g0 p.left hl0 hl1).mono ?_;rintro e w4 ⟨rfl,rfl⟩;go_wp2_with fail
    all_goals (go_meet;exact ⟨rfl,rfl⟩))
   case rest =>
    obtain ⟨rfl,rfl⟩:=hcut;obtain ⟨pb,hpb⟩:∃ pb,wr.heap.size=pb:=⟨_,rfl⟩;have hbw3:=HR.out.2.1.trans (HQ.out.2.1.mono HR.out.2.1.size);rw [hpb] at HQ x0 x1 x3 ⊢;clear hbare hone hl0 hl1 o1 o2 o3 o4 o5 x2 x4 x5 x6 hsl;go_wp2_with fail
    rename_i K8 hK8
    have HK8:=Hd hK8;clear hK8;have hr30:p.right.length<=30:=HR.out.2.2.2.2.right
    go_loopg [69] p.right.length (fun m v69 wx=>∃ (k:Nat),k<=p.right.length /\ m=p.right.length - k /\ v69=.int .i64 k /\ Below w.heap.size w wx /\ Blk wx w.heap.size 27 #[.slice sa sn sc,.slice (some ⟨b,o,none⟩) g.prods.length pc,.int .i64 g.start,fv,lv] /\ ∃ y4 y5 y6 y2,Blk wx pb 53 #[.int .i64 p.left,.slice ra p.right.length rc,y2,.int .i64 p.role,y4,y5,y6])
    case atStart=>exact ⟨0,by omega,rfl,rfl,hbw3,HQ.out.2.2,_,_,_,_,HQ.out.1⟩
    case round =>
     obtain ⟨k,hk,hm,rfl,hb,hB,y4,y5,y6,y2,hP⟩:=hrel;have g0:=hB.cell 0;have x3:=hP.cell 3;simp at g0 x3
     by_cases hkl:k<p.right.length
     ·obtain ⟨sy,hsy⟩:∃ sy,p.right[k]?=some sy:=⟨_,List.getElem?_eq_getElem hkl⟩
      obtain ⟨kg,ko,rfl,hkD,hkr⟩:=HR.out.2.2.2.1 (by rintro h;rw [h] at hkl;simp at hkl)
      have up:∀ {i:Nat} {u:Value},w.cell? ⟨kg,i,none⟩=some u->wr.cell? ⟨kg,i,none⟩=some u:=fun h=>(World.cell?_of_block (hb.block kg hkr.lt)).trans h
      have c0:=up (hkr.cells k _ hsy 0 _ rfl);have c1:=up (hkr.cells k _ hsy 1 _ rfl);have c2:=up (hkr.cells k _ hsy 2 _ rfl);have c3:=up (hkr.cells k _ hsy 3 _ rfl);have c4:=up (hkr.cells k _ hsy 4 _ rfl);have c5:=up (hkr.cells k _ hsy 5 _ rfl);simp only [Nat.add_zero] at c0;have hk0:(0:Int)<=(k:Int):=by omega
      have hk1:(k:Int)<(p.right.length:Int):=by omega
      have hss:=HR.out.2.2.2.2.sym sy (List.mem_of_getElem? hsy);have HS:=Hd (An hm (An hb (An hB hP)));clear hm hb hB hP up hkr hsy
      rcases hss with ⟨s1,s2,s3,s4⟩ | ⟨s1,s2,s3,s4,s5⟩
      ·have hz:¬ (wd sy.set 0=0 /\ wd sy.set 1=0 /\ wd sy.set 2=0 /\ wd sy.set 3=0):=fun h=>s3 ((wd_zero_iff _ s4).1 h)
       rw [s1] at c0;rw [s2] at c5;go_wp2_with fail
       have hbW:=(Below.refl wr.heap.size wr).alloc (Nat.le_refl _) (.cells #[.int .i64 0,.int .u64 (wd sy.set 0),.int .u64 (wd sy.set 1),.int .u64 (wd sy.set 2),.int .u64 (wd sy.set 3),.int .i64 0] 49);have hbb:=HS.out.2.1.trans (hbW.mono HS.out.2.1.size)
       go_roundg (p.right.length - (k+1))
       case measure=>have:=HS.out.1;omega
       case rel=>exact ⟨k+1,by omega,rfl,rfl,hbb,HS.out.2.2.1.alloc _,_,_,_,_,HS.out.2.2.2.alloc _⟩
      ·rw [s1] at c0
       rw [s2] at c1 c2 c3 c4;have hw0:wd 0 0=0 /\ wd 0 1=0 /\ wd 0 2=0 /\ wd 0 3=0:=by simp [wd]
       rw [hw0.1] at c1;rw [hw0.2.1] at c2;rw [hw0.2.2.1] at c3;rw [hw0.2.2.2] at c4;have hrl:¬ p.role=11:=s5;go_wp2_with fail
       have hbW:=(Below.refl wr.heap.size wr).alloc (Nat.le_refl _) (.cells #[.int .i64 1,.int .u64 0,.int .u64 0,.int .u64 0,.int .u64 0,.int .i64 sy.sort] 49);have hbb:=HS.out.2.1.trans (hbW.mono HS.out.2.1.size);have x3a:=cell_alloc_ x3 (.cells #[.int .i64 1,.int .u64 0,.int .u64 0,.int .u64 0,.int .u64 0,.int .i64 sy.sort] 49);refine (sort_in _ _ sa sn sc (cell_alloc_ g0 _) sy.sort s3 (by rw [HK.out.2.2];exact s4)).mono ?_
       rintro e w5 ⟨rfl,rfl⟩;go_wp2_with fail
       go_roundg (p.right.length - (k+1))
       case measure=>have:=HS.out.1;omega
       case rel=>exact ⟨k+1,by omega,rfl,rfl,hbb,HS.out.2.2.1.alloc _,_,_,_,_,HS.out.2.2.2.alloc _⟩
     ·obtain rfl:k=p.right.length:=by omega
      have HS:=Hd (An hm (An hb (An hB hP)));clear hm hb hB hP;go_wp2_with fail
      refine HK8.out _ _ ?_;go_wp2_with fail
      go_roundg (g.prods.length - (i+1))
      case measure=>have:=HR.out.1;omega
      case rel=>exact ⟨i+1,by omega,rfl,rfl,HS.out.2.1,HS.out.2.2.1⟩
  ·obtain rfl:i=g.prods.length:=by omega
   have HR:=Hd (An hb hB);clear hb hB;go_wp2_with fail
   go_ret
   exact ⟨by simp;omega,HR.out.1⟩
end Go.Proofs.YthiochcpmfkgcaaGreatDoor.Tb
namespace Go.Proofs.YthiochcpmfkgcaaGreatDoor.Tb
open Go Go.RowKit Go.Proofs Go.Maps Mx
theorem forbids_none (w:World) (sv pv lv:Value) (st:Int) (fa:Option Addr) (fc:Nat) :
  Calls Tryz.prog 79 #[.agg #[sv,pv,.int .i64 st,.slice fa 0 fc,lv]] w fun e w'=>e=.returned (.bool true) /\ Below w.heap.size w w':=by
 have hmm:=@run_makeMap Tryz.prog;have hmf:∀ (fn:Fn) (first cap:Array Value) (w:World),(Instr.makeFunc fn first cap).run Tryz.prog w=.ok (.func fn first cap) w:=fun _ _ _ _=>rfl
 have hb1:Below w.heap.size w ((w.alloc (.cells #[sv,pv,.int .i64 st,.slice fa 0 fc,lv] 27)).alloc (.map #[] 0)):=((Below.refl _ w).alloc (Nat.le_refl _) _).alloc (by simp) _
 have H1:=Hd hb1;clear hb1
 go_enter Tryz.func79,Tryz.ntmps79
 go_wp2_with fail
 generalize ((w.alloc (.cells #[sv,pv,.int .i64 st,.slice fa 0 fc,lv] 27)).alloc (.map #[] 0))=W1 at H1 ⊢
 go_loopg [13] 0 (fun m v wr=>v=.int .i64 0 /\ wr=W1)
 case atStart=>exact ⟨rfl,rfl⟩
 case round =>
  obtain ⟨rfl,rfl⟩:=hrel;go_wp2_with fail
  go_ret
  exact ⟨rfl,H1.out⟩
theorem follows_none (w:World) (sv pv fv:Value) (st:Int) (la:Option Addr) (lc:Nat) :
  Calls Tryz.prog 80 #[.agg #[sv,pv,.int .i64 st,fv,.slice la 0 lc]] w fun e w'=>e=.returned (.bool true) /\ Below w.heap.size w w':=by
 have hmm:=@run_makeMap Tryz.prog;have hmf:∀ (fn:Fn) (first cap:Array Value) (w:World),(Instr.makeFunc fn first cap).run Tryz.prog w=.ok (.func fn first cap) w:=fun _ _ _ _=>rfl
 have hb1:Below w.heap.size w ((w.alloc (.cells #[sv,pv,.int .i64 st,fv,.slice la 0 lc] 27)).alloc (.map #[] 0)):=((Below.refl _ w).alloc (Nat.le_refl _) _).alloc (by simp) _
 have H1:=Hd hb1;clear hb1
 go_enter Tryz.func80,Tryz.ntmps80
 go_wp2_with fail
 generalize ((w.alloc (.cells #[sv,pv,.int .i64 st,fv,.slice la 0 lc] 27)).alloc (.map #[] 0))=W1 at H1 ⊢
 go_loopg [10] 0 (fun m v wr=>v=.int .i64 0 /\ wr=W1)
 case atStart=>exact ⟨rfl,rfl⟩
 case round =>
  obtain ⟨rfl,rfl⟩:=hrel;go_wp2_with fail
  go_ret
  exact ⟨rfl,H1.out⟩
structure GrOk (g:Gr):Prop where
 sorts:SortsOk g
 few:g.prods.length<=1000
 prods:∀ p∈g.prods,PrOk g p
theorem check_none (D:Nat->Prop) (g:Gr) (hg:GrOk g) (w:World) (sv pv:Value) (fa la:Option Addr) (fc lc:Nat) (hs:SliceK D encS 1 w sv g.sorts) (hp:ProdsAt D w pv g.prods) :
  Calls Tryz.prog 61 #[.agg #[sv,pv,.int .i64 g.start,.slice fa 0 fc,.slice la 0 lc]] w fun e w'=>e=.returned (.int .i64 0) /\ Below w.heap.size w w':=by
 obtain ⟨sa,sc,rfl,_⟩:=id hs;obtain ⟨pa,pc,rfl⟩:∃ pa pc,pv=.slice pa g.prods.length pc:=by
  obtain ⟨l,hl,e⟩:=id hp;obtain ⟨pa,pc,e1,_⟩:=hl.row;exact ⟨pa,pc,by rw [e1,<- e,List.length_map]⟩
 have i0:∀ w,(Instr.index 156 (.agg #[.func (.func 77) #[] #[],.func (.func 78) #[] #[],.func (.func 79) #[] #[],.func (.func 80) #[] #[]]) (.int .i64 0)).run Tryz.prog w=.ok (.func (.func 77) #[] #[]) w:=fun _=>by kernel_rfl
 have i1:∀ w,(Instr.index 156 (.agg #[.func (.func 77) #[] #[],.func (.func 78) #[] #[],.func (.func 79) #[] #[],.func (.func 80) #[] #[]]) (.int .i64 1)).run Tryz.prog w=.ok (.func (.func 78) #[] #[]) w:=fun _=>by kernel_rfl
 have i2:∀ w,(Instr.index 156 (.agg #[.func (.func 77) #[] #[],.func (.func 78) #[] #[],.func (.func 79) #[] #[],.func (.func 80) #[] #[]]) (.int .i64 2)).run Tryz.prog w=.ok (.func (.func 79) #[] #[]) w:=fun _=>by kernel_rfl
 have i3:∀ w,(Instr.index 156 (.agg #[.func (.func 77) #[] #[],.func (.func 78) #[] #[],.func (.func 79) #[] #[],.func (.func 80) #[] #[]]) (.int .i64 3)).run Tryz.prog w=.ok (.func (.func 80) #[] #[]) w:=fun _=>by kernel_rfl
 have H:=Hd (An hs (An hp hg));clear hs hp hg
 go_enter Tryz.func61,Tryz.ntmps61
 go_wp2_with fail
 have hB1:Blk (w.alloc (.cells #[.slice sa g.sorts.length sc,.slice pa g.prods.length pc,.int .i64 g.start,.slice fa 0 fc,.slice la 0 lc] 27)) w.heap.size 27 #[.slice sa g.sorts.length sc,.slice pa g.prods.length pc,.int .i64 g.start,.slice fa 0 fc,.slice la 0 lc]:=Blk.new _ _ _;have hb1:Below w.heap.size w (w.alloc (.cells #[.slice sa g.sorts.length sc,.slice pa g.prods.length pc,.int .i64 g.start,.slice fa 0 fc,.slice la 0 lc] 27)):=(Below.refl _ w).alloc (Nat.le_refl _) _;generalize (w.alloc (.cells #[.slice sa g.sorts.length sc,.slice pa g.prods.length pc,.int .i64 g.start,.slice fa 0 fc,.slice la 0 lc] 27))=W1 at hB1 hb1 ⊢;have H1:=Hd (An hB1 hb1);clear hB1 hb1
 go_loopg [6] 4 (fun m v wr=>∃ i:Nat,i<=4 /\ m=4 - i /\ v=.int .i64 i /\ Blk wr w.heap.size 27 #[.slice sa g.sorts.length sc,.slice pa g.prods.length pc,.int .i64 g.start,.slice fa 0 fc,.slice la 0 lc] /\ Below w.heap.size w wr)
 case atStart=>exact ⟨0,by omega,rfl,rfl,H1.out.1,H1.out.2⟩
 case round =>
  obtain ⟨i,hi,hm,rfl,hB,hb⟩:=hrel;have f0:=hB.cell 0;have f1:=hB.cell 1;have f2:=hB.cell 2;have f3:=hB.cell 3;have f4:=hB.cell 4;simp at f0 f1 f2 f3 f4;have A:=Hd (An hm (An hB hb));clear hm hB hb
  rcases (show i=0∨i=1∨i=2∨i=3∨i=4 by omega) with rfl | rfl | rfl | rfl | rfl
  ·clear i1 i2 i3
   go_wp2_with fail
   refine (sorts_ok D g H.out.2.2.sorts wr _ _ _ _ (H.out.1.all A.out.2.2)).mono ?_;rintro e w2 ⟨rfl,hb2⟩;have A2:=Hd (An (A.out.2.1.below hb2 A.out.2.1.lt) (A.out.2.2.trans (hb2.mono A.out.2.2.size)));clear hb2;go_wp2_with fail
   go_roundg 3
   case measure=>have:=A.out.1;omega
   case rel=>exact ⟨1,by omega,rfl,rfl,A2.out.1,A2.out.2⟩
  ·clear i0 i2 i3
   go_wp2_with fail
   refine (prods_ok D g H.out.2.2.few H.out.2.2.prods wr _ _ _ rfl _ _ _ (H.out.2.1.keep fun q hq hl=>⟨hq,A.out.2.2.block q hl⟩) ⟨_,_,rfl⟩).mono ?_
   rintro e w2 ⟨rfl,hb2⟩;have A2:=Hd (An (A.out.2.1.below hb2 A.out.2.1.lt) (A.out.2.2.trans (hb2.mono A.out.2.2.size)));clear hb2;go_wp2_with fail
   go_roundg 2
   case measure=>have:=A.out.1;omega
   case rel=>exact ⟨2,by omega,rfl,rfl,A2.out.1,A2.out.2⟩
  ·clear i0 i1 i3
   go_wp2_with fail
   refine (forbids_none _ _ _ _ _ _ _).mono ?_;rintro e w2 ⟨rfl,hb2⟩;have A2:=Hd (An (A.out.2.1.below hb2 A.out.2.1.lt) (A.out.2.2.trans (hb2.mono A.out.2.2.size)));clear hb2;go_wp2_with fail
   go_roundg 1
   case measure=>have:=A.out.1;omega
   case rel=>exact ⟨3,by omega,rfl,rfl,A2.out.1,A2.out.2⟩
  ·clear i0 i1 i2
   go_wp2_with fail
   refine (follows_none _ _ _ _ _ _ _).mono ?_;rintro e w2 ⟨rfl,hb2⟩;have A2:=Hd (An (A.out.2.1.below hb2 A.out.2.1.lt) (A.out.2.2.trans (hb2.mono A.out.2.2.size)));clear hb2;go_wp2_with fail
   go_roundg 0
   case measure=>have:=A.out.1;omega
   case rel=>exact ⟨4,by omega,rfl,rfl,A2.out.1,A2.out.2⟩
  ·clear i0 i1 i2 i3
   go_wp2_with fail
   go_ret
   exact ⟨rfl,A.out.2.2⟩
end Go.Proofs.YthiochcpmfkgcaaGreatDoor.Tb
