/- Walks and plain laws that the last text stands on: GlRunA, GlPartA, GlPartB, GlFew, GlBoundA, GlSame. -/
import Derived.Test.YthiochcpmfkgcaaGreatDoorBo21
import Derived.Test.YthiochcpmfkgcaaGreatDoorBo23
import Derived.Test.YthiochcpmfkgcaaGreatDoorBo15
import Derived.Test.YthiochcpmfkgcaaGreatDoorBo18
import Derived.Test.YthiochcpmfkgcaaGreatDoorBo24
set_option linter.unusedVariables false
set_option linter.unusedSimpArgs false
set_option maxRecDepth 100000
set_option maxHeartbeats 16000000
namespace Go.Proofs.YthiochcpmfkgcaaGreatDoor.Gl
open Go Go.RowKit Go.Proofs Go.Maps Go.WideMaps Mx Tb
def TyB (t:TypeId) (w:World) (b:Nat):Prop:=∃ c fz,w.heap[b]?=some (.cells c t fz)
structure AltsAt (left:Nat->Int) (va:Al->Value) (A:List Al) (v:Value) (W:World):Prop where
 row:SliceK (TyB 59 W) (encAl left va) 5 W v A
 cuts:∀ x∈A,SliceK (TyB 3 W) encN 1 W (va x) x.cuts
structure RA where
 err:Int
 steps:Int
 far:Int
 next:Nat
 alts:List Al
def runF (left:Nat->Int) (g:Gr) (txt:List UInt8) (bud:Int):RA :=
 match wholeF g txt bud with
 | (n,none)=>⟨n,0,0,0,[]⟩
 | (n,some (l,r))=>⟨n,(r.edges.length:Int)+(r.alts.length:Int),(farF r:Int),nextL l (rowF r (farF r)),sortAl left r.alts⟩
theorem runall_any (g:Gr) (p:RP) (bud:Int) (w:World) (h:GrW g p w) (hL:Lim g p.txt bud) (left:Nat->Int) (hleft:∀ l,(tabF g l).left=left) :
  Calls Tryz.prog 11 #[.agg #[p.sv,p.pv,.int .i64 p.st,p.fv,p.lv],.string ⟨p.txt.toArray⟩,.int .i64 bud] w fun e w'=>∃ va a c,e=.returned (.tuple #[.agg (waysC (.slice a (runF left g p.txt bud).alts.length c) (runF left g p.txt bud).steps (runF left g p.txt bud).far (runF left g p.txt bud).next),.int .i64 (runF left g p.txt bud).err]) /\ AltsAt left va (runF left g p.txt bud).alts (.slice a (runF left g p.txt bud).alts.length c) w' /\ Below w.heap.size w w':=by
 refine (run_any g p bud w h hL left hleft).mono ?_;intro e w' hR;unfold runF
 cases hw:wholeF g p.txt bud with
 | mk n o =>
  rw [hw] at hR
  cases o with
  | none =>
   obtain ⟨rfl,hb⟩:=hR;exact ⟨fun _=>undef,none,0,rfl,⟨⟨none,0,rfl,Nat.le_refl _,by decide,fun hne=>absurd rfl hne⟩,fun x hx=>by cases hx⟩,hb⟩
  | some lr =>
   obtain ⟨l,r⟩:=lr;obtain ⟨v,va,rfl,h1,h2,hb⟩:=hR;obtain ⟨a,c,rfl⟩:=own_shape h1;have hs:=own_sliceT (enc:=encAl left va) (k:=5) (fun x=>encAl_len left va x) h1
   exact ⟨va,a,c,rfl,⟨hs.imp fun b h1 h2=>by first | exact h1.2 | exact h2.2,fun x hx=>h2 x ((sortAl_perm left r.alts).mem_iff.1 hx)⟩,hb⟩
theorem whole_made {g:Gr} {txt:List UInt8} {bud:Int} (hc:chkN g=0) (hl:txt.length<=4096) (hb:0<=bud) :
  (makeF g=none /\ wholeF g txt bud=(3,none))∨∃ l,makeF g=some l /\ (wholeF g txt bud=(200,none)∨∃ r,wholeF g txt bud=(0,some (l,r))):=by
 cases hm:makeF g with
 | none =>
  refine .inl ⟨rfl,?_⟩;unfold wholeF askF;rw [if_pos hc,if_neg (by omega),hm]
 | some l =>
  refine .inr ⟨l,rfl,?_⟩
  cases hg:goneF (tabF g l) txt bud.toNat with
  | stop r =>
   refine .inl ?_;unfold wholeF askF;rw [if_pos hc,if_neg (by omega),hm]
   dsimp only;rw [if_neg (by omega),hg]
  | ok r =>
   refine .inr ⟨r,?_⟩;unfold wholeF askF;rw [if_pos hc,if_neg (by omega),hm]
   dsimp only;rw [if_neg (by omega),hg]
def fewB (g:Gr) (n:Nat):Bool :=
 decide (g.sorts.length<=12)&&decide (g.prods.length<=25)&&decide (n<=8)&&decide (g.forbid.length<=30)&&decide (g.follow.length<=12)&&g.prods.all (fun p=>decide (p.right.length<=5))
structure FewG (g:Gr):Prop where
 sorts:g.sorts.length<=12
 prods:g.prods.length<=25
 forbid:g.forbid.length<=30
 follow:g.follow.length<=12
 right:∀ p∈g.prods,p.right.length<=5
theorem few_iff {g:Gr} {n:Nat}:fewB g n=true↔FewG g /\ n<=8:=by
 unfold fewB;simp only [Bool.and_eq_true,decide_eq_true_eq,List.all_eq_true]
 constructor
 ·rintro ⟨⟨⟨⟨⟨h1,h2⟩,h3⟩,h4⟩,h5⟩,h6⟩
  exact ⟨⟨h1,h2,h4,h5,h6⟩,h3⟩
 ·rintro ⟨⟨h1,h2,h4,h5,h6⟩,h3⟩
  exact ⟨⟨⟨⟨⟨h1,h2⟩,h3⟩,h4⟩,h5⟩,h6⟩
theorem few_no {g:Gr} {n:Nat} (h:12<g.sorts.length∨25<g.prods.length∨8<n∨30<g.forbid.length∨12<g.follow.length∨∃ p∈g.prods,5<p.right.length):false=fewB g n:=by
 cases hf:fewB g n with
 | false=>rfl
 | true =>
  obtain ⟨h1,h2⟩:=few_iff.1 hf;have:=h1.sorts;have:=h1.prods;have:=h1.forbid;have:=h1.follow
  rcases h with h | h | h | h | h | ⟨p,hp,h⟩
  ·omega
  ·omega
  ·omega
  ·omega
  ·omega
  ·have:=h1.right p hp;omega
theorem few_any (g:Gr) (N:Nat) (hN:N<=2000000) (w:World) (sv pv fv lv:Value) (hG:GramAt w N g sv pv fv lv) (tb:ByteArray) (htb:tb.size<=2000000) :
  Calls Tryz.prog 9 #[.agg #[sv,pv,.int .i64 g.start,fv,lv],.string tb] w fun e w'=>e=.returned (.bool (fewB g tb.size)) /\ Below w.heap.size w w':=by
 obtain ⟨sa,sc,rfl⟩:=slice_shape hG.sorts;obtain ⟨pa,pc,rfl⟩:=prodsAt_shape hG.prodsAt;obtain ⟨fa,fc,rfl⟩:=slice_shape hG.forbid;obtain ⟨la,lc,rfl⟩:=slice_shape hG.follow;have n1:=hG.nsorts;have n2:=hG.nprods;have n3:=hG.nforbid;have n4:=hG.nfollow;have H:=Hd (An hG.prodsAt hG.ok);clear hG
 go_enter Tryz.func9,Tryz.ntmps9
 have hbl:=(Below.refl w.heap.size w).alloc (Nat.le_refl _) (.cells #[.slice sa g.sorts.length sc,.slice pa g.prods.length pc,.int .i64 g.start,.slice fa g.forbid.length fc,.slice la g.follow.length lc] 27);have HB:=Hd hbl
 by_cases c1:12<g.sorts.length
 ·have d1:(12:Int)<(g.sorts.length:Int):=by omega
  have HV:=Hd (few_no (n:=tb.size) (.inl c1));clear c1 hbl;go_wp2_with fail
  go_ret
  exact ⟨ret_bool HV.out,HB.out⟩
 have d1:¬ (12:Int)<(g.sorts.length:Int):=by omega
 by_cases c2:25<g.prods.length
 ·have d2:(25:Int)<(g.prods.length:Int):=by omega
  have HV:=Hd (few_no (n:=tb.size) (.inr (.inl c2)));clear c1 c2 hbl;go_wp2_with fail
  go_ret
  exact ⟨ret_bool HV.out,HB.out⟩
 have d2:¬ (25:Int)<(g.prods.length:Int):=by omega
 by_cases c5:8<tb.size
 ·have d5:(8:Int)<(tb.size:Int):=by omega
  have HV:=Hd (few_no (g:=g) (.inr (.inr (.inl c5))));clear c1 c2 c5 hbl;go_wp2_with fail
  go_ret
  exact ⟨ret_bool HV.out,HB.out⟩
 have d5:¬ (8:Int)<(tb.size:Int):=by omega
 by_cases c3:30<g.forbid.length
 ·have d3:(30:Int)<(g.forbid.length:Int):=by omega
  have HV:=Hd (few_no (n:=tb.size) (.inr (.inr (.inr (.inl c3)))));clear c1 c2 c3 c5 hbl;go_wp2_with fail
  go_ret
  exact ⟨ret_bool HV.out,HB.out⟩
 have d3:¬ (30:Int)<(g.forbid.length:Int):=by omega
 by_cases c4:12<g.follow.length
 ·have d4:(12:Int)<(g.follow.length:Int):=by omega
  have HV:=Hd (few_no (n:=tb.size) (.inr (.inr (.inr (.inr (.inl c4))))));clear c1 c2 c3 c4 c5 hbl;go_wp2_with fail
  go_ret
  exact ⟨ret_bool HV.out,HB.out⟩
 have d4:¬ (12:Int)<(g.follow.length:Int):=by omega
 have HC:=Hd (An c1 (An c2 (An c3 (An c4 c5))));have hp25:g.prods.length<=25:=by omega
 clear c1 c2 c3 c4 c5;go_wp2_with fail
 clear d1 d2 d3 d4 d5 n1 n3 n4;have hB1:Blk (w.alloc (.cells #[.slice sa g.sorts.length sc,.slice pa g.prods.length pc,.int .i64 g.start,.slice fa g.forbid.length fc,.slice la g.follow.length lc] 27)) w.heap.size 27 #[.slice sa g.sorts.length sc,.slice pa g.prods.length pc,.int .i64 g.start,.slice fa g.forbid.length fc,.slice la g.follow.length lc]:=Blk.new _ _ _;generalize (w.alloc (.cells #[.slice sa g.sorts.length sc,.slice pa g.prods.length pc,.int .i64 g.start,.slice fa g.forbid.length fc,.slice la g.follow.length lc] 27))=W1 at hB1 hbl HB ⊢;clear hbl;have q1:=hB1.cell 1;simp at q1
 go_loopg [5] g.prods.length (fun m v5 wr=>∃ i:Nat,i<=g.prods.length /\ m=g.prods.length - i /\ v5=.int .i64 i /\ (∀ p∈g.prods.take i,p.right.length<=5) /\ wr=W1)
 case atStart=>exact ⟨0,Nat.zero_le _,rfl,rfl,by simp,rfl⟩
 case round =>
  obtain ⟨i,hi,hm,rfl,hcons,rfl⟩:=hrel
  by_cases hlt:i<g.prods.length
  ·obtain ⟨p,hp⟩:∃ p,g.prods[i]?=some p:=⟨_,List.getElem?_eq_getElem hlt⟩
   obtain ⟨cap,b,o,vr,epv,hbl,hvr,hpc⟩:=H.out.1.at_ hp;injection epv with e1 e2 e3;subst e1;subst e3;obtain ⟨ra,rc,rfl,_,_,_⟩:=hvr;have f1:=(World.cell?_of_block (HB.out.block b hbl)).trans (hpc 1 _ rfl);have hok:=H.out.2 p (List.mem_of_getElem? hp);have hr:=hok.1;have hi0:(0:Int)<=(i:Int):=by omega
   have hi1:(i:Int)<(g.prods.length:Int):=by omega
   have HS:=Hd (An hp (An hcons hm));clear hp hok hpc hcons hm
   by_cases hc:5<p.right.length
   ·have hd:(5:Int)<(p.right.length:Int):=by omega
    have HV:=Hd (few_no (g:=g) (n:=tb.size) (.inr (.inr (.inr (.inr (.inr ⟨p,List.mem_of_getElem? HS.out.1,hc⟩))))));clear hc;go_wp2_with fail
    go_ret
    exact ⟨ret_bool HV.out,HB.out⟩
   ·have hd:¬ (5:Int)<(p.right.length:Int):=by omega
    have HD:=Hd hc;clear hc;go_wp2_with fail
    go_roundg (g.prods.length - (i+1))
    case measure=>have:=HS.out.2.2;omega
    case rel =>
     refine ⟨i+1,by omega,rfl,rfl,?_,rfl⟩
     intro x hx;rw [List.take_add_one,HS.out.1] at hx
     rcases List.mem_append.1 hx with hx | hx
     ·exact HS.out.2.1 x hx
     ·simp at hx;subst hx;have:=HD.out;omega
  ·obtain rfl:i=g.prods.length:=by omega
   rw [List.take_length] at hcons;have hV:true=fewB g tb.size:=by
    symm
    have:=HC.out;exact few_iff.2 ⟨⟨by omega,by omega,by omega,by omega,hcons⟩,by omega⟩
   have HV:=Hd hV;clear hV hcons hm;go_wp2_with fail
   go_ret
   exact ⟨ret_bool HV.out,HB.out⟩
theorem good_few {g:Gr} {w:World} {N:Nat} {sv pv fv lv:Value} (hG:GramAt w N g sv pv fv lv) (hv:g.prods.length<=25) (hc:chkN g=0):Tb.Good g:=by
 have hck:checkB g=true:=by
  unfold chkN at hc
  split at hc
  ·assumption
  ·exact absurd hc (by decide)
 unfold checkB at hck;simp only [Bool.and_eq_true] at hck;obtain ⟨⟨⟨h1,h2⟩,h3⟩,h4⟩:=hck;have hs:=(sortsB_iff g).1 h1;unfold prodsB at h2;simp only [Bool.and_eq_true,List.all_eq_true] at h2;have hpr:∀ p∈g.prods,headB g p=true /\ ∀ s∈p.right,symB g p.role s=true:=fun p hp=>by
  have:=h2.1 p hp;unfold prodB at this;simp only [Bool.and_eq_true,List.all_eq_true] at this;exact this
 refine ⟨by omega,hs.many,hs.start,fun p hp=>?_,fun p hp=>?_,fun p hp s hsm=>?_⟩
 ·have h:=(hpr p hp).1
  unfold headB inB at h;simp at h;exact h.1.1.1.1.1.1.1
 ·have h:=(hpr p hp).1
  unfold headB inB at h;simp at h;have:=h.1.1.1.1.1.1.2;omega
 ·have h:=(hpr p hp).2 s hsm
  have hok:=((hG.ok p hp).2.2.1 s hsm)
  rcases sym_arms g p.role s with ⟨hh,_⟩ | ⟨hh,_⟩ | ⟨hh,a,b,c⟩ | ⟨hh,_⟩ | ⟨hh,_⟩ | ⟨hh,_⟩ | ⟨hh,a,b,c,d⟩ | ⟨hh,_⟩
  all_goals first | (rw [h] at hh;cases hh;done) | skip
  ·exact .inl ⟨a,c,b,hok.1⟩
  ·unfold inB at c
   simp at c;exact .inr ⟨a,b,c.1,c.2⟩
theorem grw_few {g:Gr} {w:World} {N:Nat} {sv pv fv lv:Value} (hN:N<=2000000) (hG:GramAt w N g sv pv fv lv) (hv:g.prods.length<=25) (he:EnvG w) (txt:List UInt8) (ht:txt.length<=100000) :
  GrW g ⟨sv,pv,g.start,fv,lv,.pointer none,txt⟩ w:=by
 obtain ⟨fa,fc,rfl⟩:=slice_shape hG.forbid;obtain ⟨la,lc,rfl⟩:=slice_shape hG.follow;exact ⟨rfl,hG.sorts,hG.prodsAt,⟨_,_,_,rfl⟩,⟨_,_,_,rfl⟩,fun hc=>good_few hG hv hc,he,fun W hW=>check_any g N hN W sv pv _ _ (hG.keep hW),ht⟩
theorem lim_small {g:Gr} (hF:FewG g) {txt:List UInt8} {bud:Int} (ht:txt.length<=20) (hb:bud<=20000):Lim g txt bud:=lim_few hF.prods hF.right ht hb
theorem leads_few:∀ (l:List St),(∀ s∈l,s.edges.length<=2000)->leadsN l<=2000 * l.length
 | [],_=>by simp [leadsN]
 | s::t,h=>by
  have h1:=h s (by simp)
  have h2:=leads_few t fun x hx=>h x (by simp [hx])
  unfold leadsN at h2 ⊢;simp only [List.map_cons,List.sum_cons,List.length_cons];omega
theorem bound_law {g:Gr} {txt:List UInt8} (hF:FewG g) (hG:chkN g=0->Tb.Good g) (hl:txt.length<=8) (n:Int) (left:Nat->Int) :
  (chkN g=160 /\ boundR g (txt.length:Int)=(0,160) /\ boundR g n=(0,160)) ∨
  (chkN g=0 /\ (makeF g).isNone=true /\ boundR g (txt.length:Int)=(0,3) /\ boundR g n=(0,3)) ∨
  (chkN g=0 /\ (makeF g).isNone=false /\ ∃ b c:Nat,boundR g (txt.length:Int)=((b:Int),0) /\ boundR g ((txt.length:Int)+1)=((c:Int),0) /\ b<=c /\ b<=4611686018427387904 /\ (boundR g n).2=(if n<0∨4096<n then 2 else 0) /\
   (20000<b->((runF left g txt 20000).err=200∨((runF left g txt 20000).err=0 /\ (runF left g txt 20000).steps<=(b:Int)))) /\
   (b<=20000->(runF left g txt (b:Int)).err=0 /\ (runF left g txt (b:Int)).steps<=(b:Int))):=by
 rcases Or.symm (chk_two g) with hc | hc
 ·have ha:askF g []=(160,none):=by unfold askF;rw [if_neg (by rw [hc];decide)]
  exact .inl ⟨hc,by unfold boundR;rw [ha],by unfold boundR;rw [ha]⟩
 cases hm:makeF g with
 | none =>
  have ha:askF g []=(3,none):=by unfold askF;rw [if_pos hc,if_neg (by simp),hm]
  exact .inr (.inl ⟨hc,rfl,by unfold boundR;rw [ha],by unfold boundR;rw [ha]⟩)
 | some l =>
  have ha:askF g []=(0,some l):=by unfold askF;rw [if_pos hc,if_neg (by simp),hm]
  have hgd:=hG hc;have hml:=Tb.makeF_law hm;have hls:leadsN l<=2147483648:=by
   have h1:=leads_few l fun s hs=>gedges hgd hml hs
   have h2:=made_many hm;omega
  obtain ⟨e1,e2⟩:=boundI_small (n:=txt.length) (by omega) hF.prods hF.right hls
  obtain ⟨e3,_⟩:=boundI_small (n:=txt.length+1) (by omega) hF.prods hF.right hls
  refine .inr (.inr ⟨hc,rfl,boundN g l txt.length,boundN g l (txt.length+1),?_,?_,bound_mono g l (by omega),e2,?_,fun hb=>?_,fun hb=>?_⟩)
  ·unfold boundR
   rw [ha];dsimp only;rw [if_neg (by omega),Int.toNat_natCast,e1]
  ·unfold boundR
   rw [ha];dsimp only;rw [if_neg (by omega),show ((txt.length:Int)+1).toNat=txt.length+1 by omega,e3]
  ·unfold boundR
   rw [ha];dsimp only
   split <;> rfl
  ·rcases whole_made (txt:=txt) (bud:=20000) hc (by omega) (by decide) with ⟨h1,_⟩ | ⟨l',h1,h2 | ⟨r,h2⟩⟩
   ·rw [hm] at h1;cases h1
   ·exact .inl (by unfold runF;rw [h2])
   ·refine .inr ?_
    obtain ⟨_,_,_,_,_,hgo⟩:=whole_ok h2;dsimp only at hgo;obtain ⟨_,hs⟩:=ended hgo;unfold runF;rw [h2];refine ⟨rfl,?_⟩
    show (r.edges.length:Int)+(r.alts.length:Int)<=_
    unfold stepsF at hs;omega
  ·obtain ⟨r,h1,h2⟩:=bound_run (gsets hgd).1 hml txt (B:=boundN g l txt.length) (Nat.le_refl _)
   have h3:wholeF g txt ((boundN g l txt.length:Nat):Int)=(0,some (l,r)):=by
    unfold wholeF askF;rw [if_pos hc,if_neg (by omega),hm]
    dsimp only;rw [if_neg (by omega),Int.toNat_natCast,h1]
   unfold runF;rw [h3];refine ⟨rfl,?_⟩
   show (r.edges.length:Int)+(r.alts.length:Int)<=_
   omega
theorem many_any (g:Gr) (p:RP) (w:World) (h:GrW g p w) (hc:chkN g=0) :
  Calls Tryz.prog 13 #[.agg #[p.sv,p.pv,.int .i64 p.st,p.fv,p.lv]] w fun e w'=>e=.returned (.bool (makeF g).isNone) /\ Below w.heap.size w w':=by
 obtain ⟨fa,fn,fc,hf⟩:=h.fv;obtain ⟨la,ln,lc,hl⟩:=h.lv;have hck:=h.chk;have hst:=h.start;rw [hst,hf,hl] at hck ⊢;have hb0:=(Below.refl w.heap.size w).alloc (Nat.le_refl _) (.cells #[p.sv,p.pv,.int .i64 g.start,.slice fa fn fc,.slice la ln lc] 27);have HH:=Hd (An h (An hck (An hb0 hc)));clear h hck hf hl hst hb0 hc
 go_enter Tryz.func13,Tryz.ntmps13
 go_wp2_with fail
 have hw1:=HH.out.1.below HH.out.2.2.1;refine (make_any (fun _=>True) g (HH.out.1.good HH.out.2.2.2) _ p.sv p.pv fa la fn fc ln lc hw1.sorts hw1.prods (fun W hW=>by
  have h1:=HH.out.2.1 W (HH.out.2.2.1.trans (hW.mono HH.out.2.2.1.size));rw [HH.out.2.2.2] at h1;exact h1) hw1.env.bru (Nat.le_trans (by decide) hw1.env.big)).mono ?_
 rintro e w2 hT;clear hw1
 rcases hT with ⟨tb',B,sm,hmk,rfl,hTW,hnx,hb3⟩ | ⟨hmk,rfl,hb3⟩
 ·have HF:=Hd (An hb3 hmk)
  clear hTW hnx hb3 hmk;go_wp2_with fail
  go_ret
  exact ⟨by rw [HF.out.2];rfl,HH.out.2.2.1.trans (HF.out.1.mono HH.out.2.2.1.size)⟩
 ·have HF:=Hd (An hb3 hmk)
  clear hb3 hmk;go_wp2_with fail
  go_ret
  exact ⟨by rw [HF.out.2];rfl,HH.out.2.2.1.trans (HF.out.1.mono HH.out.2.2.1.size)⟩
end Go.Proofs.YthiochcpmfkgcaaGreatDoor.Gl
