/- Walks and plain laws that the last text stands on: TbChkF, TbChkB, TbChkG, TbChkC. -/
import Derived.Test.YthiochcpmfkgcaaGreatDoorSo17
set_option linter.unusedVariables false
set_option linter.unusedSimpArgs false
set_option maxRecDepth 100000
set_option maxHeartbeats 16000000
namespace Go.Proofs.YthiochcpmfkgcaaGreatDoor.Tb
open Go Go.RowKit Go.Proofs Go.Maps Mx
attribute [local go_sem] eqSet
def followsB (g:Gr):Bool:=decide (g.follow.map (·.1)).Nodup&&g.follow.all (fun f=>inB g f.1&&!decide (f.2=0))
theorem followsB_no {g:Gr} {f:Int × Nat} (hm:f∈g.follow) (h:inB g f.1=false∨f.2=0):followsB g=false:=by
 unfold followsB
 cases h2:g.follow.all (fun f=>inB g f.1&&!decide (f.2=0)) with
 | false=>simp
 | true =>
  have h1:=List.all_eq_true.1 h2 f hm
  rcases h with h | h
  ·rw [h] at h1;exact absurd h1 (by simp)
  ·rw [h] at h1;exact absurd h1 (by simp)
theorem nodup_again {α:Type} [DecidableEq α] {l:List α} {i:Nat} {x:α} (hx:l[i]?=some x) (h:x∈l.take i):¬ l.Nodup:=fun hn=>by
 obtain ⟨hi,e2⟩:=gS.1 hx;obtain ⟨j,hj,e⟩:=List.getElem_of_mem h;have hji:j<i:=by rw [List.length_take] at hj;omega
 rw [List.getElem_take] at e;have h1:=List.pairwise_iff_getElem.1 hn j i (by omega) hi hji;rw [e,e2] at h1;exact h1 rfl
theorem i64_lit {s:Int} (h:I64 s):(Lit.int .i64 s).wf=true:=by
 unfold I64 at h;simp [Lit.wf,IntKind.min,IntKind.max,IntKind.bits,IntKind.signed];omega
theorem follows_any (D:Nat->Prop) (g:Gr) (hN:g.follow.length<=2000000) (hsl:g.sorts.length<=2000000) (hF:∀ f∈g.follow,FoOk f) (w:World) (sa:Option Addr) (sn sc:Nat) (hsn:sn=g.sorts.length) (pv fv lv:Value) (hs:SliceK D encFo 5 w lv g.follow) :
  Calls Tryz.prog 80 #[.agg #[.slice sa sn sc,pv,.int .i64 g.start,fv,lv]] w fun e w'=>e=.returned (.bool (followsB g)) /\ Below w.heap.size w w':=by
 obtain ⟨a,c,rfl,hc1,hc2,hk⟩:=hs;have hmm:=@run_makeMap Tryz.prog;have HK:=Z3.mk hk hF hsn;clear hk hF hsn;go_enter Tryz.func80,Tryz.ntmps80;go_wp2_with fail
 have hB1:Blk ((w.alloc (.cells #[.slice sa sn sc,pv,.int .i64 g.start,fv,.slice a g.follow.length c] 27)).alloc (.map #[] 0)) w.heap.size 27 #[.slice sa sn sc,pv,.int .i64 g.start,fv,.slice a g.follow.length c]:=(Blk.new _ _ _).alloc _;have hM1:MapV Tryz.prog 3 ((w.alloc (.cells #[.slice sa sn sc,pv,.int .i64 g.start,fv,.slice a g.follow.length c] 27)).alloc (.map #[] 0)) (w.heap.size+1) 0 (fun _=>none):=by
  have:=MapV.made (w.alloc (.cells #[.slice sa sn sc,pv,.int .i64 g.start,fv,.slice a g.follow.length c] 27)) Tryz.prog 3
  simpa using this
 have hb1:Below w.heap.size w ((w.alloc (.cells #[.slice sa sn sc,pv,.int .i64 g.start,fv,.slice a g.follow.length c] 27)).alloc (.map #[] 0)):=((bR _ w).alloc (nR _) _).alloc (by simp) _;have hz1:w.heap.size+2<=((w.alloc (.cells #[.slice sa sn sc,pv,.int .i64 g.start,fv,.slice a g.follow.length c] 27)).alloc (.map #[] 0)).heap.size:=by simp
 generalize (w.alloc (.cells #[.slice sa sn sc,pv,.int .i64 g.start,fv,.slice a g.follow.length c] 27)).alloc (.map #[] 0)=W1 at hB1 hM1 hb1 hz1 ⊢;have H1:=Z4.mk hB1 hM1 hb1 hz1;clear hB1 hM1 hb1 hz1
 go_loopg [10] g.follow.length (fun m v10 wr=>∃ (i:Nat) (f:Lit->Option Value),i<=g.follow.length /\ m=g.follow.length - i /\ v10=.int .i64 i /\ MapV Tryz.prog 3 wr (w.heap.size+1) i f /\
  (∀ s,f (.int .i64 s)=if s∈(g.follow.map (·.1)).take i then some (.int .i64 1) else none) /\ Below w.heap.size w wr /\ w.heap.size+2<=wr.heap.size /\ Blk wr w.heap.size 27 #[.slice sa sn sc,pv,.int .i64 g.start,fv,.slice a g.follow.length c] /\ ((g.follow.map (·.1)).take i).Nodup /\ ∀ s∈g.follow.take i,(inB g s.1&&!decide (s.2=0))=true)
 case atStart=>exact ⟨0,_,by omega,rfl,rfl,H1.o2,(fun s=>by simp),H1.o3,H1.o4,H1.o1,by simp,by simp⟩
 case round =>
  obtain ⟨i,f,hi,hm,rfl,hM,hf,hb,hz,hB,hnd,heach⟩:=hrel;have q0:=hB.cell 0;have q4:=hB.cell 4;simp at q0 q4
  by_cases hlt:i<g.follow.length
  ·obtain ⟨⟨s,M⟩,hsi⟩:∃ s,g.follow[i]?=some s:=⟨_,gE hlt⟩;obtain ⟨kg,ko,rfl,hkD,hkr⟩:=HK.o1 (by rintro h;rw [h] at hlt;simp at hlt);have up:∀ {i:Nat} {u:Value},w.cell? ⟨kg,i,none⟩=some u->wr.cell? ⟨kg,i,none⟩=some u:=fun h=>(wB (hb.block kg hkr.lt)).trans h;have k0:=up (hkr.cells i _ hsi 0 _ rfl);have k1:=up (hkr.cells i _ hsi 1 _ rfl);have k2:=up (hkr.cells i _ hsi 2 _ rfl);have k3:=up (hkr.cells i _ hsi 3 _ rfl);have k4:=up (hkr.cells i _ hsi 4 _ rfl);simp only [Nat.add_zero] at k0;have hmem:=gM hsi;obtain ⟨hs64,hM256⟩:=HK.o2 _ hmem;have hsi1:(g.follow.map (·.1))[i]?=some s:=by rw [List.getElem?_map,hsi];rfl
   have hkey:keyOf Tryz.prog 3 (.int .i64 s)=some (.int .i64 s):=keyOf_int_mk Tryz.underlying3 (i64_lit hs64);obtain ⟨cn,hcn⟩:∃ cn:Nat,(if s∈(g.follow.map (·.1)).take i then some (Value.int .i64 1) else none).getD (.int .i64 0)=.int .i64 cn /\ (cn=0∨cn=1) /\ (cn=0↔s ∉ (g.follow.map (·.1)).take i):=by
    by_cases h:s∈(g.follow.map (·.1)).take i
    ·exact ⟨1,by rw [if_pos h];rfl,.inr rfl,by simp [h]⟩
    ·exact ⟨0,by rw [if_neg h];rfl,.inl rfl,by simp [h]⟩
   obtain ⟨hcv,hc01,hcm⟩:=hcn;have hlk:(Instr.lookup 116 (.map (some (w.heap.size+1))) (.int .i64 s) false).run Tryz.prog (wr.alloc (.cells #[.int .i64 s,.int .u64 (wd M 0),.int .u64 (wd M 1),.int .u64 (wd M 2),.int .u64 (wd M 3)] 97))=.ok (.int .i64 cn) (wr.alloc (.cells #[.int .i64 s,.int .u64 (wd M 0),.int .u64 (wd M 1),.int .u64 (wd M 2),.int .u64 (wd M 3)] 97)):=by
    have h1:=(hM.alloc (.cells #[.int .i64 s,.int .u64 (wd M 0),.int .u64 (wd M 1),.int .u64 (wd M 2),.int .u64 (wd M 3)] 97)).lookup (int_keyed Tryz.underlying3) Tryz.underlying116 (Tryz.zeroValue3 _) hkey;rw [hf,hcv] at h1;exact h1
   have hi0:(0:Int)<=i:=by omega
   have hi1:(i:Int)<g.follow.length:=by omega
   have hmx:i<maxLen:=by unfold maxLen;omega
   have hcn0:(0:Int)<=cn:=by omega
   have hcn1:(cn:Int)<=1:=by omega
   have hwz:wr.heap.size≠w.heap.size+1:=by omega
   have hwz0:w.heap.size<wr.heap.size:=by omega
   have HMv:=Hd (hM.alloc (.cells #[.int .i64 s,.int .u64 (wd M 0),.int .u64 (wd M 1),.int .u64 (wd M 2),.int .u64 (wd M 3)] 97));have hXn:Blk (wr.alloc (.cells #[.int .i64 s,.int .u64 (wd M 0),.int .u64 (wd M 1),.int .u64 (wd M 2),.int .u64 (wd M 3)] 97)) wr.heap.size 97 #[.int .i64 s,.int .u64 (wd M 0),.int .u64 (wd M 1),.int .u64 (wd M 2),.int .u64 (wd M 3)]:=Blk.new _ _ _;have hsz1:=hb.size;have hbW:=hb.trans (((bR wr.heap.size wr).alloc (nR _) (.cells #[.int .i64 s,.int .u64 (wd M 0),.int .u64 (wd M 1),.int .u64 (wd M 2),.int .u64 (wd M 3)] 97)).mono hb.size);have hBW:=hB.alloc (.cells #[.int .i64 s,.int .u64 (wd M 0),.int .u64 (wd M 1),.int .u64 (wd M 2),.int .u64 (wd M 3)] 97);have hzW:w.heap.size+2<=(wr.alloc (.cells #[.int .i64 s,.int .u64 (wd M 0),.int .u64 (wd M 1),.int .u64 (wd M 2),.int .u64 (wd M 3)] 97)).heap.size:=by simp;omega
   have hno:inB g s=false∨M=0->followsB g=false:=fun h=>followsB_no hmem h
   have hno2:s∈(g.follow.map (·.1)).take i->followsB g=false:=fun h=>by
    unfold followsB;rw [decide_eq_false (nodup_again hsi1 h)]
    rfl
   have HR:=Z13.mk hm hf hbW hBW hsi hcm hnd heach hno hno2 hsi1 hXn hzW;clear hm hf hb hB hsi hcv hcm hM hkr q0 hnd heach hno hno2 hsi1 hXn hmem hs64 hbW hBW hzW up;go_wp2_with (at_mapUpdate;refine wpList_mapUpdateV _ rfl _ _ _ 116 rfl 3 3 (int_keyed Tryz.underlying3) Tryz.underlying116 (w.heap.size+1) i f rfl ?_ hmx _ _ _ rfl rfl hkey ?_;exact HMv.out)
   intro w5 hm5 hg5;have hlk5:(Instr.lookup 116 (.map (some (w.heap.size+1))) (.int .i64 s) false).run Tryz.prog w5=.ok (.int .i64 ((cn:Int)+1)) w5:=by
    have h1:=hm5.lookup (int_keyed Tryz.underlying3) Tryz.underlying116 (Tryz.zeroValue3 w5) hkey;rw [putV_int,if_pos rfl] at h1;exact h1
   have hb5:Below w.heap.size w w5:=HR.o3.trans (below_of_grown hg5 HR.o3.size (Nat.le_succ _));have hB5:=HR.o4.grown hg5 (by simp);have hX5:=HR.o12.grown hg5 (by intro e;injection e with e;exact hwz e);have g0:=hB5.cell 0;have x0:=hX5.cell 0;have x1:=hX5.cell 1;have x2:=hX5.cell 2;have x3:=hX5.cell 3;have x4:=hX5.cell 4;simp at g0 x0 x1 x2 x3 x4;have hz5:w.heap.size+2<=w5.heap.size:=by have h1:=HR.o13;have h2:=hg5.size;omega
   have HS:=Z4.mk hm5 hb5 hB5 hz5;clear hm5 hb5 hB5 hg5 hlk hX5 hz5
   by_cases hcz:cn=0
   ·subst hcz;have hnm:=HR.o6.1 rfl
    by_cases c1:s<0
    ·have HV:=Hd (HR.o9 (.inl (decide_eq_false (by omega))));clear hnm;go_wp2_with fail
     go_ret;exact ⟨by rw [HV.out];rfl,HS.o2⟩
    ·by_cases c2:(sn:Int)<=s
     ·have HV:=Hd (HR.o9 (.inl (decide_eq_false (by rw [<- HK.o3];omega))));have d1:decide (s<0)=false:=decide_eq_false c1;clear hnm c1;go_wp2_with fail
      go_ret;exact ⟨by rw [HV.out];rfl,HS.o2⟩
     ·have d1:decide (s<0)=false:=decide_eq_false c1;have d2:decide ((sn:Int)<=s)=false:=decide_eq_false c2
      by_cases c3:M=0
      ·have HV:=Hd (HR.o9 (.inr c3));subst c3;have hw0:wd 0 0=0 /\ wd 0 1=0 /\ wd 0 2=0 /\ wd 0 3=0:=by simp [wd]
       rw [hw0.1] at x1;rw [hw0.2.1] at x2;rw [hw0.2.2.1] at x3;rw [hw0.2.2.2] at x4;clear hnm c1 c2;go_wp2_with fail
       go_ret;exact ⟨by rw [HV.out];rfl,HS.o2⟩
      ·have hz:¬ (wd M 0=0 /\ wd M 1=0 /\ wd M 2=0 /\ wd M 3=0):=fun h=>c3 ((wd_zero_iff _ hM256).1 h);have hin:inB g s=true:=decide_eq_true (by rw [<- HK.o3];omega);have HD:=Z3.mk hnm hin c3;clear hnm hin c1 c2 c3;go_wp2_with fail
       go_roundg (g.follow.length - (i+1))
       case measure=>have:=HR.o1;omega
       case rel =>
        have htk:(g.follow.map (·.1)).take (i+1)=(g.follow.map (·.1)).take i++[s]:=by rw [List.take_add_one,HR.o11];rfl
        refine ⟨i+1,_,by omega,rfl,rfl,HS.o1,fun t=>?_,HS.o2,HS.o4,HS.o3,?_,fun t ht=>?_⟩
        ·rw [putV_int,htk]
         by_cases e:t=s
         ·rw [if_pos e,if_pos (by simp [e])];rfl
         ·rw [if_neg e,HR.o2]
          by_cases e2:t∈(g.follow.map (·.1)).take i
          ·rw [if_pos e2,if_pos (List.mem_append_left _ e2)]
          ·rw [if_neg e2,if_neg (fun h=>(List.mem_append.1 h).elim e2 (fun h=>e (by simpa using h)))]
        ·rw [htk,List.nodup_append];exact ⟨HR.o7,by simp,fun a ha b hb=>by simp at hb;subst hb;exact fun e=>HD.o1 (e ▸ ha)⟩
        ·rw [List.take_add_one,HR.o5] at ht
         rcases List.mem_append.1 ht with ht | ht
         ·exact HR.o8 t ht
         ·simp at ht;subst ht;simp [HD.o2,HD.o3]
   ·have hmem:s∈(g.follow.map (·.1)).take i:=Classical.byContradiction fun h=>hcz (HR.o6.2 h);have HV:=Hd (HR.o10 hmem);have hc1:cn=1:=by omega
    subst hc1;clear hmem;go_wp2_with fail
    go_ret;exact ⟨by rw [HV.out];rfl,HS.o2⟩
  ·obtain rfl:i=g.follow.length:=by omega
   rw [show (g.follow.map (·.1)).take g.follow.length=g.follow.map (·.1) from by rw [List.take_of_length_le];simp] at hnd
   rw [List.take_length] at heach;have hv:followsB g=true:=by
    unfold followsB;rw [decide_eq_true hnd,List.all_eq_true.2 heach]
    rfl
   have HR:=Z2.mk hb hv;clear hb hB hM hf hm hnd heach hv;go_wp2_with fail
   go_ret;exact ⟨by rw [HR.o2];rfl,HR.o1⟩
end Go.Proofs.YthiochcpmfkgcaaGreatDoor.Tb
namespace Go.Proofs.YthiochcpmfkgcaaGreatDoor.Tb
open Go Go.RowKit Go.Proofs Go.Maps Go.WideMaps Mx
def prodAt (g:Gr) (n:Int):Option Pr:=if 0<=n then g.prods[n.toNat]? else none
def pB (g:Gr) (n:Int):Bool:=match prodAt g n with | some p=>!decide (p.role=11) | none=>false
def fbB (g:Gr) (f:Int × Int × Int):Bool :=
 match prodAt g f.1,prodAt g f.2.2 with
 | some p,some q=>!decide (p.role=11)&&!decide (q.role=11)&&!decide (f.2.1<1)&&!decide ((p.right.length:Int)<f.2.1) &&
  (match p.right[(f.2.1 - 1).toNat]? with | some s=>decide (s.kind=1)&&decide (s.sort=q.left) | none=>false)
 | _,_=>false
def forbidsB (g:Gr):Bool:=decide g.forbid.Nodup&&g.forbid.all (fbB g)
theorem forbidsB_no {g:Gr} {f:Int × Int × Int} (hm:f∈g.forbid) (h:fbB g f=false):forbidsB g=false:=by
 unfold forbidsB
 cases h2:g.forbid.all (fbB g) with
 | false=>simp
 | true =>
  have h1:=List.all_eq_true.1 h2 f hm;rw [h] at h1;exact absurd h1 (by simp)
theorem fb_arms (g:Gr) (f:Int × Int × Int) :
    (fbB g f=false /\ pB g f.1=false)∨(fbB g f=false /\ pB g f.1=true /\ pB g f.2.2=false) ∨
    (∃ n m p q,f.1=(n:Nat) /\ f.2.2=(m:Nat) /\ g.prods[n]?=some p /\ g.prods[m]?=some q /\ pB g f.1=true /\ pB g f.2.2=true /\
      ((fbB g f=false /\ f.2.1<1)∨(fbB g f=false /\ 1<=f.2.1 /\ (p.right.length:Int)<f.2.1) ∨
       (∃ k s,f.2.1=(k:Nat)+1 /\ p.right[k]?=some s /\ ((fbB g f=false /\ ¬ s.kind=1)∨(fbB g f=false /\ s.kind=1 /\ ¬ s.sort=q.left)∨(fbB g f=true /\ s.kind=1 /\ s.sort=q.left))))):=by
  obtain ⟨a,b,c⟩:=f
  cases h1:prodAt g a with
  | none=>left;simp [fbB,pB,h1]
  | some p =>
    cases h2:prodAt g c with
    | none =>
      by_cases hp:p.role=11
      · left;simp [fbB,pB,h1,h2,hp]
      · right;left;simp [fbB,pB,h1,h2,hp]
    | some q =>
      by_cases hp:p.role=11
      · left;simp [fbB,pB,h1,h2,hp]
      · by_cases hq:q.role=11
        · right;left;simp [fbB,pB,h1,h2,hp,hq]
        · right;right
          have ha:0<=a:=Classical.byContradiction fun h=>by rw [prodAt,if_neg h] at h1;cases h1
          have hc:0<=c:=Classical.byContradiction fun h=>by rw [prodAt,if_neg h] at h2;cases h2
          have e1:=h1;have e2:=h2;rw [prodAt,if_pos ha] at e1;rw [prodAt,if_pos hc] at e2;refine ⟨a.toNat,c.toNat,p,q,by simp;omega,by simp;omega,e1,e2,by simp [pB,h1,hp],by simp [pB,h2,hq],?_⟩
          by_cases hb:b<1
          · left;exact ⟨by simp [fbB,h1,h2,hb],hb⟩
          · by_cases hb2:(p.right.length:Int)<b
            · right;left;exact ⟨by simp [fbB,h1,h2,hb2],by simpa using hb,hb2⟩
            · right;right
              obtain ⟨k,rfl⟩:∃ k:Nat,b=k+1:=⟨(b - 1).toNat,by omega⟩;have hk:k<p.right.length:=by omega
              have hkk:((k:Int)+1 - 1).toNat=k:=by omega
              obtain ⟨s,hs⟩:∃ s,p.right[k]?=some s:=⟨_,gE hk⟩;refine ⟨k,s,rfl,hs,?_⟩;have hv:fbB g (a,(k:Int)+1,c)=(decide (s.kind=1)&&decide (s.sort=q.left)):=by
                unfold fbB;simp only [h1,h2,hkk,hs,decide_eq_false hp,decide_eq_false hq,decide_eq_false hb,decide_eq_false hb2]
                rfl
              by_cases k1:s.kind=1
              · by_cases k2:s.sort=q.left
                · right;right;exact ⟨by rw [hv,decide_eq_true k1,decide_eq_true k2];rfl,k1,k2⟩
                · right;left;exact ⟨by rw [hv,decide_eq_false k2,Bool.and_false],k1,k2⟩
              · left;exact ⟨by rw [hv,decide_eq_false k1,Bool.false_and],k1⟩
theorem fbLaw:KeyLaw Tryz.prog 95:=deep_law_laid laidOut (m:=2) (by omega) (of_decide_eq_true (by kernel_rfl)) (by kernel_rfl) (by kernel_rfl)
def keyB (f:Int × Int × Int):Lit:=.string (keyBytes [.int .i64 f.1,.int .i64 f.2.1,.int .i64 f.2.2])
theorem fbKeyType:Tryz.prog.keyType 95=true:=by kernel_rfl
theorem fbCells:Tryz.prog.cellsOf 95=3:=by kernel_rfl
theorem keyOf_fb (f:Int × Int × Int) (h:FbOk f):keyOf Tryz.prog 95 (.agg #[.int .i64 f.1,.int .i64 f.2.1,.int .i64 f.2.2])=some (keyB f):=by
 obtain ⟨m0,hm0⟩:=typesSize;unfold keyOf;simp only [Tryz.underlying95];rw [if_pos (by simp [fbKeyType,Value.formed,Tryz.underlying95,fbCells]),hm0];unfold Program.keyLits;simp only [Tryz.underlying95,Value.cells];rw [if_pos (by rw [fbCells];exact ⟨rfl,by kernel_rfl⟩)];have h0:=i64_lit h.1;have h1:=i64_lit h.2.1;have h2:=i64_lit h.2.2;simp [Program.keyLits,Tryz.underlying3,cwInt,h0,h1,h2,keyB]
theorem keyB_inj {x y:Int × Int × Int} (hx:FbOk x) (hy:FbOk y) (h:keyB x=keyB y):x=y:=by
 have h1:=fbLaw.inj (keyOf_fb x hx) (by rw [h];exact keyOf_fb y hy);injection h1 with h1;injection h1 with h1;simp at h1;exact Prod.ext h1.1 (Prod.ext h1.2.1 h1.2.2)
theorem fprod_any (D:Nat->Prop) (g:Gr) (hN:g.prods.length<=2000000) (w:World) (b:Nat) (pa:Option Addr) (pc:Nat) (h:w.cell? ⟨b,1,none⟩=some (.slice pa g.prods.length pc)) (hP:ProdsAt D w (.slice pa g.prods.length pc) g.prods) (n:Int) (r:Bool) (hr:pB g n=r) :
  Calls Tryz.prog 105 #[.int .i64 n,.pointer (some ⟨b,0,none⟩)] w fun e w'=>e=.returned (.bool r) /\ w'=w:=by
 by_cases h0:0<=n
 ·by_cases h1:n<(g.prods.length:Int)
  ·obtain ⟨k,rfl⟩:∃ k:Nat,n=k:=⟨n.toNat,by omega⟩;have hk:k<g.prods.length:=by omega
   obtain ⟨p,hp⟩:∃ p,g.prods[k]?=some p:=⟨_,gE hk⟩;obtain ⟨cap,b2,o,vr,epv,hbl,hvr,hpc⟩:=hP.at_ hp;injection epv with e1 e2 e3;subst e1;subst e3;have f3:=hpc 3 _ rfl;have hv:pB g k=!decide (p.role=11):=by unfold pB prodAt;rw [if_pos (by omega)];simp [hp]
   rw [hv] at hr;clear hpc hP hvr hv
   by_cases c:p.role=11
   ·have hrr:r=false:=by rw [<- hr];simp [c]
    clear hr;rw [c] at f3;go_enter Tryz.func105,Tryz.ntmps105;go_wp2_with fail
    go_ret;exact ⟨rfl,rfl⟩
   ·have hrr:r=true:=by rw [<- hr];simp [c]
    clear hr;go_enter Tryz.func105,Tryz.ntmps105;go_wp2_with fail
    go_ret;exact ⟨ret_bool (by simp [c]),rfl⟩
  ·have hv:r=false:=by
    rw [<- hr];unfold pB prodAt;rw [if_pos h0,List.getElem?_eq_none (by omega)]
   have hd:decide (n<(g.prods.length:Int))=false:=decide_eq_false h1;clear hr h1 hP;go_enter Tryz.func105,Tryz.ntmps105;go_wp2_with fail
   go_ret;exact ⟨by rw [hv];rfl,rfl⟩
 ·have hv:r=false:=by rw [<- hr];unfold pB prodAt;rw [if_neg h0]
  have hd:decide (0<=n)=false:=decide_eq_false h0;clear hr h0 hP;go_enter Tryz.func105,Tryz.ntmps105;go_wp2_with fail
  go_ret;exact ⟨by rw [hv];rfl,rfl⟩
def fbR (gb tb pb po sb so n k pl pc rl rc B:Nat) (sy:Sy) (j:Nat) (v:Value) (W:World):Prop :=
 match j with
 | 0=>v=.pointer (some ⟨gb,1,none⟩)
 | 1=>v=.slice (some ⟨pb,po,none⟩) pl pc
 | 2=>v=.pointer (some ⟨tb,0,none⟩)
 | 3=>v=.int .i64 n
 | 4=>v=.pointer (some ⟨pb,po+n * 7,none⟩)
 | 5=>v=.pointer (some ⟨pb,po+n * 7+1,none⟩)
 | 6=>v=.slice (some ⟨sb,so,none⟩) rl rc
 | 7=>v=.pointer (some ⟨tb,1,none⟩)
 | 8=>v=.int .i64 ((k:Int)+1)
 | 9=>v=.int .i64 k
 | 10=>v=.pointer (some ⟨sb,so+k * 6,none⟩)
 | 11=>v=.agg #[.int .i64 sy.kind,.int .u64 (wd sy.set 0),.int .u64 (wd sy.set 1),.int .u64 (wd sy.set 2),.int .u64 (wd sy.set 3),.int .i64 sy.sort]
 | 12=>∃ b,v=.pointer (some ⟨b,0,none⟩) /\ Blk W b 49 #[.int .i64 0,.int .u64 0,.int .u64 0,.int .u64 0,.int .u64 0,.int .i64 0] /\ B<=b
 | _=>True
theorem fbR_stab (gb tb pb po sb so n k pl pc rl rc B:Nat) (sy:Sy) (j:Nat) (v:Value) (w w':World) (h:fbR gb tb pb po sb so n k pl pc rl rc B sy j v w) (hb:Below w.heap.size w w'):fbR gb tb pb po sb so n k pl pc rl rc B sy j v w':=by
 unfold fbR at h ⊢
 split at h
 all_goals first | trivial | exact h | (obtain ⟨b,e,h1,h2⟩:=h;exact ⟨b,e,h1.below hb h1.lt,h2⟩)
theorem forbids_any (D:Nat->Prop) (g:Gr) (hN:g.forbid.length<=2000000) (hpm:g.prods.length<=2000000) (hrm:∀ p∈g.prods,p.right.length<=2000000) (hF:∀ f∈g.forbid,FbOk f) (w:World) (sv pv lv fv:Value) (hpl:∃ pa pc,pv=.slice pa g.prods.length pc) (hP:ProdsAt D w pv g.prods) (hs:SliceK D encFb 3 w fv g.forbid) :
  Calls Tryz.prog 79 #[.agg #[sv,pv,.int .i64 g.start,fv,lv]] w fun e w'=>e=.returned (.bool (forbidsB g)) /\ Below w.heap.size w w':=by
 obtain ⟨pa,pc,rfl⟩:=hpl;obtain ⟨a,c,rfl,hc1,hc2,hk⟩:=hs;have hmm:=@run_makeMap Tryz.prog;have hmf:∀ (fn:Fn) (first cap:Array Value) (w:World),(Instr.makeFunc fn first cap).run Tryz.prog w=.ok (.func fn first cap) w:=fun _ _ _ _=>rfl;have HK:=Z4.mk hk hF hP hrm;clear hk hF hP hrm;go_enter Tryz.func79,Tryz.ntmps79;go_wp2_with fail
 have hB1:Blk ((w.alloc (.cells #[sv,.slice pa g.prods.length pc,.int .i64 g.start,.slice a g.forbid.length c,lv] 27)).alloc (.map #[] 0)) w.heap.size 27 #[sv,.slice pa g.prods.length pc,.int .i64 g.start,.slice a g.forbid.length c,lv]:=(Blk.new _ _ _).alloc _;have hM1:MapV Tryz.prog 95 ((w.alloc (.cells #[sv,.slice pa g.prods.length pc,.int .i64 g.start,.slice a g.forbid.length c,lv] 27)).alloc (.map #[] 0)) (w.heap.size+1) 0 (fun _=>none):=by
  have:=MapV.made (w.alloc (.cells #[sv,.slice pa g.prods.length pc,.int .i64 g.start,.slice a g.forbid.length c,lv] 27)) Tryz.prog 95
  simpa using this
 have hb1:Below w.heap.size w ((w.alloc (.cells #[sv,.slice pa g.prods.length pc,.int .i64 g.start,.slice a g.forbid.length c,lv] 27)).alloc (.map #[] 0)):=((bR _ w).alloc (nR _) _).alloc (by simp) _;have hz1:w.heap.size+2<=((w.alloc (.cells #[sv,.slice pa g.prods.length pc,.int .i64 g.start,.slice a g.forbid.length c,lv] 27)).alloc (.map #[] 0)).heap.size:=by simp
 generalize (w.alloc (.cells #[sv,.slice pa g.prods.length pc,.int .i64 g.start,.slice a g.forbid.length c,lv] 27)).alloc (.map #[] 0)=W1 at hB1 hM1 hb1 hz1 ⊢;have H1:=Z4.mk hB1 hM1 hb1 hz1;clear hB1 hM1 hb1 hz1
 go_loopg [13] g.forbid.length (fun m v13 wr=>∃ (i:Nat) (f:Lit->Option Value),i<=g.forbid.length /\ m=g.forbid.length - i /\ v13=.int .i64 i /\ MapV Tryz.prog 95 wr (w.heap.size+1) i f /\
  (∀ s,FbOk s->f (keyB s)=if s∈g.forbid.take i then some (.int .i64 1) else none) /\ Below w.heap.size w wr /\ w.heap.size+2<=wr.heap.size /\ Blk wr w.heap.size 27 #[sv,.slice pa g.prods.length pc,.int .i64 g.start,.slice a g.forbid.length c,lv] /\ (g.forbid.take i).Nodup /\ ∀ s∈g.forbid.take i,fbB g s=true)
 case atStart=>exact ⟨0,_,by omega,rfl,rfl,H1.o2,(fun s _=>by simp),H1.o3,H1.o4,H1.o1,by simp,by simp⟩
 case round =>
  obtain ⟨i,f,hi,hm,rfl,hM,hf,hb,hz,hB,hnd,heach⟩:=hrel
  by_cases hlt:i<g.forbid.length
  ·obtain ⟨⟨fp,fa,fc⟩,hsi⟩:∃ s,g.forbid[i]?=some s:=⟨_,gE hlt⟩;obtain ⟨kg,ko,rfl,hkD,hkr⟩:=HK.o1 (by rintro h;rw [h] at hlt;simp at hlt);have up:∀ {i:Nat} {u:Value},w.cell? ⟨kg,i,none⟩=some u->wr.cell? ⟨kg,i,none⟩=some u:=fun h=>(wB (hb.block kg hkr.lt)).trans h
   have k0:=up (hkr.cells i _ hsi 0 _ rfl);have k1:=up (hkr.cells i _ hsi 1 _ rfl);have k2:=up (hkr.cells i _ hsi 2 _ rfl);simp only [Nat.add_zero] at k0;have hmem:=gM hsi;have hok:=HK.o2 _ hmem;have hkey:=keyOf_fb _ hok;obtain ⟨cn,hcn⟩:∃ cn:Nat,(if (fp,fa,fc)∈g.forbid.take i then some (Value.int .i64 1) else none).getD (.int .i64 0)=.int .i64 cn /\ (cn=0∨cn=1) /\ (cn=0↔(fp,fa,fc) ∉ g.forbid.take i):=by
    by_cases h:(fp,fa,fc)∈g.forbid.take i
    ·exact ⟨1,by rw [if_pos h];rfl,.inr rfl,by simp [h]⟩
    ·exact ⟨0,by rw [if_neg h];rfl,.inl rfl,by simp [h]⟩
   obtain ⟨hcv,hc01,hcm⟩:=hcn;have hval:(f (keyB (fp,fa,fc))).getD (.int .i64 0)=.int .i64 cn:=by rw [hf _ hok,hcv]
   have hi0:(0:Int)<=i:=by omega
   have hi1:(i:Int)<g.forbid.length:=by omega
   have hmx:i<maxLen:=by unfold maxLen;omega
   have hcn0:(0:Int)<=cn:=by omega
   have hcn1:(cn:Int)<=1:=by omega
   have hno:fbB g (fp,fa,fc)=false->forbidsB g=false:=fun h=>forbidsB_no hmem h
   have hno2:(fp,fa,fc)∈g.forbid.take i->forbidsB g=false:=fun h=>by
    unfold forbidsB;rw [decide_eq_false (nodup_again hsi h)]
    rfl
   have HR:=Z14.mk hm hf hb hB hsi hcm hnd heach hno hno2 hok hM hz hval;clear hm hf hb hB hsi hcv hcm hM hkr hnd heach hno hno2 hmem hok up hz hval;go_upto_region 6 with fail
   have hbW:Below wr.heap.size wr (wr.alloc (.cells #[.int .i64 fp,.int .i64 fa,.int .i64 fc] 95)).drew:=((bR _ wr).alloc (nR _) _).drew;have hXW:Blk (wr.alloc (.cells #[.int .i64 fp,.int .i64 fa,.int .i64 fc] 95)).drew wr.heap.size 95 #[.int .i64 fp,.int .i64 fa,.int .i64 fc]:=Blk.new _ _ _;obtain ⟨w7,hw7⟩:=eX ((wr.alloc (.cells #[.int .i64 fp,.int .i64 fa,.int .i64 fc] 95)));rw [hw7] at hbW hXW ⊢;clear hw7;have hz7:=HR.o13;have hM7:MapV Tryz.prog 95 w7.drew (w.heap.size+1) i f:=HR.o12.below hbW (by omega);have hB7:=HR.o4.below hbW (by omega);have hb7:=HR.o3.trans (hbW.mono HR.o3.size);have htm:wr.heap.size≠w.heap.size+1:=by omega
   have hsz7:=hbW.size;have hxw:w.heap.size<wr.heap.size:=by omega
   obtain ⟨v0,st,W1,he1,hcell,hst⟩:=hM7.entry fbLaw Tryz.underlying191 (z:=.int .i64 0) (fun u=>Tryz.zeroValue3 u) (by unfold maxLen;omega) hkey;have hl1:=hM7.entry_look fbLaw Tryz.underlying191 (z:=.int .i64 0) (fun u=>Tryz.zeroValue3 u) (by unfold maxLen;omega) hkey he1;have hl0:=hM7.lookup (Keyed.of_law fbLaw) Tryz.underlying191 (Tryz.zeroValue3 w7.drew) hkey;rw [HR.o14] at hl0 hl1;obtain ⟨W2,he2,hm2,hg2⟩:=hst (.int .i64 (cn+1));obtain ⟨tb,htbe⟩:=eX wr.heap.size;have HTB:=Hd htbe;rw [htbe] at hXW htm hxw ⊢;obtain ⟨x0,x1,x2,_⟩:=hXW.facts3;have y0:=(hcell ⟨tb,0,none⟩ htm).trans x0;have y1:=(hcell ⟨tb,1,none⟩ htm).trans x1;have y2:=(hcell ⟨tb,2,none⟩ htm).trans x2;have hX2:=hXW.grown hg2 (by intro e;injection e with e;exact htm e);have hB2:=hB7.grown hg2 (by simp)
   have hlk2:=hm2.lookup (Keyed.of_law fbLaw) Tryz.underlying191 (Tryz.zeroValue3 W2) hkey;rw [putV_same f _ ((Keyed.of_law fbLaw).key hkey)] at hlk2;have hlk2:∀ k,(Instr.lookup 191 (.map (some (w.heap.size+1))) (.agg #[.int .i64 fp,.int .i64 fa,.int .i64 fc]) false).run Tryz.prog (W2.drewN k)=.ok (.int .i64 (cn+1)) (W2.drewN k):=fun k=>by
    have h1:=(show MapV Tryz.prog 95 (W2.drewN k) (w.heap.size+1) (i+1) _ from hm2).lookup (Keyed.of_law fbLaw) Tryz.underlying191 (Tryz.zeroValue3 (W2.drewN k)) hkey;rw [putV_same f _ ((Keyed.of_law fbLaw).key hkey)] at h1;exact h1
   have hb2:Below w.heap.size w W2:=hb7.trans (below_of_grown hg2 hb7.size (Nat.le_succ _));have hz2:w.heap.size+2<=W2.heap.size:=by have:=hg2.size;omega
   have T2:=Z5.mk hm2 hb2 hB2 hX2 hz2;have HL:=Hd hlk2;clear hbW hXW hM7 hB7 hb7 hst hcell hm2 hg2 hX2 hB2 htbe hlk2 hb2 hz2 hz7 hsz7;apply via
   ·intro KV
    go_region
    all_goals (try go_simp)
    all_goals exact KV.out
   intros
   clear hl0 hl1 he1 he2 x0 x1 x2 y0 y1 y2;obtain ⟨x0,x1,x2,_⟩:=T2.o4.facts3;have g1:=T2.o3.cell 1;simp at g1;have hlk2:=HL.out;have hbR:∀ k,Below w.heap.size w (W2.drewN k):=fun k=>below_drewN T2.o2 k;have HbR:=Hd hbR;clear hbR;go_upto_region 7 with fail
   by_cases hcz:cn=0
   ·subst hcz;have hpk:∀ k,ProdsAt (fun _=>True) (W2.drewN k) (.slice pa g.prods.length pc) g.prods:=fun k=>HK.o3.keep fun q hq hl=>⟨trivial,T2.o2.block q hl⟩;have hcall:∀ (n:Int) (r:Bool),pB g n=r->∀ k,Calls Tryz.prog 105 #[.int .i64 n,.pointer (some ⟨w.heap.size,0,none⟩)] (W2.drewN k) fun e w'=>e=.returned (.bool r) /\ w'=W2.drewN k:=fun n r hr k=>fprod_any (fun _=>True) g hpm (W2.drewN k) w.heap.size pa pc g1 (hpk k) n r hr;have HC:=Hd hcall;clear hcall
    rcases fb_arms g (fp,fa,fc) with ⟨hh,p1⟩ | ⟨hh,p1,p2⟩ | ⟨n,m,p,q,e1,e2,hp,hq,p1,p2,hrest⟩
    ·have HC1:=Hd (HC.out fp false p1);have HV:=Hd (HR.o9 hh);clear hh p1
     go_quiet ((go_at_call 105;exact Calls.quiet_of_same (HC1.out _)))
     go_wp2_with fail
     go_ret;exact ⟨by rw [HV.out];rfl,HbR.out _⟩
    ·have HC1:=Hd (HC.out fp true p1);have HC2:=Hd (HC.out fc false p2);have HV:=Hd (HR.o9 hh);clear hh p1 p2
     go_quiet ((first | (go_at_call_of 105 (fp);exact Calls.quiet_of_same (HC1.out _)) | (go_at_call_of 105 (fc);exact Calls.quiet_of_same (HC2.out _))))
     go_wp2_with fail
     go_ret;exact ⟨by rw [HV.out];rfl,HbR.out _⟩
    ·have HC1:=Hd (HC.out fp true p1);have HC2:=Hd (HC.out fc true p2);clear p1 p2;simp only at e1 e2;subst e1;subst e2;obtain ⟨cap,pb,po,vr,epv,hbl,hvr,hpc⟩:=HK.o3.at_ hp;obtain ⟨cap2,pb2,po2,vr2,epv2,hbl2,hvr2,hpc2⟩:=HK.o3.at_ hq;injection epv with u1 u2 u3;subst u1;subst u3;injection epv2 with u1 u2 u3;injection u1 with u1;injection u1 with u1 u4;subst u1;subst u4;subst u3;clear u2;obtain ⟨ra,rc,rfl,hrc1,hrc2,hrk⟩:=hvr;have up2:∀ {b i:Nat} {u:Value},b<w.heap.size->w.cell? ⟨b,i,none⟩=some u->W2.cell? ⟨b,i,none⟩=some u:=fun hb h=>(wB (T2.o2.block _ hb)).trans h
     have v1:=up2 hbl (hpc 1 _ rfl);have v0:=up2 hbl (hpc2 0 _ rfl);simp only [Nat.add_zero] at v0;have hrl:=HK.o4 p (gM hp);have hn0:(0:Int)<=n:=by omega
     have hm0:(0:Int)<=m:=by omega
     have hn1:(n:Int)<g.prods.length:=by have:=(gS.1 hp).1;omega
     have hm1:(m:Int)<g.prods.length:=by have:=(gS.1 hq).1;omega
     clear hpc hpc2 hvr2 hp hq
     rcases hrest with ⟨hh,c1⟩ | ⟨hh,c1,c2⟩ | ⟨k,sy,e3,hsy,hrest⟩
     ·have HV:=Hd (HR.o9 hh);have d1:decide (fa<1)=true:=decide_eq_true c1;clear hh
      go_quiet ((first | (go_at_call_of 105 (n);exact Calls.quiet_of_same (HC1.out _)) | (go_at_call_of 105 (m);exact Calls.quiet_of_same (HC2.out _))))
      go_wp2_with fail
      go_ret;exact ⟨by rw [HV.out];rfl,HbR.out _⟩
     ·have HV:=Hd (HR.o9 hh);have d1:decide (fa<1)=false:=decide_eq_false (by simp only at c1;omega);simp only at c2;have d2:decide ((p.right.length:Int)<fa)=true:=decide_eq_true c2;clear hh
      go_quiet ((first | (go_at_call_of 105 (n);exact Calls.quiet_of_same (HC1.out _)) | (go_at_call_of 105 (m);exact Calls.quiet_of_same (HC2.out _))))
      go_wp2_with fail
      go_ret;exact ⟨by rw [HV.out];rfl,HbR.out _⟩
     ·simp only at e3;subst e3;have hkl:=(gS.1 hsy).1;have d1:decide ((k:Int)+1<1)=false:=decide_eq_false (by omega);have d2:decide ((p.right.length:Int)<k+1)=false:=decide_eq_false (by omega);obtain ⟨sb,so,rfl,hsD,hsr⟩:=hrk (by rintro h;rw [h] at hkl;simp at hkl);have s0:=up2 hsr.lt (hsr.cells k _ hsy 0 _ rfl);have s1:=up2 hsr.lt (hsr.cells k _ hsy 1 _ rfl);have s2:=up2 hsr.lt (hsr.cells k _ hsy 2 _ rfl);have s3:=up2 hsr.lt (hsr.cells k _ hsy 3 _ rfl);have s4:=up2 hsr.lt (hsr.cells k _ hsy 4 _ rfl);have s5:=up2 hsr.lt (hsr.cells k _ hsy 5 _ rfl);simp only [Nat.add_zero] at s0;clear hsr up2 hsy;have HREST:=Hd hrest;clear hrest
      go_quiet ((first | (go_at_call_of 105 (n);exact Calls.quiet_of_same (HC1.out _)) | (go_at_call_of 105 (m);exact Calls.quiet_of_same (HC2.out _))))
      go_upto_region 9 with fail
      generalize hw9:World.drewN W2 _=w9;obtain ⟨nq,hw9⟩:∃ nq,World.drewN W2 nq=w9:=⟨_,hw9⟩;have hb9:=HbR.out nq;have hX9:=T2.o4.drewN nq;have hB9:=T2.o3.drewN nq;have hM9:=T2.o1.drewN nq;rw [hw9] at hb9 hX9 hB9 hM9;have hz9:w.heap.size+2<=w9.heap.size:=by rw [<- hw9];exact T2.o5
      have c9:∀ {a:Addr} {u:Value},W2.cell? a=some u->w9.cell? a=some u:=fun h=>by rw [<- hw9];exact h
      have HF:=Hd (show ∀ W,Below w9.heap.size w9.drew W->W.cell? ⟨w.heap.size,1,none⟩=some (.slice (some ⟨pb,po,none⟩) g.prods.length pc) /\ W.cell? ⟨tb,0,none⟩=some (.int .i64 n) /\ W.cell? ⟨tb,1,none⟩=some (.int .i64 ((k:Int)+1)) /\ W.cell? ⟨tb,2,none⟩=some (.int .i64 m) /\ W.cell? ⟨pb,po+n * 7+1,none⟩=some (.slice (some ⟨sb,so,none⟩) p.right.length rc) /\ W.cell? ⟨pb,po+m * 7,none⟩=some (.int .i64 q.left) /\
       W.cell? ⟨sb,so+k * 6,none⟩=some (.int .i64 sy.kind) /\ W.cell? ⟨sb,so+k * 6+1,none⟩=some (.int .u64 (wd sy.set 0)) /\ W.cell? ⟨sb,so+k * 6+2,none⟩=some (.int .u64 (wd sy.set 1)) /\ W.cell? ⟨sb,so+k * 6+3,none⟩=some (.int .u64 (wd sy.set 2)) /\ W.cell? ⟨sb,so+k * 6+4,none⟩=some (.int .u64 (wd sy.set 3)) /\ W.cell? ⟨sb,so+k * 6+5,none⟩=some (.int .i64 sy.sort) from fun W h=>by
       have st:∀ {b i:Nat} {u:Value},w9.cell? ⟨b,i,none⟩=some u->W.cell? ⟨b,i,none⟩=some u:=fun {b i u} hc=>by
        have hlt:b<w9.heap.size:=wL _ _ hc;exact (wB (h.block b hlt)).trans hc
       exact ⟨st (c9 g1),st (c9 x0),st (c9 x1),st (c9 x2),st (c9 v1),st (c9 v0),st (c9 s0),st (c9 s1),st (c9 s2),st (c9 s3),st (c9 s4),st (c9 s5)⟩)
      have HZ:=Hd (show ∀ W,Below w9.heap.size w9.drew W->w9.heap.size<=W.heap.size from fun W h=>h.size);have hk0:(0:Int)<=k:=by omega
      have hk1:(k:Int)<p.right.length:=by omega
      have hwk:IntKind.i64.wrap (k:Int)=(k:Int):=IntWalk.i64_in _ (by omega);have hwk2:IntKind.i64.wrap ((k:Int)+1 - 1)=(k:Int):=by rw [show (k:Int)+1 - 1=k by omega];exact hwk
      have T9:=Z5.mk hb9 hX9 hB9 hM9 hz9;clear hb9 hX9 hB9 hM9 hz9 c9 hw9 x0 x1 x2 g1 v1 v0 s0 s1 s2 s3 s4 s5 hlk2 hpk;refine wp_region_concT 13 (fbR w.heap.size tb pb po sb so n k g.prods.length pc p.right.length rc w9.heap.size sy) (fun A W=>Below A.heap.size A W) (fun _ _=>True) (by kernel_rfl) (by kernel_rfl) (by kernel_rfl) (by kernel_rfl) (bR _ _) trivial (fun h k=>h.trans (k.mono h.size)) ?_ ?_
      ·simp only [List.take_succ_cons,List.take_zero];refine ⟨?_,?_,?_,?_,?_,?_,?_,?_,?_,?_,?_,?_,?_,trivial⟩
       all_goals intro L T W hG hJ hLs hLi dq fq vq K hK
       all_goals try have zk:=fun v=>hK v W (bR _ W) (fun j u _ _ _ h=>h) trivial
       all_goals try have zv:=fun i h=>vq ⟨i,.data⟩ h rfl
       ·have h1:=fq 1 (by decide);simp at h1;go_simp;exact zk _ rfl
       ·have h1:=zv 0 (by simp) 59 rfl;simp [fbR] at h1;obtain ⟨f0,f1,f2,f3,f4,f5,f6,f7,f8,f9,f10,f11⟩:=HF.out W hG;go_simp;exact zk _ rfl
       ·have h1:=fq 6 (by decide);simp at h1;go_simp;exact zk _ rfl
       ·have h1:=zv 2 (by simp) 61 rfl;simp [fbR] at h1;obtain ⟨f0,f1,f2,f3,f4,f5,f6,f7,f8,f9,f10,f11⟩:=HF.out W hG;go_simp;exact zk _ rfl
       ·have h1:=zv 1 (by simp) 60 rfl;have h2:=zv 3 (by simp) 62 rfl;simp only [fbR] at h1 h2;simp at h1 h2;go_simp;exact zk _ rfl
       ·have h1:=zv 4 (by simp) 63 rfl;simp [fbR] at h1;go_simp;exact zk _ rfl
       ·have h1:=zv 5 (by simp) 64 rfl;simp [fbR] at h1;obtain ⟨f0,f1,f2,f3,f4,f5,f6,f7,f8,f9,f10,f11⟩:=HF.out W hG;go_simp;exact zk _ rfl
       ·have h1:=fq 6 (by decide);simp at h1;go_simp;exact zk _ rfl
       ·have h1:=zv 7 (by simp) 66 rfl;simp [fbR] at h1;obtain ⟨f0,f1,f2,f3,f4,f5,f6,f7,f8,f9,f10,f11⟩:=HF.out W hG;go_simp;exact zk _ rfl
       ·have h1:=zv 8 (by simp) 67 rfl;simp [fbR] at h1;go_simp;exact zk _ rfl
       ·have h1:=zv 6 (by simp) 65 rfl;have h2:=zv 9 (by simp) 68 rfl;simp only [fbR] at h1 h2;simp at h1 h2;go_simp;exact zk _ rfl
       ·have h1:=zv 10 (by simp) 69 rfl;simp [fbR] at h1;obtain ⟨f0,f1,f2,f3,f4,f5,f6,f7,f8,f9,f10,f11⟩:=HF.out W hG;go_simp;exact zk _ rfl
       ·go_simp;have hbn:=(bR W.heap.size W).alloc (nR _) (.cells #[.int .i64 0,.int .u64 0,.int .u64 0,.int .u64 0,.int .u64 0,.int .i64 0] 49);exact hK _ _ hbn (fun j u _ _ _ h=>fbR_stab _ _ _ _ _ _ _ _ _ _ _ _ _ _ j u _ _ h hbn) trivial ⟨_,rfl,Blk.new W _ _,HZ.out W hG⟩
      ·intro f9 W5 hG _ hR;have e11:=hR 11 70 (by decide) rfl;obtain ⟨yb,e12,k9,k10⟩:=hR 12 7 (by decide) rfl;simp only [concDsts,qZ];simp only [fbR] at e11;rw [e11,e12];clear e11 e12 hR;generalize f9 59=v59;generalize f9 60=v60;generalize f9 61=v61;generalize f9 62=v62;generalize f9 63=v63;generalize f9 64=v64;generalize f9 65=v65;generalize f9 66=v66;generalize f9 67=v67;generalize f9 68=v68;generalize f9 69=v69;clear f9;have hbz:Below w9.heap.size W5 ((((((W5.setCell ⟨yb,0,none⟩ (.int .i64 sy.kind)).setCell ⟨yb,1,none⟩ (.int .u64 (wd sy.set 0))).setCell ⟨yb,2,none⟩ (.int .u64 (wd sy.set 1))).setCell ⟨yb,3,none⟩ (.int .u64 (wd sy.set 2))).setCell ⟨yb,4,none⟩ (.int .u64 (wd sy.set 3))).setCell ⟨yb,5,none⟩ (.int .i64 sy.sort)):=(((((((bR _ _).setCell k10 _).setCell k10 _).setCell k10 _).setCell k10 _).setCell k10 _).setCell k10 _);have hYz:Blk ((((((W5.setCell ⟨yb,0,none⟩ (.int .i64 sy.kind)).setCell ⟨yb,1,none⟩ (.int .u64 (wd sy.set 0))).setCell ⟨yb,2,none⟩ (.int .u64 (wd sy.set 1))).setCell ⟨yb,3,none⟩ (.int .u64 (wd sy.set 2))).setCell ⟨yb,4,none⟩ (.int .u64 (wd sy.set 3))).setCell ⟨yb,5,none⟩ (.int .i64 sy.sort)) yb 49 #[.int .i64 sy.kind,.int .u64 (wd sy.set 0),.int .u64 (wd sy.set 1),.int .u64 (wd sy.set 2),.int .u64 (wd sy.set 3),.int .i64 sy.sort]:=((((((k9.set_ 0 _).set_ 1 _).set_ 2 _).set_ 3 _).set_ 4 _).set_ 5 _);have y0:=k9.cell 0;have y1:=k9.cell 1;have y2:=k9.cell 2;have y3:=k9.cell 3;have y4:=k9.cell 4;have y5:=k9.cell 5;have yz:=k9.frozen;simp at y0 y1 y2 y3 y4 y5;have HGz:=Z3.mk hG hbz hYz;clear hbz hYz hG;go_upto_region 10 with fail
       have hG:=HGz.o1;have hbz:=HGz.o2;have hYz:=HGz.o3;generalize ((((((W5.setCell ⟨yb,0,none⟩ (.int .i64 sy.kind)).setCell ⟨yb,1,none⟩ (.int .u64 (wd sy.set 0))).setCell ⟨yb,2,none⟩ (.int .u64 (wd sy.set 1))).setCell ⟨yb,3,none⟩ (.int .u64 (wd sy.set 2))).setCell ⟨yb,4,none⟩ (.int .u64 (wd sy.set 3))).setCell ⟨yb,5,none⟩ (.int .i64 sy.sort))=wz at hbz hYz ⊢;have hGz:Below w9.heap.size w9.drew wz:=(show Below w9.heap.size w9.drew W5 from hG).trans hbz;have hb9z:Below w9.heap.size w9 wz:=(show Below w9.heap.size w9 w9.drew from (bR _ _).drew).trans hGz;have z0:=hYz.cell 0;have z5:=hYz.cell 5;simp at z0 z5;obtain ⟨f0,f1,f2,f3,f4,f5,f6,f7,f8,f9,f10,f11⟩:=HF.out wz hGz;have T10:=Z4.mk (T9.o1.trans (hb9z.mono T9.o1.size)) (T9.o4.below hb9z T9.o4.lt) (T9.o3.below hb9z T9.o3.lt) (Nat.le_trans T9.o5 hb9z.size);have hbR2:∀ k,Below w.heap.size w (wz.drewN k):=fun k=>below_drewN T10.o1 k;have HbR2:=Hd hbR2;clear hbR2 hG hbz hYz hGz hb9z y0 y1 y2 y3 y4 y5 yz k9 k10 f2 f4 f6 f7 f8 f9 f10 f11
       rcases HREST.out with ⟨hh,c1⟩ | ⟨hh,c1,c2⟩ | ⟨hh,c1,c2⟩
       ·have HV:=Hd (HR.o9 hh);have hd1:decide (sy.kind=1)=false:=decide_eq_false c1;have hd2:(sy.kind != 1)=true:=by simpa using c1
        clear hh
        go_quiet (fail)
        go_wp2_with fail
        go_ret;exact ⟨by rw [HV.out];rfl,HbR2.out _⟩
       ·have HV:=Hd (HR.o9 hh);clear hh;rw [c1] at z0
        go_quiet (fail)
        go_wp2_with fail
        go_ret;exact ⟨by rw [HV.out];rfl,HbR2.out _⟩
       ·have HV:=Hd hh;have hnm:=HR.o6.1 rfl;have HD:=Hd hnm;clear hh hnm;rw [c1] at z0;rw [c2] at z5
        go_quiet (fail)
        go_wp2_with fail
        go_roundg (g.forbid.length - (i+1))
        case measure=>have:=HR.o1;omega
        case rel =>
         have htk:g.forbid.take (i+1)=g.forbid.take i++[((n:Int),(k:Int)+1,(m:Int))]:=by rw [List.take_add_one,HR.o5];rfl
         refine ⟨i+1,_,by omega,rfl,rfl,T10.o2.drewN _,fun t ht=>?_,HbR2.out _,T10.o4,T10.o3.drewN _,?_,fun t ht=>?_⟩
         ·by_cases e:t=((n:Int),(k:Int)+1,(m:Int))
          ·rw [e,putV_same _ _ ((Keyed.of_law fbLaw).key (keyOf_fb _ HR.o11)),htk,if_pos (by simp)]
           rfl
          ·rw [putV_other _ _ (fun h=>e (keyB_inj ht HR.o11 h)),HR.o2 t ht,htk]
           by_cases e2:t∈g.forbid.take i
           ·rw [if_pos e2,if_pos (List.mem_append_left _ e2)]
           ·rw [if_neg e2,if_neg (fun h=>(List.mem_append.1 h).elim e2 (fun h=>e (by simpa using h)))]
         ·rw [htk,List.nodup_append];exact ⟨HR.o7,by simp,fun a ha b hb=>by simp at hb;subst hb;exact fun e=>HD.out (e ▸ ha)⟩
         ·rw [htk] at ht
          rcases List.mem_append.1 ht with ht | ht
          ·exact HR.o8 t ht
          ·simp at ht;subst ht;exact HV.out
   ·have hmem:(fp,fa,fc)∈g.forbid.take i:=Classical.byContradiction fun h=>hcz (HR.o6.2 h);have HV:=Hd (HR.o10 hmem);have hc1:cn=1:=by omega
    subst hc1;clear hmem
    go_quiet (fail)
    go_wp2_with fail
    go_ret;exact ⟨by rw [HV.out];rfl,HbR.out _⟩
  ·obtain rfl:i=g.forbid.length:=by omega
   rw [List.take_length] at hnd heach;have hv:forbidsB g=true:=by
    unfold forbidsB;rw [decide_eq_true hnd,List.all_eq_true.2 heach]
    rfl
   have HR:=Z2.mk hb hv;clear hb hB hM hf hm hnd heach hv hz;go_wp2_with fail
   go_ret;exact ⟨by rw [HR.o2];rfl,HR.o1⟩
def checkB (g:Gr):Bool:=sortsB g&&prodsB g&&forbidsB g&&followsB g
def chkN (g:Gr):Int:=if checkB g=true then 0 else 160
theorem chk_no1 {g:Gr} (h:sortsB g=false):chkN g=160:=by unfold chkN checkB;rw [h];rfl
theorem chk_no2 {g:Gr} (h:prodsB g=false):chkN g=160:=by unfold chkN checkB;rw [h];cases sortsB g <;> rfl
theorem chk_no3 {g:Gr} (h:forbidsB g=false):chkN g=160:=by unfold chkN checkB;rw [h];cases sortsB g <;> cases prodsB g <;> rfl
theorem chk_no4 {g:Gr} (h:followsB g=false):chkN g=160:=by unfold chkN checkB;rw [h];cases sortsB g <;> cases prodsB g <;> cases forbidsB g <;> rfl
theorem check_any (g:Gr) (N:Nat) (hN:N<=2000000) (w:World) (sv pv fv lv:Value) (hG:GramAt w N g sv pv fv lv) :
  Calls Tryz.prog 61 #[.agg #[sv,pv,.int .i64 g.start,fv,lv]] w fun e w'=>e=.returned (.int .i64 (chkN g)) /\ Below w.heap.size w w':=by
 obtain ⟨sa,sc,rfl⟩:=slice_shape hG.sorts;obtain ⟨pa,pc,rfl⟩:=prodsAt_shape hG.prodsAt;have i0:∀ w,(Instr.index 156 (.agg #[.func (.func 77) #[] #[],.func (.func 78) #[] #[],.func (.func 79) #[] #[],.func (.func 80) #[] #[]]) (.int .i64 0)).run Tryz.prog w=.ok (.func (.func 77) #[] #[]) w:=fun _=>by kernel_rfl
 have i1:∀ w,(Instr.index 156 (.agg #[.func (.func 77) #[] #[],.func (.func 78) #[] #[],.func (.func 79) #[] #[],.func (.func 80) #[] #[]]) (.int .i64 1)).run Tryz.prog w=.ok (.func (.func 78) #[] #[]) w:=fun _=>by kernel_rfl
 have i2:∀ w,(Instr.index 156 (.agg #[.func (.func 77) #[] #[],.func (.func 78) #[] #[],.func (.func 79) #[] #[],.func (.func 80) #[] #[]]) (.int .i64 2)).run Tryz.prog w=.ok (.func (.func 79) #[] #[]) w:=fun _=>by kernel_rfl
 have i3:∀ w,(Instr.index 156 (.agg #[.func (.func 77) #[] #[],.func (.func 78) #[] #[],.func (.func 79) #[] #[],.func (.func 80) #[] #[]]) (.int .i64 3)).run Tryz.prog w=.ok (.func (.func 80) #[] #[]) w:=fun _=>by kernel_rfl
 have H:=Z3.mk hG hG.ok hN;clear hG hN;go_enter Tryz.func61,Tryz.ntmps61;go_wp2_with fail
 have hB1:Blk (w.alloc (.cells #[.slice sa g.sorts.length sc,.slice pa g.prods.length pc,.int .i64 g.start,fv,lv] 27)) w.heap.size 27 #[.slice sa g.sorts.length sc,.slice pa g.prods.length pc,.int .i64 g.start,fv,lv]:=Blk.new _ _ _;have hb1:Below w.heap.size w (w.alloc (.cells #[.slice sa g.sorts.length sc,.slice pa g.prods.length pc,.int .i64 g.start,fv,lv] 27)):=(bR _ w).alloc (nR _) _;generalize (w.alloc (.cells #[.slice sa g.sorts.length sc,.slice pa g.prods.length pc,.int .i64 g.start,fv,lv] 27))=W1 at hB1 hb1 ⊢;have H1:=Z2.mk hB1 hb1;clear hB1 hb1
 go_loopg [6] 4 (fun m v wr=>∃ i:Nat,i<=4 /\ m=4 - i /\ v=.int .i64 i /\ Blk wr w.heap.size 27 #[.slice sa g.sorts.length sc,.slice pa g.prods.length pc,.int .i64 g.start,fv,lv] /\ Below w.heap.size w wr /\ (1<=i->sortsB g=true) /\ (2<=i->prodsB g=true) /\ (3<=i->forbidsB g=true) /\ (4<=i->followsB g=true))
 case atStart=>exact ⟨0,by omega,rfl,rfl,H1.o1,H1.o2,by omega,by omega,by omega,by omega⟩
 case round =>
  obtain ⟨i,hi,hm,rfl,hB,hb,hv1,hv2,hv3,hv4⟩:=hrel;have f0:=hB.cell 0;have f1:=hB.cell 1;have f2:=hB.cell 2;have f3:=hB.cell 3;have f4:=hB.cell 4;simp at f0 f1 f2 f3 f4;have A:=Z7.mk hm hB hb hv1 hv2 hv3 hv4;clear hm hB hb hv1 hv2 hv3 hv4;have HW:=Hd (H.o1.keep A.o3)
  rcases (show i=0∨i=1∨i=2∨i=3∨i=4 by omega) with rfl | rfl | rfl | rfl | rfl
  ·clear i1 i2 i3;go_wp2_with fail
   refine (sorts_any _ g (by have:=H.o1.nsorts;have:=H.o3;omega) (fun s hs=>by have:=H.o1.str s hs;have:=H.o3;omega) wr _ _ _ _ HW.out.sorts).mono ?_;rintro e w2 ⟨rfl,hb2⟩;have A2:=Z2.mk (A.o2.below hb2 A.o2.lt) (A.o3.trans (hb2.mono A.o3.size));clear hb2
   cases hv:sortsB g with
   | false =>
    have HV:=Hd (chk_no1 hv);clear hv;go_wp2_with fail
    go_ret;exact ⟨by rw [HV.out];rfl,A2.o2⟩
   | true =>
    have HV:=Hd hv;clear hv;go_wp2_with fail
    have hv:=HV.out;go_roundg 3
    case measure=>have:=A.o1;omega
    case rel=>exact ⟨1,by omega,rfl,rfl,A2.o1,A2.o2,fun _=>hv,by omega,by omega,by omega⟩
  ·clear i0 i2 i3;go_wp2_with fail
   refine (prods_any _ g (by have:=H.o1.nprods;have:=H.o3;omega) (fun p hp=>by have:=H.o2 p hp;have:=H.o3;exact ⟨by omega,by omega,fun s hs=>((H.o2 p hp).2.2.1 s hs).1⟩) wr _ _ _ rfl (by have:=H.o1.nsorts;have:=H.o3;omega) _ _ _ HW.out.prodsAt ⟨_,_,rfl⟩).mono ?_;rintro e w2 ⟨rfl,hb2⟩;have A2:=Z2.mk (A.o2.below hb2 A.o2.lt) (A.o3.trans (hb2.mono A.o3.size));clear hb2
   cases hv:prodsB g with
   | false =>
    have HV:=Hd (chk_no2 hv);clear hv;go_wp2_with fail
    go_ret;exact ⟨by rw [HV.out];rfl,A2.o2⟩
   | true =>
    have HV:=Hd hv;clear hv;go_wp2_with fail
    have hv:=HV.out;go_roundg 2
    case measure=>have:=A.o1;omega
    case rel=>exact ⟨2,by omega,rfl,rfl,A2.o1,A2.o2,fun _=>A.o4 (by omega),fun _=>hv,by omega,by omega⟩
  ·clear i0 i1 i3;go_wp2_with fail
   refine (forbids_any _ g (by have:=H.o1.nforbid;have:=H.o3;omega) (by have:=H.o1.nprods;have:=H.o3;omega) (fun p hp=>by have:=H.o2 p hp;have:=H.o3;omega) H.o1.fb wr _ _ _ _ ⟨_,_,rfl⟩ HW.out.prodsAt HW.out.forbid).mono ?_;rintro e w2 ⟨rfl,hb2⟩;have A2:=Z2.mk (A.o2.below hb2 A.o2.lt) (A.o3.trans (hb2.mono A.o3.size));clear hb2
   cases hv:forbidsB g with
   | false =>
    have HV:=Hd (chk_no3 hv);clear hv;go_wp2_with fail
    go_ret;exact ⟨by rw [HV.out];rfl,A2.o2⟩
   | true =>
    have HV:=Hd hv;clear hv;go_wp2_with fail
    have hv:=HV.out;go_roundg 1
    case measure=>have:=A.o1;omega
    case rel=>exact ⟨3,by omega,rfl,rfl,A2.o1,A2.o2,fun _=>A.o4 (by omega),fun _=>A.o5 (by omega),fun _=>hv,by omega⟩
  ·clear i0 i1 i2;go_wp2_with fail
   refine (follows_any _ g (by have:=H.o1.nfollow;have:=H.o3;omega) (by have:=H.o1.nsorts;have:=H.o3;omega) H.o1.fo wr _ _ _ rfl _ _ _ HW.out.follow).mono ?_;rintro e w2 ⟨rfl,hb2⟩;have A2:=Z2.mk (A.o2.below hb2 A.o2.lt) (A.o3.trans (hb2.mono A.o3.size));clear hb2
   cases hv:followsB g with
   | false =>
    have HV:=Hd (chk_no4 hv);clear hv;go_wp2_with fail
    go_ret;exact ⟨by rw [HV.out];rfl,A2.o2⟩
   | true =>
    have HV:=Hd hv;clear hv;go_wp2_with fail
    have hv:=HV.out;go_roundg 0
    case measure=>have:=A.o1;omega
    case rel=>exact ⟨4,by omega,rfl,rfl,A2.o1,A2.o2,fun _=>A.o4 (by omega),fun _=>A.o5 (by omega),fun _=>A.o6 (by omega),fun _=>hv⟩
  ·clear i0 i1 i2 i3
   have hv:chkN g=0:=by
    unfold chkN checkB;rw [A.o4 (by omega),A.o5 (by omega),A.o6 (by omega),A.o7 (by omega)]
    rfl
   have HV:=Hd hv;clear hv;go_wp2_with fail
   go_ret;exact ⟨by rw [HV.out];rfl,A.o3⟩
end Go.Proofs.YthiochcpmfkgcaaGreatDoor.Tb
