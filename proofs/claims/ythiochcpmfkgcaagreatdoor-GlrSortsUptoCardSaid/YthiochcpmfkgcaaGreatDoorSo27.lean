/- Walks and plain laws that the last text stands on: TbRChkB. -/
import Derived.Test.YthiochcpmfkgcaaGreatDoorSo26
import Derived.Test.YthiochcpmfkgcaaGreatDoorSo18
set_option linter.unusedVariables false
set_option linter.unusedSimpArgs false
set_option maxRecDepth 100000
set_option maxHeartbeats 16000000
namespace Go.Proofs.YthiochcpmfkgcaaGreatDoor.Tb
open Go Go.RowKit Go.Proofs Mx
def rfbR (gb tb pb po sb so n k pl pc rl rc B:Nat) (yk:Int) (yw:Int × Int × Int × Int) (ys:Int) (j:Nat) (v:Value) (W:World):Prop :=
 match j with
 | 0=>v=.pointer (some ⟨gb,1,none⟩)
 | 1=>v=.slice (some ⟨pb,po,none⟩) pl pc
 | 2=>v=.pointer (some ⟨tb,0,none⟩)
 | 3=>v=.int .i64 n
 | 4=>v=.pointer (some ⟨pb,po+n * 7,none⟩)
 | 5=>v=.pointer (some ⟨pb,po+n * 7+1,none⟩)
 | 6=>v=.slice (some ⟨sb,so,none⟩) rl rc
 | 7=>v=.pointer (some ⟨tb,1,none⟩)
 | 8=>v=.int .i64 ((k:Int)+1)
 | 9=>v=.int .i64 k
 | 10=>v=.pointer (some ⟨sb,so+k * 6,none⟩)
 | 11=>v=.agg #[.int .i64 yk,.int .u64 yw.1,.int .u64 yw.2.1,.int .u64 yw.2.2.1,.int .u64 yw.2.2.2,.int .i64 ys]
 | 12=>∃ b,v=.pointer (some ⟨b,0,none⟩) /\ Blk W b 49 #[.int .i64 0,.int .u64 0,.int .u64 0,.int .u64 0,.int .u64 0,.int .i64 0] /\ B<=b
 | _=>True
theorem rfbR_stab {gb tb pb po sb so n k pl pc rl rc B:Nat} {yk:Int} {yw:Int × Int × Int × Int} {ys:Int} (j:Nat) (v:Value) {w w':World} (h:rfbR gb tb pb po sb so n k pl pc rl rc B yk yw ys j v w) (hb:Below w.heap.size w w'):rfbR gb tb pb po sb so n k pl pc rl rc B yk yw ys j v w':=by
 unfold rfbR at h ⊢
 split at h
 all_goals first | trivial | exact h | (obtain ⟨b,e,h1,h2⟩:=h;exact ⟨b,e,h1.below hb h1.lt,h2⟩)
theorem rforbid_any (g:Gr) (hpm:g.prods.length<=2000000) (hrm:∀ p∈g.prods,p.right.length<=2000000) (w:World) (sv pv fv lv:Value) (hP:ProdsAt (fun _=>True) w pv g.prods) (f:Int × Int × Int) (hf:FbOk f) :
  Calls Tryz.prog 36 #[.agg #[sv,pv,.int .i64 g.start,fv,lv],.agg #[.int .i64 f.1,.int .i64 f.2.1,.int .i64 f.2.2]] w fun e w'=>e=.returned (.bool (fbB g f)) /\ Below w.heap.size w w':=by
 obtain ⟨pa,pc,rfl⟩:=prodsAt_shape hP;obtain ⟨fp,fa,fc⟩:=f;simp only;obtain ⟨r,hr⟩:=eX (fbB g (fp,fa,fc));rw [hr];obtain ⟨i1,i2,i3⟩:=hf;have HI:=Z3.mk i1 i2 i3;have HK:=Z3.mk hP hrm hr;clear hP hrm hr i1 i2 i3;go_enter Tryz.func36,Tryz.ntmps36;go_upto_region 1 with fail
 have hB0:Blk ((w.alloc (.cells #[sv,.slice pa g.prods.length pc,.int .i64 g.start,fv,lv] 27)).alloc (.cells #[.int .i64 fp,.int .i64 fa,.int .i64 fc] 95)) w.heap.size 27 #[sv,.slice pa g.prods.length pc,.int .i64 g.start,fv,lv]:=(Blk.new _ _ _).alloc _;have hB1:Blk ((w.alloc (.cells #[sv,.slice pa g.prods.length pc,.int .i64 g.start,fv,lv] 27)).alloc (.cells #[.int .i64 fp,.int .i64 fa,.int .i64 fc] 95)) (w.heap.size+1) 95 #[.int .i64 fp,.int .i64 fa,.int .i64 fc]:=Blk.new_ (by simp) _ _;have hb0:Below w.heap.size w ((w.alloc (.cells #[sv,.slice pa g.prods.length pc,.int .i64 g.start,fv,lv] 27)).alloc (.cells #[.int .i64 fp,.int .i64 fa,.int .i64 fc] 95)):=((bR _ w).alloc (nR _) _).alloc (by simp) _;generalize ((w.alloc (.cells #[sv,.slice pa g.prods.length pc,.int .i64 g.start,fv,lv] 27)).alloc (.cells #[.int .i64 fp,.int .i64 fa,.int .i64 fc] 95))=W1 at hB0 hB1 hb0 ⊢;have H1:=Z3.mk hB0 hB1 hb0;have g1:=hB0.cell 1;obtain ⟨x0,x1,x2,_⟩:=hB1.facts3;simp at g1;clear hB0 hB1 hb0
 by_cases p0:fp<0
 ·have d1:decide (fp<0)=true:=decide_eq_true p0;have hv:r=false:=by rw [<- HK.o3];unfold fbB prodAt;simp only;rw [if_neg (by omega)]
  clear HK;go_wp2_with fail
  go_ret;exact ⟨by first | rfl | (rw [hv];rfl),H1.o3⟩
 ·have d1:decide (fp<0)=false:=decide_eq_false p0
  by_cases p1:(g.prods.length:Int)<=fp
  ·have d2:decide ((g.prods.length:Int)<=fp)=true:=decide_eq_true p1;have hv:r=false:=by rw [<- HK.o3];unfold fbB prodAt;simp only;rw [if_pos (by omega),List.getElem?_eq_none (by omega)]
   clear HK;go_wp2_with fail
   go_ret;exact ⟨by first | rfl | (rw [hv];rfl),H1.o3⟩
  ·have d2:decide ((g.prods.length:Int)<=fp)=false:=decide_eq_false p1
   by_cases c0:fc<0
   ·have d3:decide (fc<0)=true:=decide_eq_true c0;have hv:r=false:=by rw [<- HK.o3];unfold fbB prodAt;simp only;rw [if_neg (show ¬ 0<=fc by omega)];cases (if 0<=fp then g.prods[fp.toNat]? else none) <;> rfl
    clear HK;go_wp2_with fail
    go_ret;exact ⟨by first | rfl | (rw [hv];rfl),H1.o3⟩
   ·have d3:decide (fc<0)=false:=decide_eq_false c0
    by_cases c1:(g.prods.length:Int)<=fc
    ·have d4:decide ((g.prods.length:Int)<=fc)=true:=decide_eq_true c1;have hv:r=false:=by rw [<- HK.o3];unfold fbB prodAt;simp only;rw [if_pos (show 0<=fc by omega),List.getElem?_eq_none (show g.prods.length<=fc.toNat by omega)];cases (if 0<=fp then g.prods[fp.toNat]? else none) <;> rfl
     clear HK;go_wp2_with fail
     go_ret;exact ⟨by first | rfl | (rw [hv];rfl),H1.o3⟩
    ·have d4:decide ((g.prods.length:Int)<=fc)=false:=decide_eq_false c1;obtain ⟨n,rfl⟩:∃ n:Nat,fp=(n:Int):=⟨fp.toNat,by omega⟩;obtain ⟨m,rfl⟩:∃ m:Nat,fc=(m:Int):=⟨fc.toNat,by omega⟩;have hnl:n<g.prods.length:=by omega
     have hml:m<g.prods.length:=by omega
     obtain ⟨p,hp⟩:∃ p,g.prods[n]?=some p:=⟨_,gE hnl⟩;obtain ⟨q,hq⟩:∃ q,g.prods[m]?=some q:=⟨_,gE hml⟩;have hfb:r=(!decide (p.role=11)&&!decide (q.role=11)&&!decide (fa<1)&&!decide ((p.right.length:Int)<fa)&&(match p.right[(fa - 1).toNat]? with | some s=>decide (s.kind=1)&&decide (s.sort=q.left) | none=>false)):=by
      rw [<- HK.o3];unfold fbB prodAt;simp only;rw [if_pos (by omega),if_pos (by omega),show ((n:Int)).toNat=n from rfl,show ((m:Int)).toNat=m from rfl,hp,hq]
      rfl
     obtain ⟨cap,pb,po,vr,epv,hbl,hvr,hpc⟩:=HK.o1.at_ hp;obtain ⟨cap2,pb2,po2,vr2,epv2,hbl2,hvr2,hpc2⟩:=HK.o1.at_ hq;injection epv with u1 u2 u3;subst u1;subst u3;injection epv2 with u1 u2 u3;injection u1 with u1;injection u1 with u1 u4;subst u1;subst u4;subst u3;clear u2;obtain ⟨ra,rc,rfl,hrc1,hrc2,hrk⟩:=hvr;have up2:∀ {b i:Nat} {u:Value},b<w.heap.size->w.cell? ⟨b,i,none⟩=some u->W1.cell? ⟨b,i,none⟩=some u:=fun hb h=>(wB (H1.o3.block _ hb)).trans h
     have v1:=up2 hbl (hpc 1 _ rfl);have v3:=up2 hbl (hpc 3 _ rfl);have v0:=up2 hbl (hpc2 0 _ rfl);have v4:=up2 hbl (hpc2 3 _ rfl);simp only [Nat.add_zero] at v0;have hrl:=HK.o2 p (gM hp);have hn0:(0:Int)<=n:=by omega
     have hm0:(0:Int)<=m:=by omega
     have hn1:(n:Int)<g.prods.length:=by omega
     have hm1:(m:Int)<g.prods.length:=by omega
     have HV:=Z2.mk hfb hrk;clear hpc hpc2 hvr2 hp hq hfb hrk HK
     by_cases rp:p.role=11
     ·rw [rp] at v3;have hv:r=false:=by rw [HV.o1,rp];rfl
      clear rp;go_wp2_with fail
      go_ret;exact ⟨by first | rfl | (rw [hv];rfl),H1.o3⟩
     ·have d5:(p.role==11)=false:=by simpa using rp
      have hv1:=Hd rp;clear rp
      by_cases rq:q.role=11
      ·rw [rq] at v4;have hv:r=false:=by rw [HV.o1,rq];cases decide (p.role=11) <;> rfl
       clear rq;go_wp2_with fail
       go_ret;exact ⟨by first | rfl | (rw [hv];rfl),H1.o3⟩
      ·have d6:(q.role==11)=false:=by simpa using rq
       have hv2:=Hd rq;clear rq
       by_cases a0:fa<1
       ·have d7:decide (fa<1)=true:=decide_eq_true a0;have hv:r=false:=by rw [HV.o1,decide_eq_false hv1.out,decide_eq_false hv2.out,decide_eq_true a0];rfl
        go_wp2_with fail
        go_quiet (fail)
        go_wp2_with fail
        go_ret;exact ⟨by first | rfl | (rw [hv];rfl),below_drewN H1.o3 _⟩
       ·have d7:decide (fa<1)=false:=decide_eq_false a0
        by_cases a1:(p.right.length:Int)<fa
        ·have d8:decide ((p.right.length:Int)<fa)=true:=decide_eq_true a1;have hv:r=false:=by rw [HV.o1,decide_eq_false hv1.out,decide_eq_false hv2.out,decide_eq_false a0,decide_eq_true a1];rfl
         go_wp2_with fail
         go_quiet (fail)
         go_wp2_with fail
         go_ret;exact ⟨by first | rfl | (rw [hv];rfl),below_drewN H1.o3 _⟩
        ·obtain ⟨k,rfl⟩:∃ k:Nat,fa=(k:Int)+1:=⟨(fa - 1).toNat,by omega⟩;have hkl:k<p.right.length:=by omega
         obtain ⟨⟨yk,yS,ys⟩,hsy⟩:∃ s,p.right[k]?=some s:=⟨_,gE hkl⟩;have hv:r=(decide (yk=1)&&decide (ys=q.left)):=by
          rw [HV.o1,decide_eq_false hv1.out,decide_eq_false hv2.out,decide_eq_false a0,decide_eq_false a1,show ((k:Int)+1 - 1).toNat=k by omega,hsy]
          rfl
         have d8:decide ((k:Int)+1<1)=false:=decide_eq_false (by omega);have d9:decide ((p.right.length:Int)<k+1)=false:=decide_eq_false (by omega);obtain ⟨sb,so,rfl,hsD,hsr⟩:=HV.o2 (by rintro h;rw [h] at hkl;simp at hkl);have s0:=up2 hsr.lt (hsr.cells k _ hsy 0 _ rfl);have s1:W1.cell? ⟨sb,so+k * 6+1,none⟩=some (.int .u64 (wd yS 0)):=up2 hsr.lt (hsr.cells k _ hsy 1 _ rfl);have s2:W1.cell? ⟨sb,so+k * 6+2,none⟩=some (.int .u64 (wd yS 1)):=up2 hsr.lt (hsr.cells k _ hsy 2 _ rfl);have s3:W1.cell? ⟨sb,so+k * 6+3,none⟩=some (.int .u64 (wd yS 2)):=up2 hsr.lt (hsr.cells k _ hsy 3 _ rfl);have s4:W1.cell? ⟨sb,so+k * 6+4,none⟩=some (.int .u64 (wd yS 3)):=up2 hsr.lt (hsr.cells k _ hsy 4 _ rfl);have s5:W1.cell? ⟨sb,so+k * 6+5,none⟩=some (.int .i64 ys):=up2 hsr.lt (hsr.cells k _ hsy 5 _ rfl);simp only [Nat.add_zero] at s0;obtain ⟨y0,hy0⟩:=eX (wd yS 0);obtain ⟨y1,hy1⟩:=eX (wd yS 1);obtain ⟨y2,hy2⟩:=eX (wd yS 2);obtain ⟨y3,hy3⟩:=eX (wd yS 3);rw [hy0] at s1;rw [hy1] at s2;rw [hy2] at s3;rw [hy3] at s4;have HVR:=Hd hv;clear hv hv1 hv2 hsr hsy hy0 hy1 hy2 hy3 a0 a1;go_wp2_with fail
         go_quiet (fail)
         go_upto_region 5 with fail
         generalize hw9:World.drewN W1 _=w9;obtain ⟨nq,hw9⟩:∃ nq,World.drewN W1 nq=w9:=⟨_,hw9⟩;have hb9:=below_drewN H1.o3 nq;rw [hw9] at hb9;have c9:∀ {a:Addr} {u:Value},W1.cell? a=some u->w9.cell? a=some u:=fun h=>by rw [<- hw9];exact h
         have HC:=Hd (show ∀ W,Below w9.heap.size w9.drew W->W.cell? ⟨w.heap.size,1,none⟩=some (.slice (some ⟨pb,po,none⟩) g.prods.length pc) /\ W.cell? ⟨w.heap.size+1,0,none⟩=some (.int .i64 n) /\ W.cell? ⟨w.heap.size+1,1,none⟩=some (.int .i64 ((k:Int)+1)) /\ W.cell? ⟨w.heap.size+1,2,none⟩=some (.int .i64 m) /\ W.cell? ⟨pb,po+n * 7+1,none⟩=some (.slice (some ⟨sb,so,none⟩) p.right.length rc) /\ W.cell? ⟨pb,po+m * 7,none⟩=some (.int .i64 q.left) /\
          W.cell? ⟨sb,so+k * 6,none⟩=some (.int .i64 yk) /\ W.cell? ⟨sb,so+k * 6+1,none⟩=some (.int .u64 y0) /\ W.cell? ⟨sb,so+k * 6+2,none⟩=some (.int .u64 y1) /\ W.cell? ⟨sb,so+k * 6+3,none⟩=some (.int .u64 y2) /\ W.cell? ⟨sb,so+k * 6+4,none⟩=some (.int .u64 y3) /\ W.cell? ⟨sb,so+k * 6+5,none⟩=some (.int .i64 ys) /\ w9.heap.size<=W.heap.size from fun W h=>by
          have st:∀ {b i:Nat} {u:Value},w9.cell? ⟨b,i,none⟩=some u->W.cell? ⟨b,i,none⟩=some u:=fun {b i u} hc=>by
           have hlt:b<w9.heap.size:=wL _ _ hc;exact (wB (h.block b hlt)).trans hc
          exact ⟨st (c9 g1),st (c9 x0),st (c9 x1),st (c9 x2),st (c9 v1),st (c9 v0),st (c9 s0),st (c9 s1),st (c9 s2),st (c9 s3),st (c9 s4),st (c9 s5),h.size⟩)
         have hk0:(0:Int)<=k:=by omega
         have hk1:(k:Int)<p.right.length:=by omega
         have hwk:IntKind.i64.wrap (k:Int)=(k:Int):=IntWalk.i64_in _ (by omega);have hwk2:IntKind.i64.wrap ((k:Int)+1 - 1)=(k:Int):=by rw [show (k:Int)+1 - 1=k by omega];exact hwk
         have T9:=Hd hb9;clear hb9 c9 hw9 x0 x1 x2 g1 v1 v0 v3 v4 s0 s1 s2 s3 s4 s5 up2;refine wp_region_concT 13 (rfbR w.heap.size (w.heap.size+1) pb po sb so n k g.prods.length pc p.right.length rc w9.heap.size yk (y0,y1,y2,y3) ys) (fun A W=>Below A.heap.size A W) (fun _ _=>True) (by kernel_rfl) (by kernel_rfl) (by kernel_rfl) (by kernel_rfl) (bR _ _) trivial (fun h k=>h.trans (k.mono h.size)) ?_ ?_
         ·simp only [List.take_succ_cons,List.take_zero];refine ⟨?_,?_,?_,?_,?_,?_,?_,?_,?_,?_,?_,?_,?_,trivial⟩
          all_goals intro L T W hG hJ hLs hLi dq fq vq K hK
          all_goals try have zk:=fun v=>hK v W (bR _ W) (fun j u _ _ _ h=>h) trivial
          all_goals try have zv:=fun i h=>vq ⟨i,.data⟩ h rfl
          ·have h1:=fq 2 (by decide);simp at h1;go_simp;exact zk _ rfl
          ·have h1:=zv 0 (by simp) 66 rfl;simp [rfbR] at h1;obtain ⟨f0,f1,f2,f3,f4,f5,f6,f7,f8,f9,f10,f11,f12⟩:=HC.out W hG;go_simp;exact zk _ rfl
          ·have h1:=fq 3 (by decide);simp at h1;go_simp;exact zk _ rfl
          ·have h1:=zv 2 (by simp) 68 rfl;simp [rfbR] at h1;obtain ⟨f0,f1,f2,f3,f4,f5,f6,f7,f8,f9,f10,f11,f12⟩:=HC.out W hG;go_simp;exact zk _ rfl
          ·have h1:=zv 1 (by simp) 67 rfl;have h2:=zv 3 (by simp) 69 rfl;simp [rfbR] at h1 h2;go_simp;exact zk _ rfl
          ·have h1:=zv 4 (by simp) 70 rfl;simp [rfbR] at h1;go_simp;exact zk _ rfl
          ·have h1:=zv 5 (by simp) 71 rfl;simp [rfbR] at h1;obtain ⟨f0,f1,f2,f3,f4,f5,f6,f7,f8,f9,f10,f11,f12⟩:=HC.out W hG;go_simp;exact zk _ rfl
          ·have h1:=fq 3 (by decide);simp at h1;go_simp;exact zk _ rfl
          ·have h1:=zv 7 (by simp) 73 rfl;simp [rfbR] at h1;obtain ⟨f0,f1,f2,f3,f4,f5,f6,f7,f8,f9,f10,f11,f12⟩:=HC.out W hG;go_simp;exact zk _ rfl
          ·have h1:=zv 8 (by simp) 74 rfl;simp [rfbR] at h1;go_simp;exact zk _ rfl
          ·have h1:=zv 6 (by simp) 72 rfl;have h2:=zv 9 (by simp) 75 rfl;simp [rfbR] at h1 h2;go_simp;exact zk _ rfl
          ·have h1:=zv 10 (by simp) 76 rfl;simp [rfbR] at h1;obtain ⟨f0,f1,f2,f3,f4,f5,f6,f7,f8,f9,f10,f11,f12⟩:=HC.out W hG;go_simp;exact zk _ rfl
          ·go_simp;have hbn:=(bR W.heap.size W).alloc (nR _) (.cells #[.int .i64 0,.int .u64 0,.int .u64 0,.int .u64 0,.int .u64 0,.int .i64 0] 49);obtain ⟨f0,f1,f2,f3,f4,f5,f6,f7,f8,f9,f10,f11,f12⟩:=HC.out W hG;exact hK _ _ hbn (fun j u _ _ _ h=>rfbR_stab j u h hbn) trivial ⟨_,rfl,Blk.new W _ _,f12⟩
         ·intro f9 W5 hG hJe hR;have e11:=hR 11 77 (by decide) rfl;obtain ⟨yb,e12,k9,k10⟩:=hR 12 5 (by decide) rfl
          simp only [concDsts,qZ];simp only [rfbR] at e11;rw [e11,e12];clear e11 e12 hR;generalize f9 66=v66;generalize f9 67=v67;generalize f9 68=v68;generalize f9 69=v69;generalize f9 70=v70;generalize f9 71=v71;generalize f9 72=v72;generalize f9 73=v73;generalize f9 74=v74;generalize f9 75=v75;generalize f9 76=v76;clear f9;have hbz:Below w9.heap.size W5 ((((((W5.setCell ⟨yb,0,none⟩ (.int .i64 yk)).setCell ⟨yb,1,none⟩ (.int .u64 y0)).setCell ⟨yb,2,none⟩ (.int .u64 y1)).setCell ⟨yb,3,none⟩ (.int .u64 y2)).setCell ⟨yb,4,none⟩ (.int .u64 y3)).setCell ⟨yb,5,none⟩ (.int .i64 ys)):=((((((bR _ _).setCell k10 _).setCell k10 _).setCell k10 _).setCell k10 _).setCell k10 _).setCell k10 _;have hYz:Blk ((((((W5.setCell ⟨yb,0,none⟩ (.int .i64 yk)).setCell ⟨yb,1,none⟩ (.int .u64 y0)).setCell ⟨yb,2,none⟩ (.int .u64 y1)).setCell ⟨yb,3,none⟩ (.int .u64 y2)).setCell ⟨yb,4,none⟩ (.int .u64 y3)).setCell ⟨yb,5,none⟩ (.int .i64 ys)) yb 49 #[.int .i64 yk,.int .u64 y0,.int .u64 y1,.int .u64 y2,.int .u64 y3,.int .i64 ys]:=by
           have h:=((((((k9).set_ 0 (.int .i64 yk)).set_ 1 (.int .u64 y0)).set_ 2 (.int .u64 y1)).set_ 3 (.int .u64 y2)).set_ 4 (.int .u64 y3)).set_ 5 (.int .i64 ys)
           simpa using h
          have z0:=k9.cell 0;have z1:=k9.cell 1;have z2:=k9.cell 2;have z3:=k9.cell 3;have z4:=k9.cell 4;have z5:=k9.cell 5;have zz:=k9.frozen;simp at z0 z1 z2 z3 z4 z5;have HGz:=Z3.mk hG hbz hYz;clear hbz hYz hG hJe;go_upto_region 6 with fail
          have hG:=HGz.o1;have hbz:=HGz.o2;have hYz:=HGz.o3;generalize ((((((W5.setCell ⟨yb,0,none⟩ (.int .i64 yk)).setCell ⟨yb,1,none⟩ (.int .u64 y0)).setCell ⟨yb,2,none⟩ (.int .u64 y1)).setCell ⟨yb,3,none⟩ (.int .u64 y2)).setCell ⟨yb,4,none⟩ (.int .u64 y3)).setCell ⟨yb,5,none⟩ (.int .i64 ys))=wz at hbz hYz ⊢;have hGz:Below w9.heap.size w9.drew wz:=(show Below w9.heap.size w9.drew W5 from hG).trans hbz;have hb9z:Below w9.heap.size w9 wz:=(show Below w9.heap.size w9 w9.drew from (bR _ _).drew).trans hGz;clear z0 z1 z2 z3 z4 z5 zz k9 k10;have z0:=hYz.cell 0;have z5:=hYz.cell 5;simp at z0 z5;obtain ⟨f0,f1,f2,f3,f4,f5,_⟩:=HC.out wz hGz;have T10:=Hd (T9.out.trans (hb9z.mono T9.out.size));clear hG hbz hYz hGz hb9z f1 f2 f4 HGz
          by_cases hk1:yk=1
          ·by_cases hs1:ys=q.left
           ·have hv:r=true:=by rw [HVR.out,hk1,hs1];simp
            rw [hk1] at z0;rw [hs1] at z5;clear hk1 hs1
            go_quiet (fail)
            go_wp2_with fail
            go_ret;exact ⟨by first | rfl | (rw [hv];rfl),below_drewN T10.out _⟩
           ·have hv:r=false:=by rw [HVR.out,decide_eq_false hs1];simp
            have e1:(ys==q.left)=false:=by simpa using hs1
            rw [hk1] at z0;clear hk1 hs1
            go_quiet (fail)
            go_wp2_with fail
            go_ret;exact ⟨by first | rfl | (rw [hv];rfl),below_drewN T10.out _⟩
          ·have hv:r=false:=by rw [HVR.out,decide_eq_false hk1];rfl
           have e1:(yk==1)=false:=by simpa using hk1
           clear hk1
           go_quiet (fail)
           go_wp2_with fail
           go_ret;exact ⟨by first | rfl | (rw [hv];rfl),below_drewN T10.out _⟩
end Go.Proofs.YthiochcpmfkgcaaGreatDoor.Tb
