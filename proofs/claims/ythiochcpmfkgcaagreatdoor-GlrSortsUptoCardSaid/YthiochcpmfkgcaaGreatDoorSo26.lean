/- Walks and plain laws that the last text stands on: TbRChkA. -/
import Derived.Test.YthiochcpmfkgcaaGreatDoorSo17
set_option linter.unusedVariables false
set_option linter.unusedSimpArgs false
set_option maxRecDepth 100000
set_option maxHeartbeats 16000000
namespace Go.Proofs.YthiochcpmfkgcaaGreatDoor.Tb
open Go Go.RowKit Go.Proofs Go.Maps Mx
theorem rsort_any (w:World) (sa:Option Addr) (n c:Nat) (pv st fv lv:Value) (s:Int) (r:Bool) (hr:decide (0<=s /\ s<(n:Int))=r) :
  Calls Tryz.prog 34 #[.agg #[.slice sa n c,pv,st,fv,lv],.int .i64 s] w fun e w'=>e=.returned (.bool r) /\ Below w.heap.size w w':=by
 by_cases h0:0<=s
 ·by_cases h1:s<(n:Int)
  ·have hv:r=true:=by rw [<- hr];simp;omega
   clear hr;go_enter Tryz.func34,Tryz.ntmps34;go_wp2_with fail
   go_ret;exact ⟨by rw [hv];rfl,(bR _ w).alloc (nR _) _⟩
  ·have hv:r=false:=by rw [<- hr];simp;omega
   have hd:decide (s<(n:Int))=false:=decide_eq_false h1;clear hr h1;go_enter Tryz.func34,Tryz.ntmps34;go_wp2_with fail
   go_ret;exact ⟨by rw [hv];rfl,(bR _ w).alloc (nR _) _⟩
 ·have hv:r=false:=by rw [<- hr];simp;omega
  have hd:decide (0<=s)=false:=decide_eq_false h0;clear hr h0;go_enter Tryz.func34,Tryz.ntmps34;go_wp2_with fail
  go_ret;exact ⟨by rw [hv];rfl,(bR _ w).alloc (nR _) _⟩
theorem words_zero (M:Nat) (h:M<2 ^ 256):((((((M / 2 ^ (64 * 0) % 18446744073709551616) ||| (M / 2 ^ (64 * 1) % 18446744073709551616)) ||| (M / 2 ^ (64 * 2) % 18446744073709551616)) ||| (M / 2 ^ (64 * 3) % 18446744073709551616):Nat):Int)==0)=decide (M=0):=by
 have h1:=wd_zero_iff M h;unfold wd at h1;rw [Bool.eq_iff_iff,decide_eq_true_iff,beq_iff_eq,<- h1]
 constructor
 ·intro hz;have hz:((((M / 2 ^ (64 * 0) % 18446744073709551616) ||| (M / 2 ^ (64 * 1) % 18446744073709551616)) ||| (M / 2 ^ (64 * 2) % 18446744073709551616)) ||| (M / 2 ^ (64 * 3) % 18446744073709551616):Nat)=0:=by omega
  rw [Nat.or_eq_zero_iff,Nat.or_eq_zero_iff,Nat.or_eq_zero_iff] at hz;obtain ⟨⟨⟨a,b⟩,c⟩,d⟩:=hz;rw [a,b,c,d];simp
 ·rintro ⟨a,b,c,d⟩;have a:(M / 2 ^ (64 * 0) % 18446744073709551616:Nat)=0:=by omega
  have b:(M / 2 ^ (64 * 1) % 18446744073709551616:Nat)=0:=by omega
  have c:(M / 2 ^ (64 * 2) % 18446744073709551616:Nat)=0:=by omega
  have d:(M / 2 ^ (64 * 3) % 18446744073709551616:Nat)=0:=by omega
  rw [a,b,c,d];simp
theorem rempty_any (M:Nat) (hM:M<2 ^ 256) (w:World) :
  Calls Tryz.prog 37 #[.agg #[.int .u64 (wd M 0),.int .u64 (wd M 1),.int .u64 (wd M 2),.int .u64 (wd M 3)]] w fun e w'=>e=.returned (.bool (decide (M=0))) /\ Below w.heap.size w w':=by
 have hz:=words_zero M hM;obtain ⟨a0,h0⟩:=eX (M / 2 ^ (64 * 0) % 18446744073709551616);obtain ⟨a1,h1⟩:=eX (M / 2 ^ (64 * 1) % 18446744073709551616);obtain ⟨a2,h2⟩:=eX (M / 2 ^ (64 * 2) % 18446744073709551616);obtain ⟨a3,h3⟩:=eX (M / 2 ^ (64 * 3) % 18446744073709551616);have l0:a0<2 ^ 64:=by rw [<- h0];exact Nat.mod_lt _ (by decide)
 have l1:a1<2 ^ 64:=by rw [<- h1];exact Nat.mod_lt _ (by decide)
 have l2:a2<2 ^ 64:=by rw [<- h2];exact Nat.mod_lt _ (by decide)
 have l3:a3<2 ^ 64:=by rw [<- h3];exact Nat.mod_lt _ (by decide)
 have w0:wd M 0=(a0:Int):=by unfold wd;rw [h0]
 have w1:wd M 1=(a1:Int):=by unfold wd;rw [h1]
 have w2:wd M 2=(a2:Int):=by unfold wd;rw [h2]
 have w3:wd M 3=(a3:Int):=by unfold wd;rw [h3]
 rw [h0,h1,h2,h3] at hz;rw [w0,w1,w2,w3];have o1:bits .or .u64 (a0:Int) (a1:Int)=((a0 ||| a1:Nat):Int):=or_nat _ _ l0 l1;have l01:a0 ||| a1<2 ^ 64:=Nat.or_lt_two_pow l0 l1;have o2:bits .or .u64 ((a0 ||| a1:Nat):Int) (a2:Int)=((a0 ||| a1 ||| a2:Nat):Int):=or_nat _ _ l01 l2;have l012:a0 ||| a1 ||| a2<2 ^ 64:=Nat.or_lt_two_pow l01 l2;have o3:bits .or .u64 ((a0 ||| a1 ||| a2:Nat):Int) (a3:Int)=((a0 ||| a1 ||| a2 ||| a3:Nat):Int):=or_nat _ _ l012 l3;obtain ⟨x1,e1⟩:=eX (a0 ||| a1);rw [e1] at o1 o2 o3 hz;obtain ⟨x2,e2⟩:=eX (x1 ||| a2);rw [e2] at o2 o3 hz;obtain ⟨x3,e3⟩:=eX (x2 ||| a3);rw [e3] at o3 hz;have HZ:=Hd hz;clear hz h0 h1 h2 h3 l0 l1 l2 l3 w0 w1 w2 w3 l01 l012 e1 e2 e3
 go_enter Tryz.func37,Tryz.ntmps37
 go_wp2_with fail
 go_ret;exact ⟨ret_bool HZ.out,(bR _ w).alloc (nR _) _⟩
theorem rprod_any (g:Gr) (hsn:g.sorts.length<=2000000) (w:World) (sa:Option Addr) (sc:Nat) (pv fv lv:Value) (p:Pr) (ra:Option Addr) (rc:Nat) (hr:SliceK (fun _=>True) encSy 6 w (.slice ra p.right.length rc) p.right) (hrl:p.right.length<=2000000) (hcl:p.cons.length<=2000000) (hset:∀ s∈p.right,s.set<2 ^ 256) :
  Calls Tryz.prog 35 #[.agg #[.slice sa g.sorts.length sc,pv,.int .i64 g.start,fv,lv],.agg #[.int .i64 p.left,.slice ra p.right.length rc,.string ⟨p.cons.toArray⟩,.int .i64 p.role,.bool p.prefer,.bool p.avoid,.int .i64 p.made]] w fun e w'=>e=.returned (.bool (prodB g p)) /\ Below w.heap.size w w':=by
 obtain ⟨ra2,rc2,ei,_,_,hk⟩:=hr;injection ei with ei1 _ ei3;subst ei1;subst ei3;have HK:=Z2.mk hk hset;clear hk hset
 go_enter Tryz.func35,Tryz.ntmps35
 go_upto_region 1 with fail
 have hB0:Blk ((w.alloc (.cells #[.slice sa g.sorts.length sc,pv,.int .i64 g.start,fv,lv] 27)).alloc (.cells #[.int .i64 p.left,.slice ra p.right.length rc,.string ⟨p.cons.toArray⟩,.int .i64 p.role,.bool p.prefer,.bool p.avoid,.int .i64 p.made] 53)) w.heap.size 27 #[.slice sa g.sorts.length sc,pv,.int .i64 g.start,fv,lv]:=(Blk.new _ _ _).alloc _;have hB1:Blk ((w.alloc (.cells #[.slice sa g.sorts.length sc,pv,.int .i64 g.start,fv,lv] 27)).alloc (.cells #[.int .i64 p.left,.slice ra p.right.length rc,.string ⟨p.cons.toArray⟩,.int .i64 p.role,.bool p.prefer,.bool p.avoid,.int .i64 p.made] 53)) (w.heap.size+1) 53 #[.int .i64 p.left,.slice ra p.right.length rc,.string ⟨p.cons.toArray⟩,.int .i64 p.role,.bool p.prefer,.bool p.avoid,.int .i64 p.made]:=Blk.new_ (by simp) _ _;have hb1:Below w.heap.size w ((w.alloc (.cells #[.slice sa g.sorts.length sc,pv,.int .i64 g.start,fv,lv] 27)).alloc (.cells #[.int .i64 p.left,.slice ra p.right.length rc,.string ⟨p.cons.toArray⟩,.int .i64 p.role,.bool p.prefer,.bool p.avoid,.int .i64 p.made] 53)):=((bR w.heap.size w).alloc (nR _) _).alloc (by simp) _
 generalize ((w.alloc (.cells #[.slice sa g.sorts.length sc,pv,.int .i64 g.start,fv,lv] 27)).alloc (.cells #[.int .i64 p.left,.slice ra p.right.length rc,.string ⟨p.cons.toArray⟩,.int .i64 p.role,.bool p.prefer,.bool p.avoid,.int .i64 p.made] 53))=W1 at hB0 hB1 hb1 ⊢;have H1:=Z3.mk hB0 hB1 hb1;clear hB0 hB1 hb1;have HF:=Hd (show ∀ W,Below W1.heap.size W1 W->(W.cell? ⟨w.heap.size,0,none⟩=some (.slice sa g.sorts.length sc) /\ W.cell? ⟨w.heap.size,1,none⟩=some pv /\ W.cell? ⟨w.heap.size,2,none⟩=some (.int .i64 g.start) /\ W.cell? ⟨w.heap.size,3,none⟩=some fv /\ W.cell? ⟨w.heap.size,4,none⟩=some lv) /\
   W.cell? ⟨w.heap.size+1,0,none⟩=some (.int .i64 p.left) /\ W.cell? ⟨w.heap.size+1,1,none⟩=some (.slice ra p.right.length rc) /\ W.cell? ⟨w.heap.size+1,2,none⟩=some (.string ⟨p.cons.toArray⟩) /\ W.cell? ⟨w.heap.size+1,3,none⟩=some (.int .i64 p.role) /\ W.cell? ⟨w.heap.size+1,4,none⟩=some (.bool p.prefer) /\ W.cell? ⟨w.heap.size+1,5,none⟩=some (.bool p.avoid) /\ W.cell? ⟨w.heap.size+1,6,none⟩=some (.int .i64 p.made) from fun W h=>by
  have a:=H1.o1.below h H1.o1.lt;have b:=H1.o2.below h H1.o2.lt;exact ⟨⟨a.cell 0,a.cell 1,a.cell 2,a.cell 3,a.cell 4⟩,b.cell 0,b.cell 1,b.cell 2,b.cell 3,b.cell 4,b.cell 5,b.cell 6⟩)
 generalize (Value.agg #[.int .i64 p.left,.slice ra p.right.length rc,.string ⟨p.cons.toArray⟩,.int .i64 p.role,.bool p.prefer,.bool p.avoid,.int .i64 p.made]:Value)=prm
 go_cut [56] from 7 to 56 (fun s56 wx=>s56=.bool (!headB g p) /\ Below W1.heap.size W1 wx)
 case first =>
  rcases head_arms g p with ⟨hh,hin⟩ | ⟨hh,hin,o1⟩ | ⟨hh,hin,o1,o2⟩ | ⟨hh,hin,o1,o2,o3⟩ | ⟨hh,hin,o1,o2,o3,o4⟩ | ⟨hh,hin,o1,o2,o3,o4,o5⟩ | ⟨hh,hin,o1,o2,o3,o4,o5,o6,o7⟩ | ⟨hh,hin,o1,o2,o3,o4,o5,o6,o7,o8⟩ | ⟨hh,hin,o1,o2,o3,o4,o5,o6,o7,o8⟩ | ⟨hh,hin,o1,o2,o3,o4,o5,o6,o7⟩ | ⟨hh,hin,o1,o2,o3,o4,o5,o6,o7,o8⟩ | ⟨hh,hin,o1,o2,o3,o4,o5,o6,o7⟩ | ⟨hh,hin,o1,o2,o3,o4,o5,o6,o7,o8⟩
  all_goals (
  obtain ⟨⟨g0,g1,g2,g3,g4⟩,x0,x1,x2,x3,x4,x5,x6⟩:=HF.out W1 (bR _ _);unfold inB at hin;have HH:=Z2.mk hh hin;clear hh hin;go_wp2_with fail
  refine (rsort_any W1 _ _ _ _ _ _ _ p.left _ HH.o2).mono ?_;rintro e w4 ⟨rfl,hb4⟩;clear g0 g1 g2 g3 g4 x0 x1 x2 x3 x4 x5 x6;obtain ⟨⟨g0,g1,g2,g3,g4⟩,x0,x1,x2,x3,x4,x5,x6⟩:=HF.out w4 hb4;have HB:=Hd hb4;clear hb4 g0 g1 g2 g3 g4;go_wp2_with fail
  all_goals (go_meet;exact ⟨by rw [HH.o1];rfl,HB.out⟩))
 case rest =>
  obtain ⟨rfl,hb4⟩:=hcut;have A4:=Hd hb4;clear hb4
  cases hhd:headB g p with
  | false =>
   have HV:=Hd (show prodB g p=false from prodB_head hhd);clear hhd;go_wp2_with fail
   go_ret;exact ⟨by rw [HV.out];rfl,H1.o3.trans (A4.out.mono H1.o3.size)⟩
  | true =>
   have HHD:=Hd hhd;clear hhd;go_wp2_with fail
   go_loopg [5] p.right.length (fun m v5 wx=>∃ i:Nat,i<=p.right.length /\ m=p.right.length - i /\ v5=.int .i64 i /\ (∀ s∈p.right.take i,symB g p.role s=true) /\ Below W1.heap.size W1 wx)
   case atStart=>exact ⟨0,by omega,rfl,rfl,by simp,A4.out⟩
   case round =>
    obtain ⟨i,hi,hm,rfl,hdone,hb⟩:=hrel;obtain ⟨_,x0,x1,x2,x3,x4,x5,x6⟩:=HF.out wr hb
    by_cases hil:i<p.right.length
    ·have hil1:(i:Int)<p.right.length:=by omega
     have hi0:(0:Int)<=i:=by omega
     obtain ⟨s,hs⟩:∃ x,p.right[i]?=some x:=⟨_,gE hil⟩;have hsm:=gM hs;have hs256:=HK.o2 s hsm;have hbw:Below w.heap.size w wr:=H1.o3.trans (hb.mono H1.o3.size);obtain ⟨rb,ro,rfl,_,hrr⟩:=HK.o1 (by rintro h;rw [h] at hil;simp at hil);have up:∀ {i:Nat} {u:Value},w.cell? ⟨rb,i,none⟩=some u->wr.cell? ⟨rb,i,none⟩=some u:=fun h=>(wB (hbw.block rb hrr.lt)).trans h;have c0:=up (hrr.cells i _ hs 0 _ rfl);have c1:=up (hrr.cells i _ hs 1 _ rfl);have c2:=up (hrr.cells i _ hs 2 _ rfl);have c3:=up (hrr.cells i _ hs 3 _ rfl);have c4:=up (hrr.cells i _ hs 4 _ rfl);have c5:=up (hrr.cells i _ hs 5 _ rfl);simp only [Nat.add_zero] at c0;have HR:=Z5.mk hm hdone hb hs hsm;have hno:=fun h=>prodB_sym (g:=g) hsm h;clear hm hdone hb hs hsm hbw up hrr;go_upto_region 7 with fail
     have hQ:Blk (wr.alloc (.cells #[.int .i64 s.kind,.int .u64 (wd s.set 0),.int .u64 (wd s.set 1),.int .u64 (wd s.set 2),.int .u64 (wd s.set 3),.int .i64 s.sort] 49)) wr.heap.size 49 #[.int .i64 s.kind,.int .u64 (wd s.set 0),.int .u64 (wd s.set 1),.int .u64 (wd s.set 2),.int .u64 (wd s.set 3),.int .i64 s.sort]:=Blk.new _ _ _;have hb5:Below wr.heap.size wr (wr.alloc (.cells #[.int .i64 s.kind,.int .u64 (wd s.set 0),.int .u64 (wd s.set 1),.int .u64 (wd s.set 2),.int .u64 (wd s.set 3),.int .i64 s.sort] 49)):=(bR _ wr).alloc (nR _) _;generalize (wr.alloc (.cells #[.int .i64 s.kind,.int .u64 (wd s.set 0),.int .u64 (wd s.set 1),.int .u64 (wd s.set 2),.int .u64 (wd s.set 3),.int .i64 s.sort] 49))=w5 at hQ hb5 ⊢;obtain ⟨kq,hkq⟩:=eX wr.heap.size;rw [hkq] at hQ ⊢;have hb15:=HR.o3.trans (hb5.mono HR.o3.size);have H5:=Z2.mk hQ hb15;have HS:=Hd (show ∀ W,Below w5.heap.size w5 W->Below W1.heap.size W1 W /\ (W.cell? ⟨kq,0,none⟩=some (.int .i64 s.kind) /\ W.cell? ⟨kq,1,none⟩=some (.int .u64 (wd s.set 0)) /\ W.cell? ⟨kq,2,none⟩=some (.int .u64 (wd s.set 1)) /\ W.cell? ⟨kq,3,none⟩=some (.int .u64 (wd s.set 2)) /\ W.cell? ⟨kq,4,none⟩=some (.int .u64 (wd s.set 3)) /\ W.cell? ⟨kq,5,none⟩=some (.int .i64 s.sort)) from fun W h=>by
      have b:=H5.o1.below h H5.o1.lt;exact ⟨H5.o2.trans (h.mono H5.o2.size),b.cell 0,b.cell 1,b.cell 2,b.cell 3,b.cell 4,b.cell 5⟩)
     have hem:=fun W=>rempty_any s.set hs256 W;clear hQ hb5 hb15 hkq c0 c1 c2 c3 c4 c5 x0 x1 x2 x3 x4 x5 x6 hs256;obtain ⟨hb6,y0,y1,y2,y3,y4,y5⟩:=HS.out w5 (bR _ _);clear hb6
     rcases sym_arms g p.role s with ⟨hh,k0,e0⟩ | ⟨hh,k0,e0,s0⟩ | ⟨hh,k0,e0,s0⟩ | ⟨hh,k0,e0⟩ | ⟨hh,k0,e0,s0⟩ | ⟨hh,k0,e0,s0,r0⟩ | ⟨hh,k0,e0,s0,r0⟩ | ⟨hh,k0,k1⟩
     ·have HV:=Hd (hno hh);clear hno hh;have d0:decide (s.set=0)=true:=decide_eq_true e0;rw [d0] at hem;clear d0 e0;rw [k0] at y0 HS;clear k0;go_wp2_with fail
      refine (hem w5).mono ?_;rintro e w6 ⟨rfl,hbw6⟩;have Bw6:=Hd ((bR w5.heap.size w5).trans (hbw6.mono (bR w5.heap.size w5).size));clear hbw6 y0 y1 y2 y3 y4 y5;obtain ⟨_,y0,y1,y2,y3,y4,y5⟩:=HS.out w6 Bw6.out;obtain ⟨⟨g0,g1,g2,g3,g4⟩,x0,x1,x2,x3,x4,x5,x6⟩:=HF.out w6 (HS.out w6 Bw6.out).1;go_wp2_with fail
      go_ret;exact ⟨by rw [HV.out];rfl,H1.o3.trans (((HS.out w6 Bw6.out).1).mono H1.o3.size)⟩
     ·have HV:=Hd (hno hh);clear hno hh;have d0:decide (s.set=0)=false:=decide_eq_false e0;rw [d0] at hem;clear d0 e0;rw [k0] at y0 HS;clear k0;go_wp2_with fail
      refine (hem w5).mono ?_;rintro e w6 ⟨rfl,hbw6⟩;have Bw6:=Hd ((bR w5.heap.size w5).trans (hbw6.mono (bR w5.heap.size w5).size));clear hbw6 y0 y1 y2 y3 y4 y5;obtain ⟨_,y0,y1,y2,y3,y4,y5⟩:=HS.out w6 Bw6.out;obtain ⟨⟨g0,g1,g2,g3,g4⟩,x0,x1,x2,x3,x4,x5,x6⟩:=HF.out w6 (HS.out w6 Bw6.out).1;go_wp2_with fail
      go_ret;exact ⟨by rw [HV.out];rfl,H1.o3.trans (((HS.out w6 Bw6.out).1).mono H1.o3.size)⟩
     ·have HV:=Hd hh;clear hno hh;have d0:decide (s.set=0)=false:=decide_eq_false e0;rw [d0] at hem;clear d0 e0;rw [k0] at y0 HS;clear k0;rw [s0] at y5 HS;clear s0;go_wp2_with fail
      refine (hem w5).mono ?_;rintro e w6 ⟨rfl,hbw6⟩;have Bw6:=Hd ((bR w5.heap.size w5).trans (hbw6.mono (bR w5.heap.size w5).size));clear hbw6 y0 y1 y2 y3 y4 y5;obtain ⟨_,y0,y1,y2,y3,y4,y5⟩:=HS.out w6 Bw6.out;obtain ⟨⟨g0,g1,g2,g3,g4⟩,x0,x1,x2,x3,x4,x5,x6⟩:=HF.out w6 (HS.out w6 Bw6.out).1;go_wp2_with fail
      go_roundg (p.right.length - (i+1))
      case measure=>have:=HR.o1;omega
      case rel =>
       refine ⟨i+1,by omega,rfl,rfl,fun t ht=>?_,(HS.out w6 Bw6.out).1⟩;rw [List.take_add_one,HR.o4] at ht
       rcases List.mem_append.1 ht with ht | ht
       ·exact HR.o2 t ht
       ·simp at ht;subst ht;exact HV.out
     ·have HV:=Hd (hno hh);clear hno hh;have d0:decide (s.set=0)=false:=decide_eq_false e0;rw [d0] at hem;clear d0 e0;rw [k0] at y0 HS;clear k0;go_wp2_with fail
      refine (hem w5).mono ?_;rintro e w6 ⟨rfl,hbw6⟩;have Bw6:=Hd ((bR w5.heap.size w5).trans (hbw6.mono (bR w5.heap.size w5).size));clear hbw6 y0 y1 y2 y3 y4 y5;obtain ⟨_,y0,y1,y2,y3,y4,y5⟩:=HS.out w6 Bw6.out;obtain ⟨⟨g0,g1,g2,g3,g4⟩,x0,x1,x2,x3,x4,x5,x6⟩:=HF.out w6 (HS.out w6 Bw6.out).1;go_wp2_with fail
      go_ret;exact ⟨by rw [HV.out];rfl,H1.o3.trans (((HS.out w6 Bw6.out).1).mono H1.o3.size)⟩
     ·have HV:=Hd (hno hh);clear hno hh;have d0:decide (s.set=0)=true:=decide_eq_true e0;rw [d0] at hem;clear d0 e0;rw [k0] at y0 HS;clear k0;unfold inB at s0;have HS0:=Hd s0;clear s0;go_wp2_with fail
      refine (hem w5).mono ?_;rintro e w6 ⟨rfl,hbw6⟩;have Bw6:=Hd ((bR w5.heap.size w5).trans (hbw6.mono (bR w5.heap.size w5).size));clear hbw6 y0 y1 y2 y3 y4 y5;obtain ⟨_,y0,y1,y2,y3,y4,y5⟩:=HS.out w6 Bw6.out;obtain ⟨⟨g0,g1,g2,g3,g4⟩,x0,x1,x2,x3,x4,x5,x6⟩:=HF.out w6 (HS.out w6 Bw6.out).1;go_wp2_with fail
      refine (rsort_any w6 _ _ _ _ _ _ _ s.sort false HS0.out).mono ?_;rintro e w7 ⟨rfl,hbw7⟩;have Bw7:=Hd (Bw6.out.trans (hbw7.mono Bw6.out.size));clear hbw7 y0 y1 y2 y3 y4 y5 g0 g1 g2 g3 g4 x0 x1 x2 x3 x4 x5 x6;obtain ⟨_,y0,y1,y2,y3,y4,y5⟩:=HS.out w7 Bw7.out;obtain ⟨⟨g0,g1,g2,g3,g4⟩,x0,x1,x2,x3,x4,x5,x6⟩:=HF.out w7 (HS.out w7 Bw7.out).1;go_wp2_with fail
      go_ret;exact ⟨by rw [HV.out];rfl,H1.o3.trans (((HS.out w7 Bw7.out).1).mono H1.o3.size)⟩
     ·have HV:=Hd (hno hh);clear hno hh;have d0:decide (s.set=0)=true:=decide_eq_true e0;rw [d0] at hem;clear d0 e0;rw [k0] at y0 HS;clear k0;unfold inB at s0;have HS0:=Hd s0;clear s0;go_wp2_with fail
      refine (hem w5).mono ?_;rintro e w6 ⟨rfl,hbw6⟩;have Bw6:=Hd ((bR w5.heap.size w5).trans (hbw6.mono (bR w5.heap.size w5).size));clear hbw6 y0 y1 y2 y3 y4 y5;obtain ⟨_,y0,y1,y2,y3,y4,y5⟩:=HS.out w6 Bw6.out;obtain ⟨⟨g0,g1,g2,g3,g4⟩,x0,x1,x2,x3,x4,x5,x6⟩:=HF.out w6 (HS.out w6 Bw6.out).1;go_wp2_with fail
      refine (rsort_any w6 _ _ _ _ _ _ _ s.sort true HS0.out).mono ?_;rintro e w7 ⟨rfl,hbw7⟩;have Bw7:=Hd (Bw6.out.trans (hbw7.mono Bw6.out.size));clear hbw7 y0 y1 y2 y3 y4 y5 g0 g1 g2 g3 g4 x0 x1 x2 x3 x4 x5 x6;obtain ⟨_,y0,y1,y2,y3,y4,y5⟩:=HS.out w7 Bw7.out;obtain ⟨⟨g0,g1,g2,g3,g4⟩,x0,x1,x2,x3,x4,x5,x6⟩:=HF.out w7 (HS.out w7 Bw7.out).1;go_wp2_with fail
      go_ret;exact ⟨by rw [HV.out];rfl,H1.o3.trans (((HS.out w7 Bw7.out).1).mono H1.o3.size)⟩
     ·have HV:=Hd hh;clear hno hh;have d0:decide (s.set=0)=true:=decide_eq_true e0;rw [d0] at hem;clear d0 e0;rw [k0] at y0 HS;clear k0;unfold inB at s0;have HS0:=Hd s0;clear s0;go_wp2_with fail
      refine (hem w5).mono ?_;rintro e w6 ⟨rfl,hbw6⟩;have Bw6:=Hd ((bR w5.heap.size w5).trans (hbw6.mono (bR w5.heap.size w5).size));clear hbw6 y0 y1 y2 y3 y4 y5;obtain ⟨_,y0,y1,y2,y3,y4,y5⟩:=HS.out w6 Bw6.out;obtain ⟨⟨g0,g1,g2,g3,g4⟩,x0,x1,x2,x3,x4,x5,x6⟩:=HF.out w6 (HS.out w6 Bw6.out).1;go_wp2_with fail
      refine (rsort_any w6 _ _ _ _ _ _ _ s.sort true HS0.out).mono ?_;rintro e w7 ⟨rfl,hbw7⟩;have Bw7:=Hd (Bw6.out.trans (hbw7.mono Bw6.out.size));clear hbw7 y0 y1 y2 y3 y4 y5 g0 g1 g2 g3 g4 x0 x1 x2 x3 x4 x5 x6;obtain ⟨_,y0,y1,y2,y3,y4,y5⟩:=HS.out w7 Bw7.out;obtain ⟨⟨g0,g1,g2,g3,g4⟩,x0,x1,x2,x3,x4,x5,x6⟩:=HF.out w7 (HS.out w7 Bw7.out).1;go_wp2_with fail
      go_roundg (p.right.length - (i+1))
      case measure=>have:=HR.o1;omega
      case rel =>
       refine ⟨i+1,by omega,rfl,rfl,fun t ht=>?_,(HS.out w7 Bw7.out).1⟩;rw [List.take_add_one,HR.o4] at ht
       rcases List.mem_append.1 ht with ht | ht
       ·exact HR.o2 t ht
       ·simp at ht;subst ht;exact HV.out
     ·have HV:=Hd (hno hh);clear hno hh;have d0:(s.kind != 0)=true:=by simpa using k0
      have d1:(s.kind != 1)=true:=by simpa using k1
      have b0:(s.kind==0)=false:=by simpa using k0
      have b1:(s.kind==1)=false:=by simpa using k1
      clear hem;go_wp2_with fail
      go_ret;exact ⟨by rw [HV.out];rfl,H1.o3.trans ((H5.o2).mono H1.o3.size)⟩
    ·obtain rfl:i=p.right.length:=by omega
     have HV:=Hd (An (show prodB g p=true from by
      unfold prodB;rw [HHD.out,Bool.true_and,List.all_eq_true];intro s hs;exact hdone s (by rw [List.take_length];exact hs)) hb)
     clear hdone hb hm;go_wp2_with fail
     go_ret;exact ⟨by rw [HV.out.1];rfl,H1.o3.trans (HV.out.2.mono H1.o3.size)⟩
end Go.Proofs.YthiochcpmfkgcaaGreatDoor.Tb
