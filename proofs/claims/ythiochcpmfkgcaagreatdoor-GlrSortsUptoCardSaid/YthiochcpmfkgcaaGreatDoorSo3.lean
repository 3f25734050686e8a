/- Walks and plain laws that the last text stands on: TbBytes, GlKey. -/
import Derived.Test.YthiochcpmfkgcaaGreatDoorSo2
import Derived.Shelf.Spec.TrailingZeros
import Derived.Shelf.RegionOpen
import Derived.LoopNIn
import Derived.LoopIn
import Derived.Deep.CutRange
set_option linter.unusedVariables false
set_option linter.unusedSimpArgs false
set_option maxRecDepth 100000
set_option maxHeartbeats 16000000
namespace Go.Proofs.YthiochcpmfkgcaaGreatDoor.Tb
open Go Go.RowKit Go.Proofs Mx Go.Shelf
abbrev LB:Nat:=1+1
def bytesTo (M n:Nat):List UInt8:=((List.range n).filter (fun i=>M.testBit i)).map UInt8.ofNat
def bytesOf (M:Nat):List UInt8:=bytesTo M 256
theorem bytesTo_succ (M n:Nat):bytesTo M (n+1)=if M.testBit n then bytesTo M n++[UInt8.ofNat n] else bytesTo M n:=by
 unfold bytesTo;rw [List.range_succ,List.filter_append]
 cases h:M.testBit n <;> simp [h]
def wdN (M j:Nat):Nat:=M / 2 ^ (64 * j) % 18446744073709551616
theorem wdN_lt (M j:Nat):wdN M j<2 ^ 64:=Nat.mod_lt _ (by decide)
theorem and_pow (k A B p q:Nat) (hp:p<2 ^ k) (hq:q<2 ^ k):(2 ^ k * A+p) &&& (2 ^ k * B+q)=2 ^ k * (A &&& B)+(p &&& q):=by
 have h1:((2 ^ k * A+p) &&& (2 ^ k * B+q)) % 2 ^ k=p &&& q:=by
  rw [Nat.and_mod_two_pow,Nat.mul_add_mod,Nat.mul_add_mod,Nat.mod_eq_of_lt hp,Nat.mod_eq_of_lt hq]
 have h2:((2 ^ k * A+p) &&& (2 ^ k * B+q)) / 2 ^ k=A &&& B:=by
  have:=Nat.shiftRight_and_distrib (a:=2 ^ k * A+p) (b:=2 ^ k * B+q) (i:=k);rw [Nat.shiftRight_eq_div_pow,Nat.shiftRight_eq_div_pow,Nat.shiftRight_eq_div_pow] at this;rw [this,Nat.mul_add_div (Nat.two_pow_pos k),Nat.mul_add_div (Nat.two_pow_pos k),Nat.div_eq_of_lt hp,Nat.div_eq_of_lt hq]
  rfl
 rw [<- Nat.div_add_mod ((2 ^ k * A+p) &&& (2 ^ k * B+q)) (2 ^ k),h1,h2]
theorem low_clear (x k m:Nat) (h:x=2 ^ k * (2 * m+1)):x &&& (x - 1)=2 ^ k * (2 * m):=by
 have hp:=Nat.two_pow_pos k;have e1:x=2 ^ k * (2 * m+1)+0:=h;have e2:x - 1=2 ^ k * (2 * m)+(2 ^ k - 1):=by rw [h,Nat.mul_add,Nat.mul_one];omega
 have e3:(2 * m+1) &&& (2 * m)=2 * m:=by
  have:=and_pow 1 m m 1 0 (by decide) (by decide)
  simpa using this
 rw [e2]
 conv=>lhs;lhs;rw [e1]
 rw [and_pow k _ _ 0 _ hp (by omega),e3];simp
theorem filter_first (p q:Nat->Bool) (k:Nat) (hk:p k=true) (hlow:∀ i,i<k->p i=false) (hq:∀ i,q i=(p i&&decide (i≠k))):∀ n,k<n->(List.range n).filter p=k::(List.range n).filter q:=by
 intro n
 induction n with
 | zero=>intro h;omega
 | succ n ih =>
  intro h;rw [List.range_succ,List.filter_append,List.filter_append]
  by_cases hkn:k=n
  ·subst hkn
   have h1:(List.range k).filter p=[]:=by
    rw [List.filter_eq_nil_iff];intro i hi;rw [hlow i (by simpa using hi)];simp
   have h2:(List.range k).filter q=[]:=by
    rw [List.filter_eq_nil_iff];intro i hi;rw [hq,hlow i (by simpa using hi)];simp
   rw [h1,h2];simp [hk,hq]
  ·rw [ih (by omega)];have:q n=p n:=by rw [hq];simp;intro _;omega
   simp [List.filter_cons,this]
theorem bits_first (x k m n:Nat) (h:x=2 ^ k * (2 * m+1)) (hk:k<n) :
  (List.range n).filter (fun i=>x.testBit i)=k::(List.range n).filter (fun i=>(2 ^ k * (2 * m)).testBit i):=by
 have ht:∀ t i,(2 ^ k * t).testBit i=(decide (k<=i)&&t.testBit (i - k)):=fun t i=>by rw [Nat.testBit_two_pow_mul]
 refine filter_first _ _ k ?_ ?_ ?_ n hk
 ·rw [h,ht];simp
 ·intro i hi;rw [h,ht];simp;omega
 ·intro i;rw [h,ht,ht]
  rcases Nat.lt_trichotomy i k with hlt | rfl | hgt
  ·have:decide (k<=i)=false:=by simp;omega
   rw [this];rfl
  ·simp
  ·obtain ⟨d,hd⟩:∃ d,i - k=d+1:=⟨i - k - 1,by omega⟩;rw [hd,Nat.testBit_succ,Nat.testBit_succ,show (2 * m+1) / 2=m by omega,show 2 * m / 2=m by omega];have:decide (i≠k)=true:=by simp;omega
   rw [this];simp
def wordBytes (M j:Nat):List UInt8:=((List.range 64).filter (fun i=>(wdN M j).testBit i)).map (fun i=>UInt8.ofNat (64 * j+i))
theorem bytesTo_word (M n:Nat):∀ m,bytesTo M (n+m)=bytesTo M n++((List.range m).filter (fun i=>M.testBit (n+i))).map (fun i=>UInt8.ofNat (n+i)):=by
 intro m
 induction m with
 | zero=>simp
 | succ m ih =>
  rw [<- Nat.add_assoc,bytesTo_succ,ih,List.range_succ,List.filter_append,List.map_append]
  cases h:M.testBit (n+m) <;> simp [h]
theorem bytesOf_words (M:Nat):bytesOf M=wordBytes M 0++(wordBytes M 1++(wordBytes M 2++wordBytes M 3)):=by
 have hw:∀ j,wordBytes M j=((List.range 64).filter (fun i=>M.testBit (64 * j+i))).map (fun i=>UInt8.ofNat (64 * j+i)):=by
  intro j;unfold wordBytes;congr 1;apply List.filter_congr;intro i hi;have:i<64:=by simpa using hi
  rw [wdN,show (18446744073709551616:Nat)=2 ^ 64 by decide,Nat.testBit_mod_two_pow,Nat.testBit_div_two_pow];simp [this,Nat.add_comm]
 unfold bytesOf;rw [show (256:Nat)=0+64+64+64+64 from rfl,bytesTo_word,bytesTo_word,bytesTo_word,bytesTo_word,hw,hw,hw,hw];simp [bytesTo]
def Bru (w:World):Prop:=∀ j,j<64->w.cell? ⟨1,j,none⟩=some (.int .u8 (Lib.deBruijn64tab.getD j 0))
theorem Bru.below {w w':World} {B:Nat} (h:Bru w) (hb:Below B w w') (hB:LB<=B):Bru w':=fun j hj =>
 (hb.cell (p:=⟨1,j,none⟩) (nL (show 1<LB by decide) hB)).trans (h j hj)
theorem tz_core (x k idx:Nat) (w:World) (hx0:((x:Int)==0)=false)
  (key:IntKind.u64.wrap (bits BinOp.and IntKind.u64 (x:Int) (IntKind.u64.wrap (-(x:Int))) * 285870213051353865) / 288230376151711744=(idx:Int))
  (hi:idx<64) (hk:k<64) (hcell:w.cell? ⟨1,idx,none⟩=some (.int .u8 k)) :
  Calls Tryz.prog 173 #[.int .u64 (x:Int)] w fun e w'=>e=.returned (.int .i64 k) /\ w=w':=by
 go_enter Tryz.func173,Tryz.ntmps173
 go_wp2_with (simp only [key])
 go_ret;exact ⟨rfl,rfl⟩
theorem tz_any (x:Nat) (hx:x<18446744073709551616) (hx0:x≠0) (w:World) (hT:Bru w) :
  Calls Tryz.prog 173 #[.int .u64 (x:Int)] w fun e w'=>e=.returned (.int .i64 (Lib.ctz 64 x)) /\ w=w':=by
 obtain ⟨hlow,hk⟩:=Lib.lowest_bit 64 x hx0 hx;obtain ⟨hi,htab⟩:=Lib.deBruijn64_at _ hk;have hi':Lib.ctz 64 x<64:=hk;have hcell:=hT _ (show _<64 from hi);rw [htab] at hcell;exact tz_core x _ _ w (by simp;omega) (tz64_key x _ hx hx0 hlow) hi hk hcell
theorem ix0 (a b c d:Value) (w:World):(Instr.index 33 (.agg #[a,b,c,d]) (.int .i64 0)).run Tryz.prog w=.ok a w:=by kernel_rfl
theorem ix1 (a b c d:Value) (w:World):(Instr.index 33 (.agg #[a,b,c,d]) (.int .i64 1)).run Tryz.prog w=.ok b w:=by kernel_rfl
theorem ix2 (a b c d:Value) (w:World):(Instr.index 33 (.agg #[a,b,c,d]) (.int .i64 2)).run Tryz.prog w=.ok c w:=by kernel_rfl
theorem ix3 (a b c d:Value) (w:World):(Instr.index 33 (.agg #[a,b,c,d]) (.int .i64 3)).run Tryz.prog w=.ok d w:=by kernel_rfl
attribute [local go_sem] Oper.semAt_some
theorem callsIn_mk {n:Nat} {P:Program} {f:FuncId} {args:Array Value} {w:World} {R:Ending->World->Prop} (h:Calls P f args w R):CallsIn Fence.wide n P f args w R:=callsIn_wide.2 h
theorem abides_below {β:Type} {B:Nat} {J:β->World->Prop} (h:AbidesFrom B J) {s:β} {W W':World} (hs:J s W) (hb:Below W.heap.size W W'):J s W' :=
 h s W W' none hs ⟨hb.os,hb.tape,hb.output,hb.size,fun k hk _=>hb.block k hk⟩ (fun r e=>by cases e)
theorem yield_bool {e:Ending} {A B:Prop} (h:(e=.returned (.bool true) /\ A)∨(e=.returned (.bool false) /\ B)):∃ b,e=.returned (.bool b) /\ Hid ((b=true->A) /\ (b=false->B)):=by
 rcases h with ⟨rfl,h⟩ | ⟨rfl,h⟩
 ·exact ⟨true,rfl,⟨fun _=>h,fun h=>absurd h (by decide)⟩⟩
 ·exact ⟨false,rfl,⟨fun h=>absurd h (by decide),fun _=>h⟩⟩
theorem bytes_any (M:Nat) (w:World) :
  Calls Tryz.prog 146 #[setV M] w fun e w'=>e=.returned (.func (.func 172) #[] #[.pointer (some ⟨w.heap.size,0,none⟩)]) /\ w'=w.alloc (.cells (setC M) 33):=by
 have hmf:∀ (fn:Fn) (first cap:Array Value) (w:World),(Instr.makeFunc fn first cap).run Tryz.prog w=.ok (.func fn first cap) w:=fun _ _ _ _=>rfl;unfold setV;go_enter Tryz.func146,Tryz.ntmps146
 go_wp2
 go_ret;exact ⟨rfl,rfl⟩
def byteK (M k:Nat):UInt8:=(bytesOf M).getD k 0
def tailW (M j:Nat):List UInt8 :=
 if j=0 then bytesOf M else if j=1 then wordBytes M 1++(wordBytes M 2++wordBytes M 3) else if j=2 then wordBytes M 2++wordBytes M 3 else if j=3 then wordBytes M 3 else []
def restW (j y:Nat):List UInt8:=((List.range 64).filter (fun i=>y.testBit i)).map (fun i=>UInt8.ofNat (64 * j+i))
theorem tailW_next (M j:Nat) (hj:j<4):tailW M j=restW j (wdN M j)++tailW M (j+1):=by
 match j,hj with
 | 0,_=>exact bytesOf_words M
 | 1,_=>rfl
 | 2,_=>rfl
 | 3,_=>show wordBytes M 3=wordBytes M 3++[];simp
theorem restW_zero (j:Nat):restW j 0=[]:=by simp [restW]
theorem restW_next (j y:Nat) (hy:y≠0) (hlt:y<2 ^ 64):∃ t,t<64 /\ t=Lib.ctz 64 y /\ y &&& (y - 1)<y /\ restW j y=UInt8.ofNat (64 * j+t)::restW j (y &&& (y - 1)):=by
 have hc:Lib.ctz 64 y=Lib.ctzFrom 64 y:=by rw [Lib.ctz,if_neg hy]
 obtain ⟨m,hm,ht⟩:=Lib.ctzFrom_spec 64 y (by omega) hlt;refine ⟨Lib.ctzFrom 64 y,ht,hc.symm,?_,?_⟩
 ·have:=@Nat.and_le_right y (y - 1);omega
 ·have h1:=bits_first y _ m 64 hm ht;rw [low_clear y _ m hm];unfold restW;rw [h1]
  rfl
theorem drop_getD (l:List UInt8) (k:Nat) (b:UInt8) (t:List UInt8) (h:l.drop k=b::t):k<l.length /\ l.getD k 0=b /\ l.drop (k+1)=t:=by
 have hk:k<l.length:=by
  rcases Nat.lt_or_ge k l.length with h1 | h1
  ·exact h1
  ·rw [List.drop_eq_nil_of_le h1] at h;cases h
 rw [List.drop_eq_getElem_cons hk] at h;injection h with h1 h2;exact ⟨hk,by simp [List.getD,gE hk,h1],h2⟩

theorem bytes_iter (M n n0 bs:Nat) (hn:1<=n) (w:World) (hT:Bru w) (hn6:LB<=n0) (hn0:n0<=w.heap.size) (hbs:Blk w bs 33 (setC M)) :
  SeqP Fence.wide n Tryz.prog 172 #[.pointer (some ⟨bs,0,none⟩)] (fun k=>#[.int .u8 ((byteK M k).toNat:Int)]) (Below n0) (bytesOf M).length w:=by
 intro l J Jx W hW' hY h0;have hbW:Blk W bs 33 (setC M):=hbs.below hW' hbs.lt;have hW:=hW'.mono hn0;have hsW:n0<=W.heap.size:=Nat.le_trans hn0 hW'.size;clear hW';obtain ⟨c0,c1,c2,c3,cf⟩:=Blk.facts4 (v0:=.int .u64 ((wdN M 0:Nat):Int)) (v1:=.int .u64 ((wdN M 1:Nat):Int)) (v2:=.int .u64 ((wdN M 2:Nat):Int)) (v3:=.int .u64 ((wdN M 3:Nat):Int)) hbW;have hro:Fence.wide.round=none:=rfl;have i0:=ix0;have i1:=ix1;have i2:=ix2;have i3:=ix3;refine callsIn_of_wp Tryz.func172 rfl trivial ?_ hro;simp only [Tryz.ntmps172,List.size_toArray,List.length_cons,List.length_nil,Nat.reduceAdd,Nat.reduceSub,Array.replicate_succ,Array.replicate_zero,List.push_toArray,List.append_toArray,List.nil_append,List.cons_append]
 gi_wp2
 gi_loopw [6] (fun i wr=>∃ j k:Nat,j<=4 /\ i=.int .i64 j /\ (bytesOf M).drop k=tailW M j /\ J k wr /\ Below n0 w wr /\ n0<=wr.heap.size /\ k<=(bytesOf M).length) (fun i _=>4 - (intOf i).toNat)
 case atStart=>exact ⟨0,0,by omega,rfl,rfl,h0,hW,hsW,Nat.zero_le _⟩
 case round =>
  obtain ⟨j,k,hj,rfl,hdr,hJk,hbr,hsr,hkN⟩:=hrel;have HO:=Z5.mk hdr hJk hbr hsr hkN;clear hdr hJk hbr hsr hkN h0 hW
  rcases (show j=0∨j=1∨j=2∨j=3∨j=4 by omega) with rfl | rfl | rfl | rfl | rfl
  ·gi_wp2
   obtain ⟨wo,rfl⟩:∃ wo:World,wo=wr:=⟨_,rfl⟩
   gi_loopw [4] (fun v wr=>∃ y k:Nat,v=.int .u64 (y:Int) /\ y<2 ^ 64 /\ (bytesOf M).drop k=restW 0 y++tailW M 1 /\ J k wr /\ Below n0 w wr /\ n0<=wr.heap.size /\ k<=(bytesOf M).length) (fun v _=>(intOf v).toNat)
   case atStart=>exact ⟨wdN M 0,k,rfl,wdN_lt M 0,by rw [HO.o1];exact tailW_next M 0 (by decide),HO.o2,HO.o3,(An HO.o4 HO.o5)⟩
   case round =>
    obtain ⟨y,k,rfl,hy,hdr,hJk,hbr,hsr,hkN⟩:=hrel;clear HO
    by_cases hy0:y=0
    ·subst hy0;rw [restW_zero,List.nil_append] at hdr;have HI:=Z5.mk hdr hJk hbr hsr hkN;clear hdr hJk hbr hsr hkN
     gi_wp2
     go_roundw
     case rel=>exact ⟨1,k,by omega,rfl,(A5 HI.o1 HI.o2 HI.o3 HI.o4 HI.o5)⟩
     case measure=>simp [intOf]
    ·obtain ⟨t,ht,htz,hlow,hrest⟩:=restW_next 0 y hy0 hy;rw [hrest,List.cons_append] at hdr;obtain ⟨hk1,hk2,hk3⟩:=drop_getD _ _ _ _ hdr;have hy64:y<18446744073709551616:=hy;have htzc:=fun W hT=>tz_any y hy64 hy0 W hT;rw [<- htz] at htzc;have HT:=Hd htzc;have hby:(((UInt8.ofNat (64 * 0+t)).toNat:Nat):Int)=((64 * 0+t:Nat):Int):=by simp;omega
     have hbk:((byteK M k).toNat:Int)=((64 * 0+t:Nat):Int):=by rw [<- hby];unfold byteK;rw [hk2]
     have hne:((y:Int) != 0)=true:=by simp;omega
     have hyk:=hY k _ hJk hk1;have hbk2:((byteK M k).toNat:Int)=(t:Int):=by rw [hbk];omega
     rw [hbk2] at hyk;obtain ⟨fn,tmps,assign,body,hyr,hR⟩:=hyk;have htb:(t:Int)<=63:=by omega
     have hz:y &&& (y - 1)<2 ^ 64:=by omega
     have hand:bits .and .u64 (y:Int) (IntKind.u64.wrap ((y:Int) - 1))=((y &&& (y - 1):Nat):Int):=by
      have:=bits_and_u64_nat y (y - 1) hy64 (by omega);rw [<- this];congr 1;rw [IntKind.wrap_u64];omega
     have HI:=Z8.mk hk3 hJk hbr hsr hbk hlow hz hk1;clear hkN;clear hdr hJk hbr hsr hk3 hby hbk hlow hz hk1 hk2 hrest htz htzc hy0 hbk2
     gi_wp2
     refine ⟨trivial,(callsIn_mk (HT.out _ (hT.below HI.o3 hn6))).mono ?_⟩;rintro e w1 ⟨rfl,rfl⟩
     gi_wp2
     refine hR.mono ?_;rintro e W' h;obtain ⟨b,rfl,hb⟩:=yield_bool h;clear hR hyr
     cases b
     ·gi_wp2
      refine bodyPost_ret (results_none rfl _ _ _) rfl ?_;exact ⟨⟨_,rfl⟩,.inr ⟨k+1,HI.o8,hb.out.2 (by trivial)⟩⟩
     ·gi_wp2
      have hn:=hb.out.1 (by trivial)
      have hrel:(bytesOf M).drop (k+1)=restW 0 (y &&& (y - 1))++tailW M 1 /\ J (k+1) W' /\ Below n0 w W' /\ n0<=W'.heap.size /\ k+1<=(bytesOf M).length :=
       ⟨HI.o1,hn.1,HI.o3.trans hn.2,Nat.le_trans HI.o4 hn.2.size,HI.o8⟩
      go_roundw
      case rel=>(repeat apply Exists.intro);exact ⟨⟨y &&& (y - 1),k+1,rfl,HI.o7,hrel⟩,rfl⟩
      case measure=>simp [intOf];exact HI.o6
  ·gi_wp2
   obtain ⟨wo,rfl⟩:∃ wo:World,wo=wr:=⟨_,rfl⟩
   gi_loopw [4] (fun v wr=>∃ y k:Nat,v=.int .u64 (y:Int) /\ y<2 ^ 64 /\ (bytesOf M).drop k=restW 1 y++tailW M 2 /\ J k wr /\ Below n0 w wr /\ n0<=wr.heap.size /\ k<=(bytesOf M).length) (fun v _=>(intOf v).toNat)
   case atStart=>exact ⟨wdN M 1,k,rfl,wdN_lt M 1,by rw [HO.o1];exact tailW_next M 1 (by decide),HO.o2,HO.o3,(An HO.o4 HO.o5)⟩
   case round =>
    obtain ⟨y,k,rfl,hy,hdr,hJk,hbr,hsr,hkN⟩:=hrel;clear HO
    by_cases hy0:y=0
    ·subst hy0;rw [restW_zero,List.nil_append] at hdr;have HI:=Z5.mk hdr hJk hbr hsr hkN;clear hdr hJk hbr hsr hkN
     gi_wp2
     go_roundw
     case rel=>exact ⟨2,k,by omega,rfl,(A5 HI.o1 HI.o2 HI.o3 HI.o4 HI.o5)⟩
     case measure=>simp [intOf]
    ·obtain ⟨t,ht,htz,hlow,hrest⟩:=restW_next 1 y hy0 hy;rw [hrest,List.cons_append] at hdr;obtain ⟨hk1,hk2,hk3⟩:=drop_getD _ _ _ _ hdr;have hy64:y<18446744073709551616:=hy;have htzc:=fun W hT=>tz_any y hy64 hy0 W hT;rw [<- htz] at htzc;have HT:=Hd htzc;have hby:(((UInt8.ofNat (64 * 1+t)).toNat:Nat):Int)=((64 * 1+t:Nat):Int):=by simp;omega
     have hbk:((byteK M k).toNat:Int)=((64 * 1+t:Nat):Int):=by rw [<- hby];unfold byteK;rw [hk2]
     have hne:((y:Int) != 0)=true:=by simp;omega
     have hyk:=hY k _ hJk hk1;have hbk2:((byteK M k).toNat:Int)=64+(t:Int):=by rw [hbk];omega
     rw [hbk2] at hyk;obtain ⟨fn,tmps,assign,body,hyr,hR⟩:=hyk;have htb:(t:Int)<=63:=by omega
     have hz:y &&& (y - 1)<2 ^ 64:=by omega
     have hand:bits .and .u64 (y:Int) (IntKind.u64.wrap ((y:Int) - 1))=((y &&& (y - 1):Nat):Int):=by
      have:=bits_and_u64_nat y (y - 1) hy64 (by omega);rw [<- this];congr 1;rw [IntKind.wrap_u64];omega
     have HI:=Z8.mk hk3 hJk hbr hsr hbk hlow hz hk1;clear hkN;clear hdr hJk hbr hsr hk3 hby hbk hlow hz hk1 hk2 hrest htz htzc hy0 hbk2
     gi_wp2
     refine ⟨trivial,(callsIn_mk (HT.out _ (hT.below HI.o3 hn6))).mono ?_⟩;rintro e w1 ⟨rfl,rfl⟩
     gi_wp2
     refine hR.mono ?_;rintro e W' h;obtain ⟨b,rfl,hb⟩:=yield_bool h;clear hR hyr
     cases b
     ·gi_wp2
      refine bodyPost_ret (results_none rfl _ _ _) rfl ?_;exact ⟨⟨_,rfl⟩,.inr ⟨k+1,HI.o8,hb.out.2 (by trivial)⟩⟩
     ·gi_wp2
      have hn:=hb.out.1 (by trivial)
      have hrel:(bytesOf M).drop (k+1)=restW 1 (y &&& (y - 1))++tailW M 2 /\ J (k+1) W' /\ Below n0 w W' /\ n0<=W'.heap.size /\ k+1<=(bytesOf M).length :=
       ⟨HI.o1,hn.1,HI.o3.trans hn.2,Nat.le_trans HI.o4 hn.2.size,HI.o8⟩
      go_roundw
      case rel=>(repeat apply Exists.intro);exact ⟨⟨y &&& (y - 1),k+1,rfl,HI.o7,hrel⟩,rfl⟩
      case measure=>simp [intOf];exact HI.o6
  ·gi_wp2
   obtain ⟨wo,rfl⟩:∃ wo:World,wo=wr:=⟨_,rfl⟩
   gi_loopw [4] (fun v wr=>∃ y k:Nat,v=.int .u64 (y:Int) /\ y<2 ^ 64 /\ (bytesOf M).drop k=restW 2 y++tailW M 3 /\ J k wr /\ Below n0 w wr /\ n0<=wr.heap.size /\ k<=(bytesOf M).length) (fun v _=>(intOf v).toNat)
   case atStart=>exact ⟨wdN M 2,k,rfl,wdN_lt M 2,by rw [HO.o1];exact tailW_next M 2 (by decide),HO.o2,HO.o3,(An HO.o4 HO.o5)⟩
   case round =>
    obtain ⟨y,k,rfl,hy,hdr,hJk,hbr,hsr,hkN⟩:=hrel;clear HO
    by_cases hy0:y=0
    ·subst hy0;rw [restW_zero,List.nil_append] at hdr;have HI:=Z5.mk hdr hJk hbr hsr hkN;clear hdr hJk hbr hsr hkN
     gi_wp2
     go_roundw
     case rel=>exact ⟨3,k,by omega,rfl,(A5 HI.o1 HI.o2 HI.o3 HI.o4 HI.o5)⟩
     case measure=>simp [intOf]
    ·obtain ⟨t,ht,htz,hlow,hrest⟩:=restW_next 2 y hy0 hy;rw [hrest,List.cons_append] at hdr;obtain ⟨hk1,hk2,hk3⟩:=drop_getD _ _ _ _ hdr;have hy64:y<18446744073709551616:=hy;have htzc:=fun W hT=>tz_any y hy64 hy0 W hT;rw [<- htz] at htzc;have HT:=Hd htzc;have hby:(((UInt8.ofNat (64 * 2+t)).toNat:Nat):Int)=((64 * 2+t:Nat):Int):=by simp;omega
     have hbk:((byteK M k).toNat:Int)=((64 * 2+t:Nat):Int):=by rw [<- hby];unfold byteK;rw [hk2]
     have hne:((y:Int) != 0)=true:=by simp;omega
     have hyk:=hY k _ hJk hk1;have hbk2:((byteK M k).toNat:Int)=128+(t:Int):=by rw [hbk];omega
     rw [hbk2] at hyk;obtain ⟨fn,tmps,assign,body,hyr,hR⟩:=hyk;have htb:(t:Int)<=63:=by omega
     have hz:y &&& (y - 1)<2 ^ 64:=by omega
     have hand:bits .and .u64 (y:Int) (IntKind.u64.wrap ((y:Int) - 1))=((y &&& (y - 1):Nat):Int):=by
      have:=bits_and_u64_nat y (y - 1) hy64 (by omega);rw [<- this];congr 1;rw [IntKind.wrap_u64];omega
     have HI:=Z8.mk hk3 hJk hbr hsr hbk hlow hz hk1;clear hkN;clear hdr hJk hbr hsr hk3 hby hbk hlow hz hk1 hk2 hrest htz htzc hy0 hbk2
     gi_wp2
     refine ⟨trivial,(callsIn_mk (HT.out _ (hT.below HI.o3 hn6))).mono ?_⟩;rintro e w1 ⟨rfl,rfl⟩
     gi_wp2
     refine hR.mono ?_;rintro e W' h;obtain ⟨b,rfl,hb⟩:=yield_bool h;clear hR hyr
     cases b
     ·gi_wp2
      refine bodyPost_ret (results_none rfl _ _ _) rfl ?_;exact ⟨⟨_,rfl⟩,.inr ⟨k+1,HI.o8,hb.out.2 (by trivial)⟩⟩
     ·gi_wp2
      have hn:=hb.out.1 (by trivial)
      have hrel:(bytesOf M).drop (k+1)=restW 2 (y &&& (y - 1))++tailW M 3 /\ J (k+1) W' /\ Below n0 w W' /\ n0<=W'.heap.size /\ k+1<=(bytesOf M).length :=
       ⟨HI.o1,hn.1,HI.o3.trans hn.2,Nat.le_trans HI.o4 hn.2.size,HI.o8⟩
      go_roundw
      case rel=>(repeat apply Exists.intro);exact ⟨⟨y &&& (y - 1),k+1,rfl,HI.o7,hrel⟩,rfl⟩
      case measure=>simp [intOf];exact HI.o6
  ·gi_wp2
   obtain ⟨wo,rfl⟩:∃ wo:World,wo=wr:=⟨_,rfl⟩
   gi_loopw [4] (fun v wr=>∃ y k:Nat,v=.int .u64 (y:Int) /\ y<2 ^ 64 /\ (bytesOf M).drop k=restW 3 y++tailW M 4 /\ J k wr /\ Below n0 w wr /\ n0<=wr.heap.size /\ k<=(bytesOf M).length) (fun v _=>(intOf v).toNat)
   case atStart=>exact ⟨wdN M 3,k,rfl,wdN_lt M 3,by rw [HO.o1];exact tailW_next M 3 (by decide),HO.o2,HO.o3,(An HO.o4 HO.o5)⟩
   case round =>
    obtain ⟨y,k,rfl,hy,hdr,hJk,hbr,hsr,hkN⟩:=hrel;clear HO
    by_cases hy0:y=0
    ·subst hy0;rw [restW_zero,List.nil_append] at hdr;have HI:=Z5.mk hdr hJk hbr hsr hkN;clear hdr hJk hbr hsr hkN
     gi_wp2
     go_roundw
     case rel=>exact ⟨4,k,by omega,rfl,(A5 HI.o1 HI.o2 HI.o3 HI.o4 HI.o5)⟩
     case measure=>simp [intOf]
    ·obtain ⟨t,ht,htz,hlow,hrest⟩:=restW_next 3 y hy0 hy;rw [hrest,List.cons_append] at hdr;obtain ⟨hk1,hk2,hk3⟩:=drop_getD _ _ _ _ hdr;have hy64:y<18446744073709551616:=hy;have htzc:=fun W hT=>tz_any y hy64 hy0 W hT;rw [<- htz] at htzc;have HT:=Hd htzc;have hby:(((UInt8.ofNat (64 * 3+t)).toNat:Nat):Int)=((64 * 3+t:Nat):Int):=by simp;omega
     have hbk:((byteK M k).toNat:Int)=((64 * 3+t:Nat):Int):=by rw [<- hby];unfold byteK;rw [hk2]
     have hne:((y:Int) != 0)=true:=by simp;omega
     have hyk:=hY k _ hJk hk1;have hbk2:((byteK M k).toNat:Int)=192+(t:Int):=by rw [hbk];omega
     rw [hbk2] at hyk;obtain ⟨fn,tmps,assign,body,hyr,hR⟩:=hyk;have htb:(t:Int)<=63:=by omega
     have hz:y &&& (y - 1)<2 ^ 64:=by omega
     have hand:bits .and .u64 (y:Int) (IntKind.u64.wrap ((y:Int) - 1))=((y &&& (y - 1):Nat):Int):=by
      have:=bits_and_u64_nat y (y - 1) hy64 (by omega);rw [<- this];congr 1;rw [IntKind.wrap_u64];omega
     have HI:=Z8.mk hk3 hJk hbr hsr hbk hlow hz hk1;clear hkN;clear hdr hJk hbr hsr hk3 hby hbk hlow hz hk1 hk2 hrest htz htzc hy0 hbk2
     gi_wp2
     refine ⟨trivial,(callsIn_mk (HT.out _ (hT.below HI.o3 hn6))).mono ?_⟩;rintro e w1 ⟨rfl,rfl⟩
     gi_wp2
     refine hR.mono ?_;rintro e W' h;obtain ⟨b,rfl,hb⟩:=yield_bool h;clear hR hyr
     cases b
     ·gi_wp2
      refine bodyPost_ret (results_none rfl _ _ _) rfl ?_;exact ⟨⟨_,rfl⟩,.inr ⟨k+1,HI.o8,hb.out.2 (by trivial)⟩⟩
     ·gi_wp2
      have hn:=hb.out.1 (by trivial)
      have hrel:(bytesOf M).drop (k+1)=restW 3 (y &&& (y - 1))++tailW M 4 /\ J (k+1) W' /\ Below n0 w W' /\ n0<=W'.heap.size /\ k+1<=(bytesOf M).length :=
       ⟨HI.o1,hn.1,HI.o3.trans hn.2,Nat.le_trans HI.o4 hn.2.size,HI.o8⟩
      go_roundw
      case rel=>(repeat apply Exists.intro);exact ⟨⟨y &&& (y - 1),k+1,rfl,HI.o7,hrel⟩,rfl⟩
      case measure=>simp [intOf];exact HI.o6
  ·gi_wp2
   have hk:k=(bytesOf M).length:=by
    have:=congrArg List.length HO.o1;rw [List.length_drop] at this;have h4:(tailW M 4).length=0:=rfl;have:=HO.o5;omega
   refine bodyPost_end (results_none rfl _ _ _) rfl ?_;rw [<- hk];exact ⟨⟨_,rfl⟩,.inl HO.o2⟩
end Go.Proofs.YthiochcpmfkgcaaGreatDoor.Tb
namespace Go.Proofs.YthiochcpmfkgcaaGreatDoor.Gl
open Go Go.RowKit Go.Proofs Go.Maps Go.WideMaps Mx Tb
theorem gPow:Tryz.prog.globalNamed "internal/strconv.uint64pow10"=some 0:=by kernel_rfl
abbrev LG:Nat:=Nat.max 0 1+1
structure EnvG (w:World):Prop where
 bru:Bru w
 pow:Lib.TabIs Tryz.prog w "internal/strconv.uint64pow10" .u64 Lib.pow10Tab
 big:LG<=w.heap.size
theorem EnvG.below {w w':World} {B:Nat} (h:EnvG w) (hb:Below B w w') (hB:LG<=B):EnvG w' :=
 ⟨h.bru.below hb (Nat.le_trans (by decide) hB),var?_below hb gPow (nL (by decide) hB) h.pow,Nat.le_trans h.big hb.size⟩
theorem dig_le:∀ (k u:Nat),u<10 ^ (k+1)->Lib.nDigits u<=k+1
 | 0,u,h=>by rw [Lib.nDigits_small (by simpa using h)];exact nR _
 | k+1,u,h=>by
  by_cases h0:u<10
  ·rw [Lib.nDigits_small h0];omega
  ·rw [Lib.nDigits_big h0];have:=dig_le k (u / 10) (by rw [Nat.div_lt_iff_lt_mul (by decide)];rw [Nat.pow_succ] at h;exact h);omega
theorem dec_le (n:Nat) (h:n<1048576):(Lib.decDigits n).length<=7:=by
 rw [Lib.decDigits_length];exact dig_le 6 n (by omega)
def decB (n:Nat):ByteArray:=⟨(Lib.decDigits n).toArray⟩
theorem decB_size (n:Nat) (h:n<1048576):(decB n).size<=7:=by
 have:=dec_le n h;show (Lib.decDigits n).toArray.size<=7
 simpa using this
theorem itoa_any (n:Nat) (hn:n<1048576) (w:World) (he:EnvG w) :
  Calls Tryz.prog 83 #[.int .i64 n] w fun e w'=>e=.returned (.string (decB n)) /\ Below w.heap.size w w':=by
 refine (Tryz.strconv_Itoa (n:Int) (by omega) (by omega) w he.pow).mono ?_;rintro e w' ⟨rfl,k,os,rfl⟩;refine ⟨?_,Grew.below ⟨k,os,rfl⟩⟩;rw [Lib.itoa_nonneg]
 rfl
def keR (nb pn sn:Nat) (sp ss:ByteArray) (j:Nat) (v:Value) (W:World):Prop :=
 match j with
 | 0=>v=.pointer (some ⟨nb,3,none⟩)
 | 1=>v=.int .i64 pn
 | 2=>v=.string sp
 | 3=>v=.string (sp++⟨#[32]⟩)
 | 4=>v=.pointer (some ⟨nb,1,none⟩)
 | 5=>v=.int .i64 sn
 | 6=>v=.string ss
 | 7=>v=.string (sp++⟨#[32]⟩++ss)
 | 8=>v=.string (sp++⟨#[32]⟩++ss)
 | _=>True
theorem ba_list (a b:ByteArray):(a++b).data.toList=a.data.toList++b.data.toList:=by simp
theorem ba_ext {a b:ByteArray} (h:a.data.toList=b.data.toList):a=b:=by
 obtain ⟨⟨a⟩⟩:=a;obtain ⟨⟨b⟩⟩:=b;simp at h;rw [h]
theorem gfacts5 {w:World} {g:Nat} {t:TypeId} {v0 v1 v2 v3 v4:Value} (h:Blk w g t #[v0,v1,v2,v3,v4]):w.cell? ⟨g,0,none⟩=some v0 /\ w.cell? ⟨g,1,none⟩=some v1 /\ w.cell? ⟨g,2,none⟩=some v2 /\ w.cell? ⟨g,3,none⟩=some v3 /\ w.cell? ⟨g,4,none⟩=some v4 /\ (∀ i,w.frozen? ⟨g,i,none⟩=false) :=
 ⟨h.cell 0,h.cell 1,h.cell 2,h.cell 3,h.cell 4,h.frozen⟩
theorem ba_len (a:ByteArray):a.size=a.data.toList.length:=by
 obtain ⟨⟨a⟩⟩:=a
 rfl
theorem headK_len (a:Al) (ha:AlOk a) (n:Nat) (hn:n<=a.cuts.length):(headK a n).length<=20+8 * n:=by
 have h1:=dec_le a.prod ha.prod;have h2:=dec_le a.src ha.src;have h3:∀ (l:List Nat),(∀ c∈l,c<1048576)->(l.flatMap fun c=>32::Lib.decDigits c).length<=8 * l.length:=by
  intro l
  induction l with
  | nil=>intro _;simp
  | cons c l ih =>
   intro h;have:=dec_le c (h c (by simp));have:=ih (fun x hx=>h x (by simp [hx]));rw [List.flatMap_cons,List.length_append,List.length_cons,List.length_cons];omega
 have h4:=h3 (a.cuts.take n) (fun c hc=>ha.cuts c (List.mem_of_mem_take hc));rw [List.length_take] at h4;unfold headK;rw [List.length_append,List.length_cons,List.length_append];omega
theorem key_any (left:Nat->Int) (D:Nat->Prop) (v:Value) (a:Al) (ha:AlOk a) (w:World) (he:EnvG w) (hv:SliceK D encN 1 w v a.cuts) :
  Calls Tryz.prog 123 #[alV left v a] w fun e w'=>e=.returned (.string ⟨(keyA a).toArray⟩) /\ Below w.heap.size w w':=by
 obtain ⟨ca,cc,rfl,_,_,hck⟩:=id hv;have HH:=Z4.mk ha he hv hck;clear ha he hv hck;unfold alV;obtain ⟨lf,hlf⟩:=eX (left a.prod);rw [hlf];clear hlf;go_enter Tryz.func123,Tryz.ntmps123;go_upto_region 1 with fail
 have hXB:Blk (w.alloc (.cells #[.int .i64 lf,.int .i64 a.src,.int .i64 a.til,.int .i64 a.prod,.slice ca a.cuts.length cc] 59)) w.heap.size 59 #[.int .i64 lf,.int .i64 a.src,.int .i64 a.til,.int .i64 a.prod,.slice ca a.cuts.length cc]:=Blk.new _ _ _;have hb0:Below w.heap.size w (w.alloc (.cells #[.int .i64 lf,.int .i64 a.src,.int .i64 a.til,.int .i64 a.prod,.slice ca a.cuts.length cc] 59)):=(bR _ _).alloc (nR _) _;generalize (w.alloc (.cells #[.int .i64 lf,.int .i64 a.src,.int .i64 a.til,.int .i64 a.prod,.slice ca a.cuts.length cc] 59))=w1 at hXB hb0 ⊢;obtain ⟨nb,hnb⟩:=eX w.heap.size;rw [hnb] at hXB ⊢;have hbw:∀ W,Below w1.drew.heap.size w1.drew W->Below w.heap.size w W:=fun W hG=>hb0.trans (((show Below w1.heap.size w1 w1.drew from (bR _ _).drew).trans hG).mono hb0.size);have HC:=Hd (show ∀ W,Below w1.drew.heap.size w1.drew W->W.cell? ⟨nb,1,none⟩=some (.int .i64 a.src) /\ W.cell? ⟨nb,3,none⟩=some (.int .i64 a.prod) from fun W hG=>⟨(hXB.drew.below hG hXB.lt).cell 1,(hXB.drew.below hG hXB.lt).cell 3⟩);have HI1:=Hd (show ∀ W,Below w1.drew.heap.size w1.drew W->Calls Tryz.prog 83 #[.int .i64 a.prod] W fun e w'=>e=.returned (.string (decB a.prod)) /\ Below W.heap.size W w' from fun W hG=>itoa_any a.prod HH.o1.prod W (HH.o2.below (hbw W hG) HH.o2.big));have HI2:=Hd (show ∀ W,Below w1.drew.heap.size w1.drew W->Calls Tryz.prog 83 #[.int .i64 a.src] W fun e w'=>e=.returned (.string (decB a.src)) /\ Below W.heap.size W w' from fun W hG=>itoa_any a.src HH.o1.src W (HH.o2.below (hbw W hG) HH.o2.big));have hp7:=decB_size a.prod HH.o1.prod;have hs7:=decB_size a.src HH.o1.src;have hkz:(decB a.prod++⟨#[32]⟩++decB a.src).data.toList=headK a 0:=by rw [ba_list,ba_list,headK_zero];simp [decB]
 obtain ⟨sp,hsp⟩:=eX (decB a.prod);obtain ⟨ss,hss⟩:=eX (decB a.src);rw [hsp] at HI1 hp7 hkz;rw [hss] at HI2 hs7 hkz;have hq1:¬ 9223372036854775807<sp.size+1:=by omega
 have hq2:¬ 9223372036854775807<sp.size+1+ss.size:=by omega
 have H1:=Z5.mk hXB hb0 hnb hbw hkz;clear hXB hb0 hnb hsp hss hbw hkz;refine wp_region_concT 9 (keR nb a.prod a.src sp ss) (fun A W=>Below A.heap.size A W) (fun _ _=>True) (by kernel_rfl) (by kernel_rfl) (by kernel_rfl) (by kernel_rfl) (bR _ _) trivial (fun h k=>h.trans (k.mono h.size)) ?_ ?_
 ·simp only [List.take_succ_cons,List.take_zero];refine ⟨?_,?_,?_,?_,?_,?_,?_,?_,?_,trivial⟩
  all_goals intro L T W hG hJ hLs hLi dq fq vq K hK
  all_goals try have zk:=fun v=>hK v W (bR _ W) (fun j u _ _ _ h=>h) trivial
  all_goals try have zv:=fun i h=>vq ⟨i,.data⟩ h rfl
  ·have h1:=fq 1 (by decide);simp at h1;go_simp;exact zk _ rfl
  ·have h1:=zv 0 (by simp) 6 rfl;simp [keR] at h1;obtain ⟨c1,c3⟩:=HC.out W hG;go_simp;exact zk _ rfl
  ·have h1:=zv 1 (by simp) 7 rfl;simp [keR] at h1;have hcl:=HI1.out W hG;go_simp;refine hcl.mono ?_;rintro e W2 ⟨rfl,hb2⟩;exact hK _ _ hb2 (fun j u _ _ _ h=>h) trivial rfl
  ·have h1:=zv 2 (by simp) 8 rfl;simp [keR] at h1;go_simp;exact zk _ rfl
  ·have h1:=fq 1 (by decide);simp at h1;go_simp;exact zk _ rfl
  ·have h1:=zv 4 (by simp) 10 rfl;simp [keR] at h1;obtain ⟨c1,c3⟩:=HC.out W hG;go_simp;exact zk _ rfl
  ·have h1:=zv 5 (by simp) 11 rfl;simp [keR] at h1;have hcl:=HI2.out W hG;go_simp;refine hcl.mono ?_;rintro e W2 ⟨rfl,hb2⟩;exact hK _ _ hb2 (fun j u _ _ _ h=>h) trivial rfl
  ·have h1:=zv 3 (by simp) 9 rfl;have h2:=zv 6 (by simp) 12 rfl;simp [keR] at h1 h2;go_simp;exact zk _ rfl
  ·have h1:=zv 7 (by simp) 13 rfl;simp [keR] at h1;go_simp;exact zk _ rfl
 ·intro f9 w2 hG hJe hR;have e8:=hR 8 3 (by decide) rfl;simp only [concDsts,qZ];simp only [keR] at e8;rw [e8];clear e8 hR;generalize f9 6=v6;generalize f9 7=v7;generalize f9 8=v8;generalize f9 9=v9;generalize f9 10=v10;generalize f9 11=v11;generalize f9 12=v12;generalize f9 13=v13;clear f9;have hbx:=H1.o4 w2 hG;have hX2:=H1.o1.drew.below hG H1.o1.lt;have hkz:=H1.o5;obtain ⟨t0,ht0⟩:=eX (sp++⟨#[32]⟩++ss);rw [ht0] at hkz ⊢;have c4:w2.cell? ⟨nb,4,none⟩=some (.slice ca a.cuts.length cc):=hX2.cell 4;have H2:=Z3.mk hbx hX2 hkz;clear hbx hX2 hkz ht0 hG hJe HC HI1 HI2 hp7 hs7 hq1 hq2;go_wp2_with fail
  have hcl:=HH.o1.len
  go_loopg [3,17] a.cuts.length (fun m v3 v17 wr=>∃ (i:Nat) (t:ByteArray),i<=a.cuts.length /\ m=a.cuts.length - i /\ v17=.int .i64 i /\ v3=.string t /\ t.data.toList=headK a i /\ Below w.heap.size w wr /\ Blk wr nb 59 #[.int .i64 lf,.int .i64 a.src,.int .i64 a.til,.int .i64 a.prod,.slice ca a.cuts.length cc])
  case atStart=>exact ⟨0,t0,by omega,rfl,rfl,rfl,H2.o3,H2.o1,H2.o2⟩
  case round =>
   obtain ⟨i,t,hi,hm,rfl,rfl,ht,hb,hB⟩:=hrel;have henv:=HH.o2.below hb HH.o2.big;have htl:=headK_len a HH.o1 i hi;rw [<- ht,<- ba_len] at htl
   by_cases hlt:i<a.cuts.length
   ·obtain ⟨c,hx⟩:∃ c,a.cuts[i]?=some c:=⟨_,gE hlt⟩;obtain ⟨kg,ko,rfl,_,hkr⟩:=HH.o4 (by rintro h;rw [h] at hlt;simp at hlt);have k0:wr.cell? ⟨kg,ko+i * 1,none⟩=some (.int .i64 c):=(wB (hb.block kg hkr.lt)).trans (hkr.cells i _ hx 0 _ rfl);rw [Nat.mul_one] at k0;have hi0:(0:Int)<=i:=by omega
    have hi1:(i:Int)<a.cuts.length:=by omega
    have hc:=HH.o1.cuts c (gM hx);have hit:=itoa_any c hc wr henv;have hs7:=decB_size c hc;have hcd:(decB c).data.toList=Lib.decDigits c:=by simp [decB]
    obtain ⟨sc,hsc⟩:=eX (decB c);rw [hsc] at hit hs7 hcd;have hq1:¬ 9223372036854775807<1+sc.size:=by omega
    have hq2:¬ 9223372036854775807<t.size+(1+sc.size):=by omega
    have HR:=Z6.mk hm ht hb hB hcd hx;clear hm ht hb hB hcd hx hsc hkr henv;go_wp2_with fail
    refine hit.mono ?_;rintro e w3 ⟨rfl,hb3⟩;have H3:=Hd hb3;clear hb3 hit;go_wp2_with fail
    go_roundg (a.cuts.length - (i+1))
    case measure=>have:=HR.o1;omega
    case rel =>
     refine ⟨i+1,_,by omega,rfl,rfl,rfl,?_,HR.o3.trans (H3.out.mono HR.o3.size),HR.o4.below H3.out HR.o4.lt⟩;rw [ba_list,ba_list,HR.o2,HR.o5,headK_succ a i c HR.o6];simp
   ·obtain rfl:i=a.cuts.length:=by omega
    have ht7:=itoa_any a.til HH.o1.til wr henv;have hs7:=decB_size a.til HH.o1.til;have hcd:(decB a.til).data.toList=Lib.decDigits a.til:=by simp [decB]
    have c2:wr.cell? ⟨nb,2,none⟩=some (.int .i64 a.til):=hB.cell 2;obtain ⟨sc,hsc⟩:=eX (decB a.til);rw [hsc] at ht7 hs7 hcd;have hq1:¬ 9223372036854775807<t.size+1:=by omega
    have hq2:¬ 9223372036854775807<t.size+1+sc.size:=by omega
    have HR:=Z4.mk ht hb hcd hsc;clear hm ht hb hB hcd hsc henv;go_wp2_with fail
    refine ht7.mono ?_;rintro e w3 ⟨rfl,hb3⟩;have H3:=Hd hb3;clear hb3 ht7;go_wp2_with fail
    go_ret
    refine ⟨?_,HR.o2.trans (H3.out.mono HR.o2.size)⟩;have hfin:t++⟨#[47]⟩++sc=⟨(keyA a).toArray⟩:=by
     apply ba_ext;rw [ba_list,ba_list,HR.o1,HR.o3,<- headK_all];simp
    rw [<- hfin]
    rfl
end Go.Proofs.YthiochcpmfkgcaaGreatDoor.Gl
