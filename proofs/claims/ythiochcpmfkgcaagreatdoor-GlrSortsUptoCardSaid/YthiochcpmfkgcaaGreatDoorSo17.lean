/- Walks and plain laws that the last text stands on: GlPlace, GlGone, GlNext, TbChkS, TbChkP. -/
import Derived.Test.YthiochcpmfkgcaaGreatDoorSo16
set_option linter.unusedVariables false
set_option linter.unusedSimpArgs false
set_option maxRecDepth 100000
set_option maxHeartbeats 16000000
namespace Go.Proofs.YthiochcpmfkgcaaGreatDoor.Gl
open Go Go.RowKit Go.Proofs Go.Maps Go.WideMaps Mx Tb
theorem wp_scope_again {P:Program} {rest:Code} {a:Act} {w:World} {Q:Exit->Act->World->Prop} (l:Nat) (J:Act->World->Prop) (μ:Act->World->Nat) (h0:J a w)
  (pass:∀ a w,J a w->rest.wp P (Exit.jump l (fun a' w'=>J a' w' /\ μ a' w'<μ a w) Q) a w):(Code.scope ((Code.label l).seq rest)).wp P Q a w:=by
 refine wp_scope_jumps l J μ (rest:=Code.skip.seq rest) (by simp [findLabel]) ?_ ?_
 ·refine wp_seq (wp_label ?_);show rest.wp P (Exit.jump l J Q) a w;exact wp_mono (pass a w h0) (fun e a' w' h=>by cases e <;> first | exact h | exact ⟨h.1,h.2.1⟩)
 ·intro a w hJ;refine wp_seq (wp_skip ?_);exact pass a w hJ
def leftOf (C:RC) (_:Act) (w:World):Nat:=match w.cell? ⟨C.rb,7,none⟩ with | some (.int _ z)=>z.toNat | _=>0
theorem leftOf_run {C:RC} {p:RP} {left:Nat->Int} {w0 w:World} {ρ:Nat->Option Role} {r:Rn} (h:RunW C p left w0 ρ r w) (a:Act):leftOf C a w=r.left:=by
 have h1:w.cell? ⟨C.rb,7,none⟩=some (.int .i64 r.left):=h.mem.box.cell 7;unfold leftOf;rw [h1];simp
def PartT (C:RC) (p:RP) (left:Nat->Int) (w0:World) (ρ:Nat->Option Role) (w:World) (e:Ending) (w':World):Out Rn->Prop
 | .ok r'=>e=.returned (.tuple #[]) /\ ∃ ρ',RunW C p left w0 ρ' r' w' /\ KeepR ρ w w' /\ Roles w.heap.size ρ ρ'
 | .stop _=>e=.panicked stopP /\ KeepR ρ w w'
theorem row_look {C:RC} {p:RP} {left:Nat->Int} {w0 w:World} {ρ:Nat->Option Role} {m:Rm} (h:RunM C p left w0 ρ m w) (at_:Nat) (ha:at_<1048576) :
  ∃ (ra:Option Addr) (rc:Nat),w.ownsRow 0 3 1 (.slice ra (rowN m.nodes at_).length rc) (rowN m.nodes at_).length (flatK encN (rowN m.nodes at_)) /\ (∀ b,(Value.slice ra (rowN m.nodes at_).length rc).ownBlock=some b->ρ b=some (.irow at_)) /\
   ∀ W:World,W.heap[C.br]?=w.heap[C.br]?->(Instr.lookup 74 (.map (some C.br)) (.int .i64 at_) false).run Tryz.prog W=.ok (.slice ra (rowN m.nodes at_).length rc) W:=by
 obtain ⟨k,fr,vr,h1,h2,h3,h4⟩:=h.rows;obtain ⟨k1,k2,k3⟩:=h4 at_;obtain ⟨ra,rc,hv⟩:=own_shape k1;have hnv:(fr (.int .i64 at_)).getD (.slice none 0 0)=vr at_:=by
  rw [h3]
  by_cases hr:rowN m.nodes at_=[]
  ·rw [if_neg (by simp [hr])];exact (k3 hr).symm
  ·rw [if_pos ⟨by omega,by simpa using hr⟩];simp
 refine ⟨ra,rc,by rw [<- hv];exact k1,by rw [<- hv];exact k2,fun W hW=>?_⟩;have h5:=(h1.of_block hW).lookup (int_keyed Tryz.underlying3) Tryz.underlying74 (Tryz.zeroValue57 W) (keyOf_int_mk Tryz.underlying3 (litN at_ ha));rw [hnv,hv] at h5;exact h5
theorem pass_after {T:Tab} {j s:Nat} {l:List Nat} {r:Rn}:Pre (outB (reduceF T r (s,j))) (outB (passF T j (s::l) r)):=by
 rw [passF]
 cases h:reduceF T r (s,j) with
 | stop r1=>exact Pre.refl _
 | ok v =>
  obtain ⟨r1,f1⟩:=v
  cases f1 with
  | true=>exact Pre.refl _
  | false=>exact passF_pre T j l r1
theorem again_after {T:Tab} {j fu:Nat} {r:Rn}:Pre (outB (passF T j (rowF r j) r)) (outA (againF T j (fu+1) r)):=by
 rw [againF]
 cases h:passF T j (rowF r j) r with
 | stop r1=>exact Pre.refl _
 | ok v =>
  obtain ⟨r1,f1⟩:=v
  cases f1 with
  | false=>exact Pre.refl _
  | true=>exact againF_pre T j fu r1
theorem place_after {T:Tab} {w:List UInt8} {j:Nat} {r:Rn}:Pre (outA (againF T j (r.left+1) r)) (outA (placeF T w j r)):=by
 unfold placeF
 cases h:againF T j (r.left+1) r with
 | stop r1=>exact Pre.refl _
 | ok r1 =>
  dsimp only
  cases w[j]? with
  | none=>exact Pre.refl _
  | some b=>exact shiftsF_pre T j b (rowF r1 j) r1
theorem shifts_after {T:Tab} {j s:Nat} {b:UInt8} {l:List Nat} {r:Rn} {t:Nat} (ht:T.shift s b=some t):Pre (outB (linkF r (t,j+1) (s,j))) (outA (shiftsF T j b (s::l) r)):=by
 rw [shiftsF,ht];dsimp only
 cases h:linkF r (t,j+1) (s,j) with
 | stop r1=>exact Pre.refl _
 | ok v =>
  obtain ⟨r1,f1⟩:=v;exact shiftsF_pre T j b l r1
def plA (C:RC) (p:RP) (tb:ByteArray) (s at_:Nat) (b:UInt8) (go:Int × Bool) (j:Nat) (v:Value) (W:World):Prop :=
 match j with
 | 0=>v=.pointer (some ⟨C.rb,0,none⟩)
 | 1=>v=.pointer (some ⟨C.rb,0,none⟩)
 | 2=>v=.pointer (some ⟨C.rb,5,none⟩)
 | 3=>v=p.tv
 | 4=>v=.int .i64 s
 | 5=>v=.pointer (some ⟨C.rb,0,none⟩)
 | 6=>v=.pointer (some ⟨C.rb,0,none⟩)
 | 7=>v=.pointer (some ⟨C.rb,6,none⟩)
 | 8=>v=.string tb
 | 9=>v=.int .i64 at_
 | 10=>v=.int .u8 (b.toNat:Int)
 | 11=>v=.tuple #[.int .i64 go.1,.bool go.2]
 | 12=>v=.tuple #[.int .i64 go.1,.bool go.2]
 | 13=>v=.int .i64 go.1
 | 14=>v=.bool go.2
 | _=>True
theorem place_any (g:Gr) (B:Nat) (sm:List SM) (C:RC) (p:RP) (w0:World) (hc:Ctx g B sm p w0) (Bd:Nat) (hO:RedOk g sm p.txt Bd) (ρ:Nat->Option Role) (r:Rn) (w:World) (h:RunW C p (TT g sm).left w0 ρ r w) (hI:Inv (TT g sm) p.txt Bd r) (at_:Nat) (hat:at_<=p.txt.length)
  (hT:∀ e,(outA (placeF (TT g sm) p.txt at_ r)).tries.count e<4611686018427387904) :
  Calls Tryz.prog 73 #[.pointer (some ⟨C.rb,0,none⟩),.int .i64 at_] w fun e w'=>PartT C p (TT g sm).left w0 ρ w e w' (placeF (TT g sm) p.txt at_ r):=by
 have hal:at_<1048576:=by have:=hc.txt;omega
 have HH:=Z5.mk h hI hT hc hO;clear h hI hT hc hO;go_enter Tryz.func73,Tryz.ntmps73;refine wp_scope_again 0 (fun a' w'=>∃ (ρi:Nat->Option Role) (ri:Rn) (fu:Nat) (s4 s9 s10 s11 s12 s13 s14 s15 s16 s17 s18 s19 s20 s21 s22 s23 s24 s25 s26 s27 s28 s29 s30 s31 s32:Value),a'={ tmps:=#[.pointer (some ⟨C.rb,0,none⟩),.int .i64 at_,undef,undef,s4,undef,undef,undef,undef,s9,s10,s11,s12,s13,s14,s15,s16,s17,s18,s19,s20,s21,s22,s23,s24,s25,s26,s27,s28,s29,s30,s31,s32,undef,undef,undef,undef,undef,undef,undef,undef,undef,undef,undef,undef,undef,undef,undef,undef,undef,undef,undef,undef,undef,undef,undef,undef,undef,undef,undef,undef,undef,undef,undef,undef,undef,undef,undef,undef,undef,undef,undef,undef,undef,undef,undef,undef,undef],defers:=[] } /\ RunW C p (TT g sm).left w0 ρi ri w' /\ KeepR ρ w w' /\ Roles w.heap.size ρ ρi /\ Inv (TT g sm) p.txt Bd ri /\ ri.left<fu /\ againF (TT g sm) at_ (r.left+1) r=againF (TT g sm) at_ fu ri) (leftOf C) ?_ ?_
 ·exact ⟨ρ,r,r.left+1,_,_,_,_,_,_,_,_,_,_,_,_,_,_,_,_,_,_,_,_,_,_,_,_,_,rfl,HH.o1,KeepR.refl _ _,Roles.refl _ _,HH.o2,Nat.lt_succ_self _,rfl⟩
 ·rintro a1 w1 ⟨ρ1,r1,fu,s4,s9,s10,s11,s12,s13,s14,s15,s16,s17,s18,s19,s20,s21,s22,s23,s24,s25,s26,s27,s28,s29,s30,s31,s32,rfl,hR1,hk1,hr1,hI1,hfu,hag⟩;obtain ⟨fu,rfl⟩:∃ f,fu=f+1:=⟨fu - 1,by omega⟩
  have HA:=Z6.mk hR1 hk1 hr1 hI1 hfu hag;have hmu:=leftOf_run hR1;clear hR1 hk1 hr1 hI1 hfu hag;obtain ⟨L,hL⟩:=eX (rowF r1 at_);have HL:=Hd hL;have hLl:L.length<=4398046511104:=by
   rw [<- hL];unfold rowF;rw [List.length_map];have h1:=List.length_filter_le (fun x:Nd=>x.2==at_) r1.nodes;have h2:=HA.o1.mem.mn;simp only [rmOf] at h2;omega
  clear hL;go_wp2_with fail
  obtain ⟨wa,rfl⟩:∃ wa:World,wa=w1:=⟨_,rfl⟩
  go_loopg [4] L.length (fun m v4 wr=>∃ (i:Nat) (ρk:Nat->Option Role) (rk:Rn),i<=L.length /\ m=L.length - i /\ v4=.int .i64 i /\ RunW C p (TT g sm).left w0 ρk rk wr /\ KeepR ρ w wr /\ Roles w.heap.size ρ ρk /\ Inv (TT g sm) p.txt Bd rk /\ rk.nodes=r1.nodes /\ rk.left<=r1.left /\ passF (TT g sm) at_ (rowF r1 at_) r1=passF (TT g sm) at_ (L.drop i) rk)
  case atStart=>exact ⟨0,ρ1,r1,by omega,rfl,rfl,HA.o1,HA.o2,HA.o3,HA.o4,rfl,nR _,by rw [HL.out];rfl⟩
  case round =>
   obtain ⟨i,ρk,rk,hi,hm,rfl,hRk,hKk,hrk,hIk,hnk,hlk,hpk⟩:=hrel;obtain ⟨ra,rc,hro,hrr,hrl⟩:=row_look hRk.mem at_ hal;have hrow:rowN (rmOf rk).nodes at_=L:=by show rowN rk.nodes at_=L;rw [hnk];exact HL.out
   rw [hrow] at hro hrr hrl;have hlook:=hrl wr rfl;have b11:wr.cell? ⟨C.rb,11,none⟩=some (.map (some C.br)):=hRk.mem.box.cell 11
   by_cases hlt:i<L.length
   ·obtain ⟨s,hs⟩:∃ s,L[i]?=some s:=⟨_,gE hlt⟩;obtain ⟨dg,dcap,edv,_,_,_⟩:=own_some hro (by omega)
    injection edv with e1 e2 e3;subst e1;subst e3;clear e2;have k0:wr.cell? ⟨dg,i,none⟩=some (.int .i64 s):=by
     have h:=hro.cells (g:=dg) rfl (i * 1) _ (flatK_get encN_len L i s 0 _ hs rfl);rw [addr_add_,Nat.zero_add,Nat.mul_one] at h;exact h
    have hi0:(0:Int)<=i:=by omega
    have hi1:(i:Int)<L.length:=by omega
    have hxn:(s,at_)∈rk.nodes:=by
     rw [hnk];exact rowF_mem.1 (by rw [HL.out];exact gM hs)
    have hpk2:passF (TT g sm) at_ (rowF r1 at_) r1=passF (TT g sm) at_ (s::L.drop (i+1)) rk:=by
     rw [hpk,List.drop_eq_getElem_cons hlt];have:L[i]=s:=(gS.1 hs).2;rw [this]
    have hTk:∀ e,(outB (reduceF (TT g sm) rk (s,at_))).tries.count e<4611686018427387904:=fun e=>by
     have h1:=(pass_after (T:=TT g sm) (j:=at_) (s:=s) (l:=L.drop (i+1)) (r:=rk)).count e;rw [<- hpk2] at h1;have h2:=(again_after (T:=TT g sm) (j:=at_) (fu:=fu) (r:=r1)).count e;rw [<- HA.o6] at h2;have h3:=(place_after (T:=TT g sm) (w:=p.txt) (j:=at_) (r:=r)).count e;have h4:=HH.o3 e;omega
    have hred:=reduce_any g B sm C p w0 HH.o4 Bd HH.o5 ρk rk wr hRk hIk (s,at_) hxn hat hTk;have hlaw:=reduceF_law (T:=TT g sm) (w:=p.txt) (x:=(s,at_)) hat hIk hxn;have HK:=Z8.mk hm hKk hrk hnk hlk hpk2 hred hlaw;clear hm hRk hKk hrk hIk hnk hlk hpk hpk2 hred hlaw hro hrr hrl hrow hs hxn hTk;go_wp2_with fail
    refine HK.o7.mono ?_;rintro e w3 hL3;have hlaw:=HK.o8;have hpk2:=HK.o6
    cases hrd:reduceF (TT g sm) rk (s,at_) with
    | stop r2 =>
     rw [hrd] at hL3;obtain ⟨rfl,hk3⟩:=hL3
     try simp only [Exit.jump]
     refine An rfl ?_;have h1:againF (TT g sm) at_ (r.left+1) r=.stop r2:=by
      rw [HA.o6,againF,hpk2,passF,hrd]
     have h2:placeF (TT g sm) p.txt at_ r=.stop r2:=by unfold placeF;rw [h1]
     rw [h2];exact An rfl (HK.o2.trans hk3 HK.o3)
    | ok v =>
     obtain ⟨r2,f2⟩:=v;rw [hrd] at hL3 hlaw;obtain ⟨rfl,ρ2,hR2,hk2,hr2⟩:=hL3;obtain ⟨hI2,hg2,_⟩:=hlaw;have hkk:=HK.o2.trans hk2 HK.o3;have hrr2:=Roles.trans HK.o3 hr2 HK.o2.size;have H3:=Z6.mk hR2 hkk hrr2 hI2 hg2 hrd;clear hR2 hk2 hr2 hI2 hg2 hkk hrr2 hrd hpk2
     cases f2 with
     | true =>
      go_wp2_with fail
      go_step3
      have hless:=H3.o5.less rfl;refine ⟨rfl,⟨ρ2,r2,fu,_,_,_,_,_,_,_,_,_,_,_,_,_,_,_,_,_,_,_,_,_,_,_,_,_,rfl,H3.o1,H3.o2,H3.o3,H3.o4,?_,?_⟩,?_⟩
      ·have:=HK.o5;have:=HA.o5;omega
      ·rw [HA.o6,againF,HK.o6,passF,H3.o6]
      ·rw [leftOf_run H3.o1,hmu];have:=HK.o5;omega
     | false =>
      go_wp2_with fail
      go_roundg (L.length - (i+1))
      case measure=>have:=HK.o1;omega
      case rel =>
       obtain ⟨g1,_,_⟩:=H3.o5.same rfl;refine ⟨i+1,ρ2,r2,by omega,rfl,rfl,H3.o1,H3.o2,H3.o3,H3.o4,g1.trans HK.o4,Nat.le_trans H3.o5.le HK.o5,?_⟩;rw [HK.o6,passF,H3.o6]
   ·obtain rfl:i=L.length:=by omega
    rw [List.drop_length] at hpk;have hagk:againF (TT g sm) at_ (r.left+1) r=.ok rk:=by rw [HA.o6,againF,hpk];rfl
    obtain ⟨tb,htb⟩:∃ tb:ByteArray,(⟨p.txt.toArray⟩:ByteArray)=tb:=⟨_,rfl⟩;have htl:tb.size=p.txt.length:=by rw [<- htb,ba_len]
    have b6:wr.cell? ⟨C.rb,6,none⟩=some (.string tb):=by rw [<- htb];exact hRk.mem.box.cell 6
    have hHb:=HH.o4.txt
    by_cases hend:at_=p.txt.length
    ·have hq:((at_:Int)==(tb.size:Int))=true:=by rw [htl,hend];simp
     have hpl:placeF (TT g sm) p.txt at_ r=.ok rk:=by
      unfold placeF;rw [hagk,List.getElem?_eq_none (by omega)]
     have HK:=Z4.mk hRk hKk hrk hpl;clear hRk hKk hrk hIk hnk hlk hpk hro hrr hrl hrow hagk hpl hm htb hend;go_wp2_with fail
     try simp only [Exit.jump]
     refine bodyPost_ret (results_none rfl _ _ _) rfl ?_;rw [HK.o4];exact ⟨rfl,ρk,HK.o1,HK.o2,HK.o3⟩
    ·have hq:((at_:Int)==(tb.size:Int))=false:=by rw [htl];simp;omega
     have hatl:at_<p.txt.length:=by omega
     obtain ⟨b,hb⟩:∃ b,p.txt[at_]?=some b:=⟨_,gE hatl⟩;have hpl:placeF (TT g sm) p.txt at_ r=shiftsF (TT g sm) at_ b L rk:=by
      unfold placeF;rw [hagk,hb];show shiftsF (TT g sm) at_ b (rowN rk.nodes at_) rk=_;have:rowN rk.nodes at_=L:=hrow;rw [this]
     have hix:∀ W:World,(Instr.index 9 (.string tb) (.int .i64 at_)).run Tryz.prog W=.ok (.int .u8 (b.toNat:Int)) W:=fun W=>by
      rw [run_index_string W _ _ _ _ Tryz.underlying9,dif_pos ⟨by omega,by omega⟩]
      have:tb[(at_:Int).toNat]'(by omega)=b:=by
       have h1:p.txt[at_]=b:=(gS.1 hb).2;subst htb;rw [<- h1]
       rfl
      rw [this]
     have hsl:SliceK (fun g=>0<=g) encN 1 wr (.slice ra L.length rc) L:=own_sliceK encN_len hro;have hcl:=clone_int _ L _ wr hsl (by omega);have HIX:=Hd hix;have HK:=Z7.mk hRk hKk hrk hIk hnk hpl hb;clear hRk hKk hrk hIk hnk hlk hpk hro hrr hrl hrow hagk hpl hm htb hix hsl hb;go_wp2_with fail
     refine hcl.mono ?_;rintro e w4 ⟨v4,rfl,ho4,hb4⟩;obtain ⟨ca,cc,rfl⟩:=own_shape ho4;have H4:=Z2.mk ho4 hb4;clear ho4 hb4 hcl;go_wp2_with fail
     obtain ⟨wb,rfl⟩:∃ wb:World,wb=wr:=⟨_,rfl⟩
     go_loopg [48] L.length (fun m v48 wx=>∃ (k:Nat) (ρs:Nat->Option Role) (rs:Rn),k<=L.length /\ m=L.length - k /\ v48=.int .i64 k /\ RunW C p (TT g sm).left w0 ρs rs wx /\ KeepR ρk w4 wx /\ Roles w4.heap.size ρk ρs /\ Inv (TT g sm) p.txt Bd rs /\ (∀ z∈rk.nodes,z∈rs.nodes) /\ shiftsF (TT g sm) at_ b L rk=shiftsF (TT g sm) at_ b (L.drop k) rs)
     case atStart=>exact ⟨0,ρk,rk,by omega,rfl,rfl,HK.o1.below H4.o2,KeepR.refl _ _,Roles.refl _ _,HK.o4,fun _ h=>h,rfl⟩
     case round =>
      obtain ⟨k,ρs,rs,hk,hm,rfl,hRs,hKs,hrs,hIs,hns,hss⟩:=hrel
      by_cases hlt:k<L.length
      ·obtain ⟨s,hs⟩:∃ s,L[k]?=some s:=⟨_,gE hlt⟩;obtain ⟨dg,dcap,edv,_,_,_⟩:=own_some H4.o1 (by omega)
       injection edv with e1 e2 e3;subst e1;subst e3;clear e2;have hown:=own_of_block (w':=wr) H4.o1 fun b hb=>hKs.block b (own_lt H4.o1 hb) (by
        have h1:=(own_ty_ H4.o1 hb).1
        cases hr:ρk b with
        | none=>rfl
        | some R=>have:=HK.o1.mem.lt b (by rw [hr];simp);omega)
       have k0:wr.cell? ⟨dg,k,none⟩=some (.int .i64 s):=by
        have h:=hown.cells (g:=dg) rfl (k * 1) _ (flatK_get encN_len L k s 0 _ hs rfl);rw [addr_add_,Nat.zero_add,Nat.mul_one] at h;exact h
       have hk0:(0:Int)<=k:=by omega
       have hk1:(k:Int)<L.length:=by omega
       have hsn:(s,at_)∈rk.nodes:=by
        rw [HK.o5];exact rowF_mem.1 (by rw [HL.out];exact gM hs)
       have hss2:shiftsF (TT g sm) at_ b L rk=shiftsF (TT g sm) at_ b (s::L.drop (k+1)) rs:=by
        rw [hss,List.drop_eq_getElem_cons hlt];have:L[k]=s:=(gS.1 hs).2;rw [this]
       have htg:=tt_shift g sm s b;obtain ⟨gt,hgt⟩:=eX ((TT g sm).shift s b);rw [hgt] at htg;obtain ⟨go,hgo⟩:=eX (optT gt);rw [hgo] at htg;have hwl:IntKind.i64.wrap ((at_:Int)+1)=(at_:Int)+1:=IntWalk.i64_in _ (by omega)
       have HC:=Hd (show ∀ W,Below wr.drew.heap.size wr.drew W->W.cell? ⟨C.rb,5,none⟩=some p.tv /\ W.cell? ⟨C.rb,6,none⟩=some (.string tb) from fun W hG=>⟨(hRs.mem.box.drew.below hG hRs.mem.box.lt).cell 5,by
        have h1:=(hRs.mem.box.drew.below hG hRs.mem.box.lt).cell 6;have h2:wb.cell? ⟨C.rb,6,none⟩=some (.string ⟨p.txt.toArray⟩):=HK.o1.mem.box.cell 6;rw [h1];exact h2.symm.trans b6⟩)
       have HSH:=Hd (show ∀ W,Below wr.drew.heap.size wr.drew W->Calls Tryz.prog 92 #[p.tv,.int .i64 s,.int .u8 (b.toNat:Int)] W fun e w'=>e=.returned (.tuple #[.int .i64 go.1,.bool go.2]) /\ Below W.heap.size W w' from fun W hG=>by
        have h1:=shift_any g B p.tv sm s b.toNat b.toNat_lt W (HH.o4.tab.below (hRs.mem.low.trans (((show Below wr.heap.size wr wr.drew from (bR _ _).drew).trans hG).mono hRs.mem.low.size))) (HH.o4.small s).1;rw [htg] at h1;exact h1)
       have HS:=Z10.mk hm hRs hKs hrs hIs hns hss2 hsn hgt hgo;clear hm hRs hKs hrs hIs hns hss hss2 hsn hgt hgo htg hown hs;go_upto_region 8 with fail
       refine wp_region_concF 15 14 (plA C p tb s at_ b go) (fun A W=>Below A.heap.size A W) (by kernel_rfl) (by kernel_rfl) (by kernel_rfl) (by kernel_rfl) (bR _ _) (fun h k=>h.trans (k.mono h.size)) ?_ (by intro c a v w h;exact h) ?_ ?_
       ·simp only [List.take_succ_cons,List.take_zero];refine ⟨?_,?_,?_,?_,?_,?_,?_,?_,?_,?_,?_,?_,?_,?_,?_,trivial⟩
        all_goals intro L T W hG hJ hLs hLi dq fq vq K hK
        all_goals try have zk:=fun v=>hK v W (bR _ W) (fun j u _ _ _ h=>h) trivial
        all_goals try have zv:=fun i h=>vq ⟨i,.data⟩ h rfl
        ·have h1:=fq 0 (by decide);simp at h1;go_simp;exact zk _ rfl
        ·have h1:=zv 0 (by simp) 53 rfl;simp [plA] at h1;go_simp;exact zk _ rfl
        ·have h1:=zv 1 (by simp) 54 rfl;simp [plA] at h1;go_simp;exact zk _ rfl
        ·have h1:=zv 2 (by simp) 55 rfl;simp [plA] at h1;obtain ⟨c0,c1⟩:=HC.out W hG;go_simp;exact zk _ rfl
        ·have h1:=fq 6 (by decide);simp at h1;go_simp;exact zk _ rfl
        ·have h1:=fq 0 (by decide);simp at h1;go_simp;exact zk _ rfl
        ·have h1:=zv 5 (by simp) 58 rfl;simp [plA] at h1;go_simp;exact zk _ rfl
        ·have h1:=zv 6 (by simp) 59 rfl;simp [plA] at h1;go_simp;exact zk _ rfl
        ·have h1:=zv 7 (by simp) 60 rfl;simp [plA] at h1;obtain ⟨c0,c1⟩:=HC.out W hG;go_simp;exact zk _ rfl
        ·have h1:=fq 1 (by decide);simp at h1;go_simp;exact zk _ rfl
        ·have h1:=zv 8 (by simp) 61 rfl;have h2:=zv 9 (by simp) 62 rfl;simp [plA] at h1 h2;have hix:=HIX.out W;go_simp;exact zk _ rfl
        ·have h1:=zv 3 (by simp) 56 rfl;have h2:=zv 4 (by simp) 57 rfl;have h3:=zv 10 (by simp) 63 rfl;simp [plA] at h1 h2 h3;have hcl:=HSH.out W hG;go_simp;refine hcl.mono ?_;rintro e W2 ⟨rfl,hb2⟩;exact hK _ _ hb2 (fun j u _ _ _ h=>h) trivial rfl
        ·have h1:=zv 11 (by simp) 64 rfl;simp [plA] at h1;go_simp;exact zk _ rfl
        ·have h1:=zv 12 (by simp) 52 rfl;simp [plA] at h1;go_simp;exact zk _ rfl
        ·have h1:=zv 12 (by simp) 52 rfl;simp [plA] at h1;go_simp;exact zk _ rfl
       ·intro os T W hos hv;have h6:=hv ⟨12,.data⟩ (by simp at hos;subst hos;simp) rfl 52 rfl;simp only [plA] at h6;simp at hos;subst hos;refine ⟨.bool go.2,.inl ⟨rfl,fun w=>?_⟩,rfl⟩;simp [execOp,go_sem,h6]
       ·intro f9 w7 hG hR;have e13:=hR 13 65 (by decide) rfl;have e14:=hR 14 66 (by decide) rfl;simp only [concDsts,qZ];simp only [plA] at e13 e14;rw [e13,e14];clear e13 e14 hR;generalize f9 53=v53;generalize f9 54=v54;generalize f9 55=v55;generalize f9 56=v56;generalize f9 57=v57;generalize f9 58=v58;generalize f9 59=v59;generalize f9 60=v60;generalize f9 61=v61;generalize f9 62=v62;generalize f9 63=v63;generalize f9 64=v64;generalize f9 52=v52;clear f9;have hb7:Below wr.heap.size wr w7:=(show Below wr.heap.size wr wr.drew from (bR _ _).drew).trans hG;have hR7:=HS.o2.below hb7;have hK7:=HS.o3.same (KeepR.of hb7);have H7:=Z2.mk hR7 hK7;clear hb7 hR7 hK7 hG HC HSH;have hgt:=HS.o9;have hgo:=HS.o10
        cases gt with
        | none =>
         obtain rfl:go=(0,false):=hgo.symm;go_wp2_with fail
         go_roundg (L.length - (k+1))
         case measure=>have:=HS.o1;omega
         case rel =>
          refine ⟨k+1,ρs,rs,by omega,rfl,rfl,H7.o1,H7.o2,HS.o4,HS.o5,HS.o6,?_⟩;rw [HS.o7,shiftsF,hgt]
        | some tg =>
         obtain rfl:go=((tg:Int),true):=hgo.symm;have htl2:=HH.o4.below.shift s b tg hgt;have hmany:=HH.o4.many;have hsok:NdOk (s,at_):=HK.o1.mem.nok _ HS.o8;have hcnt:rs.tries.count ((tg,at_+1),(s,at_))<4611686018427387904:=by
          have h0:=(linkF_pre rs (tg,at_+1) (s,at_)).count ((tg,at_+1),(s,at_));have h1:=(shifts_after (T:=TT g sm) (j:=at_) (l:=L.drop (k+1)) (r:=rs) hgt).count ((tg,at_+1),(s,at_));rw [<- HS.o7,<- HK.o6] at h1;have h3:=HH.o3 ((tg,at_+1),(s,at_));omega
         have hlk:=link_any C p (TT g sm).left w0 ρs rs w7 H7.o1 (tg,at_+1) (s,at_) ⟨by simp only;omega,by simp only;omega⟩ hsok hcnt;have hll:=linkF_law (T:=TT g sm) (w:=p.txt) (j:=at_+1) (x:=(tg,at_+1)) (y:=(s,at_)) HS.o5 ((least_closed (TT g sm) p.txt).shift s at_ b tg (HK.o4.sn _ HS.o8) HK.o7 hgt) (HS.o6 _ HS.o8) rfl (by simp only;omega);have HLL:=Hd hll;have HLK:=Hd hlk;have hcast:(((at_+1:Nat)):Int)=(at_:Int)+1:=by omega
         unfold ndV at hlk;simp only at hlk;rw [hcast] at hlk;clear hll hcnt htl2 hmany hsok HLK hcast;go_wp2_with fail
         refine hlk.mono ?_;rintro e w9 hL
         cases hlr:linkF rs (tg,at_+1) (s,at_) with
         | stop r2 =>
          rw [hlr] at hL;obtain ⟨rfl,hk9⟩:=hL
          try simp only [Exit.jump]
          refine An rfl ?_;have hst:placeF (TT g sm) p.txt at_ r=.stop r2:=by
           rw [HK.o6,HS.o7,shiftsF,hgt];dsimp only;rw [hlr]
          rw [hst];exact An rfl (((HK.o2.same (KeepR.of H4.o2)).trans H7.o2 HK.o3).trans hk9 (Roles.trans HK.o3 HS.o4 (by have:=HK.o2.size;have:=H4.o2.size;omega)))
         | ok v =>
          obtain ⟨r2,f3⟩:=v;rw [hlr] at hL;obtain ⟨rfl,ρ9,hR9,hk9,hr9⟩:=hL;have hI9:=HLL.out;rw [hlr] at hI9;obtain ⟨hI9,hg9,_⟩:=hI9;have hsf:shiftsF (TT g sm) at_ b L rk=shiftsF (TT g sm) at_ b (L.drop (k+1)) r2:=by
           rw [HS.o7,shiftsF,hgt];dsimp only;rw [hlr]
          have H9:=Z6.mk hR9 (H7.o2.trans hk9 HS.o4) (Roles.trans HS.o4 hr9 H7.o2.size) hI9 hg9 hsf;clear hR9 hk9 hr9 hI9 hg9 hsf hlr hlk;go_wp2_with fail
          go_roundg (L.length - (k+1))
          case measure=>have:=HS.o1;omega
          case rel =>
           exact ⟨k+1,ρ9,r2,by omega,rfl,rfl,H9.o1,H9.o2,H9.o3,H9.o4,fun z hz=>H9.o5.nodeIn (HS.o6 z hz),H9.o6⟩
      ·obtain rfl:k=L.length:=by omega
       rw [List.drop_length] at hss;have hfin:placeF (TT g sm) p.txt at_ r=.ok rs:=by rw [HK.o6,hss];rfl
       have HS:=Z4.mk hRs hKs hrs hfin;clear hm hRs hKs hrs hIs hns hss hfin;go_wp2_with fail
       try simp only [Exit.jump]
       go_end0
       rw [HS.o4];exact ⟨rfl,ρs,HS.o1,(HK.o2.same (KeepR.of H4.o2)).trans HS.o2 HK.o3,Roles.trans HK.o3 HS.o3 (by have:=HK.o2.size;have:=H4.o2.size;omega)⟩
theorem gcatch_idle (p:Addr) (w:World) :
  CallsD Tryz.prog 70 #[.pointer (some p)] .returning w fun e u' w'=>e=.returned (.tuple #[]) /\ u'=.returning /\ w'=w:=by
 refine callsD_of_wpS Tryz.func70 rfl fun c₀ cs hu=>?_;apply wpS_seq;apply wpS_region;simp [wpOpsS,go_sem,recoverD,hu,Tryz.ntmps70,Exit.thenS];refine wpS_of_wp ?_
 go_wp2
 cases c₀
 simp_all [bodyPostS,results,Tryz.results70]
theorem gcatch_stop (a:Nat) (bv:Value) (older:List PanicEntry) (w:World) (ha:Blk w a 4 #[bv]) :
  CallsD Tryz.prog 70 #[.pointer (some ⟨a,0,none⟩)] (.panicking ({ v:=.iface 147 (.agg #[]),recovered:=false }::older)) w fun e u' w' =>
   e=.returned (.tuple #[]) /\ u'=.panicking ({ v:=.iface 147 (.agg #[]),recovered:=true }::older) /\
   w'=(w.setCell ⟨a,0,none⟩ (.bool false)).alloc (.cells #[] 147):=by
 obtain ⟨a0,af⟩:=ha.facts1;have haw:=ha.lt;refine callsD_of_wpS Tryz.func70 rfl fun c₀ cs hu=>?_;apply wpS_seq;apply wpS_region;simp [wpOpsS,go_sem,recoverD,hu,Tryz.ntmps70,Exit.thenS];refine wpS_of_wp ?_;have hta:∀ (v:Value) (w:World),(Instr.typeAssert (.iface 147 v) 20 147 true).run Tryz.prog w=.ok (.tuple #[v,.bool true]) w:=fun _ _=>by kernel_rfl
 rw [show (#[Value.pointer (some ⟨a,0,none⟩)]++(Array.replicate 9 undef).setIfInBounds 3 (Value.iface 147 (Value.agg #[])):Array Value)=#[Value.pointer (some ⟨a,0,none⟩),undef,undef,undef,Value.iface 147 (Value.agg #[]),undef,undef,undef,undef,undef] from rfl]
 go_wp2
 simp [bodyPostS,results,Tryz.results70]
def roleOf (C:RC) (b:Nat):Option Role :=
 if b=C.rb then some .box else if b=C.bb then some .mback else if b=C.be then some .medges else if b=C.ba then some .malts else if b=C.br then some .mrows else if b=C.bp then some .mpushed else none
theorem run_start {C:RC} {p:RP} {left:Nat->Int} {w W:World} {bud:Nat} (hl:bud<=4398046511104) (hlow:Below w.heap.size w W) (hbox:Blk W C.rb 81 (boxC C p bud))
  (h1:MapS Tryz.prog 150 W C.bb 0 (fun _=>none)) (h2:MapS Tryz.prog 213 W C.be 0 (fun _=>none)) (h3:MapS Tryz.prog 9 W C.ba 0 (fun _=>none)) (h4:MapS Tryz.prog 3 W C.br 0 (fun _=>none)) (h5:MapS Tryz.prog 150 W C.bp 0 (fun _=>none))
  (hn:[C.rb,C.bb,C.be,C.ba,C.br,C.bp].Nodup) (hw:∀ b∈[C.rb,C.bb,C.be,C.ba,C.br,C.bp],w.heap.size<=b):RunM C p left w (roleOf C) ⟨bud,[],[],[],[],[],[],0⟩ W:=by
 simp only [List.nodup_cons,List.mem_cons,List.not_mem_nil,or_false,not_or] at hn;obtain ⟨⟨a1,a2,a3,a4,a5⟩,⟨b1,b2,b3,b4⟩,⟨c1,c2,c3⟩,⟨d1,d2⟩,e1,_⟩:=hn;have hr:RolesOk C (roleOf C):=by
  refine ⟨?_,?_,?_,?_,?_,?_⟩ <;> simp [roleOf,Ne.symm a1,Ne.symm a2,Ne.symm a3,Ne.symm a4,Ne.symm a5,Ne.symm b1,Ne.symm b2,Ne.symm b3,Ne.symm b4,Ne.symm c1,Ne.symm c2,Ne.symm c3,Ne.symm d1,Ne.symm d2,Ne.symm e1]
 have hmem:∀ b,roleOf C b≠none->b∈[C.rb,C.bb,C.be,C.ba,C.br,C.bp]:=fun b hb=>by
  unfold roleOf at hb;simp only [List.mem_cons,List.not_mem_nil,or_false]
  by_cases x1:b=C.rb
  ·exact .inl x1
  by_cases x2:b=C.bb
  ·exact .inr (.inl x2)
  by_cases x3:b=C.be
  ·exact .inr (.inr (.inl x3))
  by_cases x4:b=C.ba
  ·exact .inr (.inr (.inr (.inl x4)))
  by_cases x5:b=C.br
  ·exact .inr (.inr (.inr (.inr (.inl x5))))
  by_cases x6:b=C.bp
  ·exact .inr (.inr (.inr (.inr (.inr x6))))
  simp [x1,x2,x3,x4,x5,x6] at hb
 refine ⟨hlow,fun b hb=>?_,fun b hb=>?_,hr,hbox,⟨0,fun _=>none,fun _=>.slice none 0 0,h1,nR _,fun x _=>rfl,fun x=>⟨World.ownsRow_nil _ _ _ _,fun b hb=>(by cases hb),fun _=>rfl⟩⟩,⟨fun _=>none,h2,fun x y _ _=>rfl⟩,⟨fun _=>none,fun _=>.slice none 0 0,h3,fun l=>rfl,fun a ha=>(by cases ha)⟩,
  ⟨0,fun _=>none,fun _=>.slice none 0 0,h4,nR _,fun z=>by simp [rowN],fun i=>⟨World.ownsRow_nil _ _ _ _,fun b hb=>(by cases hb),fun _=>rfl⟩⟩,⟨fun _=>none,fun _=>0,h5,fun x=>⟨⟨fun _=>by simp,fun _=>rfl⟩,nR _⟩,fun x _=>rfl⟩,fun x hx=>(by cases hx),fun x hx=>(by cases hx),fun x hx=>(by cases hx),fun x hx=>(by cases hx),hl,Nat.zero_le _,Nat.zero_le _,Nat.zero_le _,Nat.zero_le _,Nat.zero_le _,Nat.zero_le _⟩
 ·cases hro:roleOf C b with
  | none=>rfl
  | some R=>have:=hw b (hmem b (by rw [hro];simp));omega
 ·have hm:=hmem b hb;simp only [List.mem_cons,List.not_mem_nil,or_false] at hm
  rcases hm with rfl | rfl | rfl | rfl | rfl | rfl
  ·exact hbox.lt
  ·exact h1.lt
  ·exact h2.lt
  ·exact h3.lt
  ·exact h4.lt
  ·exact h5.lt
theorem RunW.setFar {C:RC} {p:RP} {left:Nat->Int} {w0 w:World} {ρ:Nat->Option Role} {r:Rn} (h:RunW C p left w0 ρ r w) {b0:Nat} {bv:Bool} (hb:Blk w b0 4 #[.bool bv]) (hn:ρ b0=none) (hl:w0.heap.size<=b0) (u:Value):RunW C p left w0 ρ r (w.setCell ⟨b0,0,none⟩ u):=by
 have hset:∀ g,g≠b0->(w.setCell ⟨b0,0,none⟩ u).heap[g]?=w.heap[g]?:=fun g hg=>Below.heap_setCell w ⟨b0,0,none⟩ u g hg;have hs:∀ Q,SameQ Q ρ w (w.setCell ⟨b0,0,none⟩ u):=fun Q b R _ hR _=>hset b (fun e=>by subst e;rw [hn] at hR;cases hR);have hr:=Roles.refl w.heap.size ρ;have hsz:(w.setCell ⟨b0,0,none⟩ u).heap.size=w.heap.size:=by simp [World.setCell]
 have hm:=h.mem;obtain ⟨f,va,h1,h2,h3⟩:=hm.alts;refine ⟨{ hm with
  low:=hm.low.setCell hl u
  lt:=fun b hb2=>by rw [hsz];exact hm.lt b hb2
  box:=(hs (·=.box) _ _ hm.box.lt hm.roles.rb rfl).trans hm.box
  back:=hm.back.keep hm.roles.bb (hs _) hr
  edges:=hm.edges.keep hm.roles.be (hs _)
  alts:=⟨f,va,h1.of_block (hs (fun _=>True) _ _ h1.lt hm.roles.ba trivial),h2,fun a ha=>?_⟩
  rows:=hm.rows.keep hm.roles.br (hs _) hr
  pushed:=hm.pushed.keep hm.roles.bp (hs _) },h.nn,h.tot,h.te⟩
 obtain ⟨q,c,e,k1,k2,k3⟩:=h3 a ha;refine ⟨q,c,e,k1,k2,fun hne=>?_⟩;obtain ⟨g,o,e1,hD,hrr⟩:=k3 hne
 suffices hgb:g≠b0 by exact ⟨g,o,e1,hD.keep_ rfl (hset g hgb),hrr.same (hset g hgb)⟩
 intro e2;subst e2;obtain ⟨z,l',hz⟩:∃ z l',a.cuts=z::l':=by cases hc:a.cuts with | nil=>exact absurd hc hne | cons z l'=>exact ⟨z,l',rfl⟩
 have hcell:=hrr.cells 0 z (by rw [hz];rfl) 0 (.int .i64 z) rfl;rw [hb.cell] at hcell
 cases o with
 | zero=>simp at hcell
 | succ o=>simp at hcell
def GoneT (p:RP) (left:Nat->Int) (w:World) (e:Ending) (w':World):Out Rn->Prop
 | .ok r=>∃ C ρ,e=.returned (.tuple #[.pointer (some ⟨C.rb,0,none⟩),.bool true]) /\ RunW C p left w ρ r w'
 | .stop _=>∃ v,e=.returned (.tuple #[v,.bool false]) /\ Below w.heap.size w w'
theorem gres (tmps:Array Value) (w:World) (a b:Nat) (bv:Bool) (hp:tmps.getD 8 undef=.pointer (some ⟨a,0,none⟩)) (hq:tmps.getD 9 undef=.pointer (some ⟨b,0,none⟩)) (hb:Blk w b 4 #[.bool bv]) :
  (results Tryz.f52 tmps).run Tryz.prog w=.ok (.tuple #[.pointer (some ⟨a,0,none⟩),.bool bv]) w:=by
 have b0:=hb.cell 0;simp at b0 hp hq;simp [results,Tryz.results52,go_sem,hp,hq,b0]
theorem gone_any (g:Gr) (B:Nat) (sm:List SM) (p:RP) (w:World) (hc:Ctx g B sm p w) (Bd:Nat) (hO:RedOk g sm p.txt Bd) (hB:Bd<=2199023255552) (hT:∀ e,(outA (goneF (TT g sm) p.txt Bd)).tries.count e<4611686018427387904) :
  Calls Tryz.prog 52 #[.agg #[p.sv,p.pv,.int .i64 p.st,p.fv,p.lv],p.tv,.string ⟨p.txt.toArray⟩,.int .i64 Bd] w fun e w'=>GoneT p (TT g sm).left w e w' (goneF (TT g sm) p.txt Bd):=by
 have hmf:∀ (fn:Fn) (first cap:Array Value) (w:World),(Instr.makeFunc fn first cap).run Tryz.prog w=.ok (.func fn first cap) w:=fun _ _ _ _=>rfl
 have hmm:=@run_makeMap Tryz.prog;obtain ⟨tp,htv⟩:∃ tp,p.tv=.pointer tp:=by
  rcases hc.tab with ⟨h,_⟩ | ⟨tb,h,_⟩
  ·exact ⟨_,h⟩
  ·exact ⟨_,h⟩
 have HH:=Z5.mk hc hO hB hT htv;clear hc hO hB hT;rw [htv];clear htv
 go_enter_defers Tryz.func52,Tryz.ntmps52
 go_upto_region 3 with fail
 obtain ⟨W,hWd⟩:=eX (((((((((w.alloc (.cells #[p.sv,p.pv,.int .i64 p.st,p.fv,p.lv] 27)).alloc (.cells #[.bool false] 4)).alloc (.map #[] 0)).alloc (.map #[] 0)).alloc (.map #[] 0)).alloc (.map #[] 0)).alloc (.map #[] 0)).alloc (.cells #[p.sv,p.pv,.int .i64 p.st,p.fv,p.lv,.pointer tp,.string ⟨p.txt.toArray⟩,.int .i64 Bd,.map (some (w.heap.size+1+1)),.map (some (w.heap.size+1+1+1)),.map (some (w.heap.size+1+1+1+1)),.map (some (w.heap.size+1+1+1+1+1)),.map (some (w.heap.size+1+1+1+1+1+1))] 81)));have hfb:Blk ((((((((w.alloc (.cells #[p.sv,p.pv,.int .i64 p.st,p.fv,p.lv] 27)).alloc (.cells #[.bool false] 4)).alloc (.map #[] 0)).alloc (.map #[] 0)).alloc (.map #[] 0)).alloc (.map #[] 0)).alloc (.map #[] 0)).alloc (.cells #[p.sv,p.pv,.int .i64 p.st,p.fv,p.lv,.pointer tp,.string ⟨p.txt.toArray⟩,.int .i64 Bd,.map (some (w.heap.size+1+1)),.map (some (w.heap.size+1+1+1)),.map (some (w.heap.size+1+1+1+1)),.map (some (w.heap.size+1+1+1+1+1)),.map (some (w.heap.size+1+1+1+1+1+1))] 81)) (w.heap.size+1) 4 #[.bool false]:=((((((Blk.new_ (by simp) _ _).alloc _).alloc _).alloc _).alloc _).alloc _).alloc _;have hrb:Blk ((((((((w.alloc (.cells #[p.sv,p.pv,.int .i64 p.st,p.fv,p.lv] 27)).alloc (.cells #[.bool false] 4)).alloc (.map #[] 0)).alloc (.map #[] 0)).alloc (.map #[] 0)).alloc (.map #[] 0)).alloc (.map #[] 0)).alloc (.cells #[p.sv,p.pv,.int .i64 p.st,p.fv,p.lv,.pointer tp,.string ⟨p.txt.toArray⟩,.int .i64 Bd,.map (some (w.heap.size+1+1)),.map (some (w.heap.size+1+1+1)),.map (some (w.heap.size+1+1+1+1)),.map (some (w.heap.size+1+1+1+1+1)),.map (some (w.heap.size+1+1+1+1+1+1))] 81)) (w.heap.size+1+1+1+1+1+1+1) 81 #[p.sv,p.pv,.int .i64 p.st,p.fv,p.lv,.pointer tp,.string ⟨p.txt.toArray⟩,.int .i64 Bd,.map (some (w.heap.size+1+1)),.map (some (w.heap.size+1+1+1)),.map (some (w.heap.size+1+1+1+1)),.map (some (w.heap.size+1+1+1+1+1)),.map (some (w.heap.size+1+1+1+1+1+1))]:=Blk.new_ (by simp) _ _;have hbl:Below w.heap.size w ((((((((w.alloc (.cells #[p.sv,p.pv,.int .i64 p.st,p.fv,p.lv] 27)).alloc (.cells #[.bool false] 4)).alloc (.map #[] 0)).alloc (.map #[] 0)).alloc (.map #[] 0)).alloc (.map #[] 0)).alloc (.map #[] 0)).alloc (.cells #[p.sv,p.pv,.int .i64 p.st,p.fv,p.lv,.pointer tp,.string ⟨p.txt.toArray⟩,.int .i64 Bd,.map (some (w.heap.size+1+1)),.map (some (w.heap.size+1+1+1)),.map (some (w.heap.size+1+1+1+1)),.map (some (w.heap.size+1+1+1+1+1)),.map (some (w.heap.size+1+1+1+1+1+1))] 81)):=((((((((bR _ _).alloc (nR _) _).alloc (by simp) _).alloc (by simp;omega) _).alloc (by simp;omega) _).alloc (by simp;omega) _).alloc (by simp;omega) _).alloc (by simp;omega) _).alloc (by simp;omega) _
 have hm1:MapS Tryz.prog 150 ((((((((w.alloc (.cells #[p.sv,p.pv,.int .i64 p.st,p.fv,p.lv] 27)).alloc (.cells #[.bool false] 4)).alloc (.map #[] 0)).alloc (.map #[] 0)).alloc (.map #[] 0)).alloc (.map #[] 0)).alloc (.map #[] 0)).alloc (.cells #[p.sv,p.pv,.int .i64 p.st,p.fv,p.lv,.pointer tp,.string ⟨p.txt.toArray⟩,.int .i64 Bd,.map (some (w.heap.size+1+1)),.map (some (w.heap.size+1+1+1)),.map (some (w.heap.size+1+1+1+1)),.map (some (w.heap.size+1+1+1+1+1)),.map (some (w.heap.size+1+1+1+1+1+1))] 81)) (w.heap.size+1+1) 0 (fun _=>none):=by
  have h0:=MapS.made ((w.alloc (.cells #[p.sv,p.pv,.int .i64 p.st,p.fv,p.lv] 27)).alloc (.cells #[.bool false] 4)) Tryz.prog 150;have h1:=((((h0.alloc (Obj.map #[] 0)).alloc (Obj.map #[] 0)).alloc (Obj.map #[] 0)).alloc (Obj.map #[] 0));have h2:=h1.alloc (.cells #[p.sv,p.pv,.int .i64 p.st,p.fv,p.lv,.pointer tp,.string ⟨p.txt.toArray⟩,.int .i64 Bd,.map (some (w.heap.size+1+1)),.map (some (w.heap.size+1+1+1)),.map (some (w.heap.size+1+1+1+1)),.map (some (w.heap.size+1+1+1+1+1)),.map (some (w.heap.size+1+1+1+1+1+1))] 81)
  simpa using h2
 have hm2:MapS Tryz.prog 213 ((((((((w.alloc (.cells #[p.sv,p.pv,.int .i64 p.st,p.fv,p.lv] 27)).alloc (.cells #[.bool false] 4)).alloc (.map #[] 0)).alloc (.map #[] 0)).alloc (.map #[] 0)).alloc (.map #[] 0)).alloc (.map #[] 0)).alloc (.cells #[p.sv,p.pv,.int .i64 p.st,p.fv,p.lv,.pointer tp,.string ⟨p.txt.toArray⟩,.int .i64 Bd,.map (some (w.heap.size+1+1)),.map (some (w.heap.size+1+1+1)),.map (some (w.heap.size+1+1+1+1)),.map (some (w.heap.size+1+1+1+1+1)),.map (some (w.heap.size+1+1+1+1+1+1))] 81)) (w.heap.size+1+1+1) 0 (fun _=>none):=by
  have h0:=MapS.made (((w.alloc (.cells #[p.sv,p.pv,.int .i64 p.st,p.fv,p.lv] 27)).alloc (.cells #[.bool false] 4)).alloc (.map #[] 0)) Tryz.prog 213;have h1:=(((h0.alloc (Obj.map #[] 0)).alloc (Obj.map #[] 0)).alloc (Obj.map #[] 0));have h2:=h1.alloc (.cells #[p.sv,p.pv,.int .i64 p.st,p.fv,p.lv,.pointer tp,.string ⟨p.txt.toArray⟩,.int .i64 Bd,.map (some (w.heap.size+1+1)),.map (some (w.heap.size+1+1+1)),.map (some (w.heap.size+1+1+1+1)),.map (some (w.heap.size+1+1+1+1+1)),.map (some (w.heap.size+1+1+1+1+1+1))] 81)
  simpa using h2
 have hm3:MapS Tryz.prog 9 ((((((((w.alloc (.cells #[p.sv,p.pv,.int .i64 p.st,p.fv,p.lv] 27)).alloc (.cells #[.bool false] 4)).alloc (.map #[] 0)).alloc (.map #[] 0)).alloc (.map #[] 0)).alloc (.map #[] 0)).alloc (.map #[] 0)).alloc (.cells #[p.sv,p.pv,.int .i64 p.st,p.fv,p.lv,.pointer tp,.string ⟨p.txt.toArray⟩,.int .i64 Bd,.map (some (w.heap.size+1+1)),.map (some (w.heap.size+1+1+1)),.map (some (w.heap.size+1+1+1+1)),.map (some (w.heap.size+1+1+1+1+1)),.map (some (w.heap.size+1+1+1+1+1+1))] 81)) (w.heap.size+1+1+1+1) 0 (fun _=>none):=by
  have h0:=MapS.made ((((w.alloc (.cells #[p.sv,p.pv,.int .i64 p.st,p.fv,p.lv] 27)).alloc (.cells #[.bool false] 4)).alloc (.map #[] 0)).alloc (.map #[] 0)) Tryz.prog 9;have h1:=((h0.alloc (Obj.map #[] 0)).alloc (Obj.map #[] 0));have h2:=h1.alloc (.cells #[p.sv,p.pv,.int .i64 p.st,p.fv,p.lv,.pointer tp,.string ⟨p.txt.toArray⟩,.int .i64 Bd,.map (some (w.heap.size+1+1)),.map (some (w.heap.size+1+1+1)),.map (some (w.heap.size+1+1+1+1)),.map (some (w.heap.size+1+1+1+1+1)),.map (some (w.heap.size+1+1+1+1+1+1))] 81)
  simpa using h2
 have hm4:MapS Tryz.prog 3 ((((((((w.alloc (.cells #[p.sv,p.pv,.int .i64 p.st,p.fv,p.lv] 27)).alloc (.cells #[.bool false] 4)).alloc (.map #[] 0)).alloc (.map #[] 0)).alloc (.map #[] 0)).alloc (.map #[] 0)).alloc (.map #[] 0)).alloc (.cells #[p.sv,p.pv,.int .i64 p.st,p.fv,p.lv,.pointer tp,.string ⟨p.txt.toArray⟩,.int .i64 Bd,.map (some (w.heap.size+1+1)),.map (some (w.heap.size+1+1+1)),.map (some (w.heap.size+1+1+1+1)),.map (some (w.heap.size+1+1+1+1+1)),.map (some (w.heap.size+1+1+1+1+1+1))] 81)) (w.heap.size+1+1+1+1+1) 0 (fun _=>none):=by
  have h0:=MapS.made (((((w.alloc (.cells #[p.sv,p.pv,.int .i64 p.st,p.fv,p.lv] 27)).alloc (.cells #[.bool false] 4)).alloc (.map #[] 0)).alloc (.map #[] 0)).alloc (.map #[] 0)) Tryz.prog 3;have h1:=(h0.alloc (Obj.map #[] 0));have h2:=h1.alloc (.cells #[p.sv,p.pv,.int .i64 p.st,p.fv,p.lv,.pointer tp,.string ⟨p.txt.toArray⟩,.int .i64 Bd,.map (some (w.heap.size+1+1)),.map (some (w.heap.size+1+1+1)),.map (some (w.heap.size+1+1+1+1)),.map (some (w.heap.size+1+1+1+1+1)),.map (some (w.heap.size+1+1+1+1+1+1))] 81)
  simpa using h2
 have hm5:MapS Tryz.prog 150 ((((((((w.alloc (.cells #[p.sv,p.pv,.int .i64 p.st,p.fv,p.lv] 27)).alloc (.cells #[.bool false] 4)).alloc (.map #[] 0)).alloc (.map #[] 0)).alloc (.map #[] 0)).alloc (.map #[] 0)).alloc (.map #[] 0)).alloc (.cells #[p.sv,p.pv,.int .i64 p.st,p.fv,p.lv,.pointer tp,.string ⟨p.txt.toArray⟩,.int .i64 Bd,.map (some (w.heap.size+1+1)),.map (some (w.heap.size+1+1+1)),.map (some (w.heap.size+1+1+1+1)),.map (some (w.heap.size+1+1+1+1+1)),.map (some (w.heap.size+1+1+1+1+1+1))] 81)) (w.heap.size+1+1+1+1+1+1) 0 (fun _=>none):=by
  have h0:=MapS.made ((((((w.alloc (.cells #[p.sv,p.pv,.int .i64 p.st,p.fv,p.lv] 27)).alloc (.cells #[.bool false] 4)).alloc (.map #[] 0)).alloc (.map #[] 0)).alloc (.map #[] 0)).alloc (.map #[] 0)) Tryz.prog 150;have h1:=h0;have h2:=h1.alloc (.cells #[p.sv,p.pv,.int .i64 p.st,p.fv,p.lv,.pointer tp,.string ⟨p.txt.toArray⟩,.int .i64 Bd,.map (some (w.heap.size+1+1)),.map (some (w.heap.size+1+1+1)),.map (some (w.heap.size+1+1+1+1)),.map (some (w.heap.size+1+1+1+1+1)),.map (some (w.heap.size+1+1+1+1+1+1))] 81)
  simpa using h2
 rw [hWd] at hfb hrb hbl hm1 hm2 hm3 hm4 hm5 ⊢;clear hWd;obtain ⟨n0,hn0⟩:=eX w.heap.size;rw [hn0] at hfb hrb hm1 hm2 hm3 hm4 hm5 ⊢;have hst:=run_start (C:=⟨n0+1+1+1+1+1+1+1,n0+1+1,n0+1+1+1,n0+1+1+1+1,n0+1+1+1+1+1,n0+1+1+1+1+1+1⟩) (p:=p) (left:=(TT g sm).left) (bud:=Bd) (by have:=HH.o3;omega) hbl (by unfold boxC;rw [HH.o5];exact hrb) hm1 hm2 hm3 hm4 hm5 (by simp;omega) (by simp;omega);obtain ⟨C,hC⟩:∃ C:RC,C=⟨n0+1+1+1+1+1+1+1,n0+1+1,n0+1+1+1,n0+1+1+1+1,n0+1+1+1+1+1,n0+1+1+1+1+1+1⟩:=⟨_,rfl⟩;have hCr:n0+1+1+1+1+1+1+1=C.rb:=by rw [hC]
 rw [<- hC] at hst;rw [hCr];have hfn:roleOf C (n0+1)=none:=by rw [hC];unfold roleOf;simp only;rw [if_neg (by omega),if_neg (by omega),if_neg (by omega),if_neg (by omega),if_neg (by omega),if_neg (by omega)]
 have H1:=Z5.mk hst hfb hbl hn0 hfn;clear hst hfb hbl hrb hm1 hm2 hm3 hm4 hm5 hC hCr hn0 hfn;go_wp2_with fail
 refine (start_any _ W).mono ?_;rintro e w1 ⟨rfl,rfl⟩;go_wp2_with fail
 refine (push_any C p (TT g sm).left w (roleOf C) _ w1 H1.o1 (0,0) ⟨by decide,by decide⟩ rfl (by simp) (by simp)).mono ?_
 rintro e w2 ⟨rfl,ρ2,hM2,hk2,hr2⟩;have hBd:=HH.o3;have hR2:RunW C p (TT g sm).left w ρ2 (newF Bd) w2:=by
  refine ⟨?_,by simp [newF],by unfold sumF;simp [newF];omega,fun e=>Iff.rfl⟩;have e1:pushN [] ((0,0):Nd)=[(0,0)]:=by simp [pushN]
  simp only [e1] at hM2;exact hM2
 have hI0:Inv (TT g sm) p.txt Bd (newF Bd):=⟨by simp [newF],by simp [newF],by simp [newF],by simp [newF],fun x hx=>by
  simp only [newF,List.mem_singleton] at hx;subst hx;exact (least_closed _ _).start,fun e he=>by simp [newF] at he,fun e he=>by simp [newF] at he,fun e he=>by simp [newF] at he⟩
 have hU0:Upto (TT g sm) p.txt 0 (newF Bd):=⟨fun x hx h=>by omega,fun x hx h=>by omega,fun x hx=>by simp only [newF,List.mem_singleton] at hx;subst hx;simp,by simp [newF]⟩;have H2:=Z5.mk hR2 hk2 hr2 hI0 hU0;clear hM2 hk2 hr2 hR2 hI0 hU0;go_wp2_with fail
 have htl:=HH.o1.txt;obtain ⟨tb,htb⟩:∃ tb:ByteArray,(⟨p.txt.toArray⟩:ByteArray)=tb:=⟨_,rfl⟩;have htz:tb.size=p.txt.length:=by rw [<- htb,ba_len]
 rw [htb];clear htb
 go_loopg [10] (p.txt.length+2) (fun m v10 wr=>∃ (i:Nat) (ρi:Nat->Option Role) (ri:Rn),i<=p.txt.length+1 /\ m=p.txt.length+2 - i /\ v10=.int .i64 i /\ RunW C p (TT g sm).left w ρi ri wr /\ KeepR (roleOf C) w1 wr /\ Roles w1.heap.size (roleOf C) ρi /\ Inv (TT g sm) p.txt Bd ri /\ Upto (TT g sm) p.txt i ri /\ goneF (TT g sm) p.txt Bd=goneGo (TT g sm) p.txt (p.txt.length+1 - i) i ri)
 case atStart=>exact ⟨0,ρ2,newF Bd,by omega,rfl,rfl,H2.o1,H2.o2,H2.o3,H2.o4,H2.o5,rfl⟩
 case round =>
  obtain ⟨i,ρi,ri,hi,hm,rfl,hRi,hKi,hri,hIi,hUi,hgo⟩:=hrel;have hfb:Blk wr (n0+1) 4 #[.bool false]:=hKi.blk H1.o5 H1.o2;have hρf:ρi (n0+1)=none:=(hri (n0+1) H1.o2.lt).trans H1.o5;obtain ⟨f0,fz⟩:=hfb.facts1;have hfl:=hfb.lt
  by_cases hle:i<=p.txt.length
  ·have hd:((i:Int)<=tb.size):=by omega
   have hil:i<1048576:=by omega
   obtain ⟨ra,rc,hro,hrr,hrl⟩:=row_look hRi.mem i hil;have hlook:=hrl wr rfl;have b11:wr.cell? ⟨C.rb,11,none⟩=some (.map (some C.br)):=hRi.mem.box.cell 11;obtain ⟨L,hL⟩:=eX (rowN (rmOf ri).nodes i);have hLF:rowF ri i=L:=hL;rw [hL] at hlook;clear hro hrr hrl hL;obtain ⟨k,hk⟩:∃ k,p.txt.length+1 - i=k+1:=⟨p.txt.length - i,by omega⟩
   by_cases hL0:L=[]
   ·have hend:goneF (TT g sm) p.txt Bd=.ok ri:=by
     rw [hgo,hk,goneGo,if_pos (by rw [hLF];exact hL0)]
    subst hL0;clear hLF hk;have HF:=Z6.mk hRi hKi hri hfb hρf hend;clear hRi hKi hri hIi hUi hgo hend hfb hρf hm;go_wp2_with fail
    refine leaves_cons (f:=70) (args:=#[.pointer (some ⟨n0+1,0,none⟩)]) (by simp) (by simp [go_sem]) ?_;refine (gcatch_idle ⟨n0+1,0,none⟩ _).mono ?_;rintro e u' w'' ⟨rfl,rfl,rfl⟩;refine ⟨.tuple #[.pointer (some ⟨C.rb,0,none⟩),.bool true],gres _ _ _ _ _ (by rfl) (by rfl) (HF.o4.set_ 0 (.bool true)),?_⟩;rw [HF.o6];exact ⟨C,ρi,rfl,HF.o1.setFar HF.o4 HF.o5 (by have:=H1.o4;omega) _⟩
   ·have hLp:0<L.length:=List.length_pos_iff.2 hL0;have hd2:decide (0<(L.length:Int))=true:=decide_eq_true (by omega)
    have hgo2:goneF (TT g sm) p.txt Bd=match placeF (TT g sm) p.txt i ri with | .stop r=>.stop r | .ok r=>goneGo (TT g sm) p.txt k (i+1) r:=by
     rw [hgo,hk,goneGo,if_neg (by rw [hLF];exact hL0)]
     cases placeF (TT g sm) p.txt i ri <;> rfl
    have hpT:∀ e,(outA (placeF (TT g sm) p.txt i ri)).tries.count e<4611686018427387904:=fun e=>by
     have h1:=HH.o4 e;rw [hgo2] at h1
     cases hpf:placeF (TT g sm) p.txt i ri with
     | stop r2=>rw [hpf] at h1;exact h1
     | ok r2 =>
      rw [hpf] at h1;have h2:=(goneGo_pre (TT g sm) p.txt k (i+1) r2).count e;exact Nat.lt_of_le_of_lt h2 h1
    have hpl:=place_any g B sm C p w HH.o1 Bd HH.o2 ρi ri wr hRi hIi i hle hpT;have hplw:=placeF_law (T:=TT g sm) (w:=p.txt) (j:=i) hle hIi hUi;have HP:=Z10.mk hpl hplw hgo2 hRi hKi hri hfb hρf hm hk;clear hpl hplw hgo2 hpT hRi hKi hri hIi hUi hgo hfb hρf hm hLF hL0 hk;go_wp2_with fail
    refine HP.o1.mono ?_;rintro e w3 hP3;have hplw:=HP.o2;have hgo2:=HP.o3
    cases hpf:placeF (TT g sm) p.txt i ri with
    | stop r2 =>
     rw [hpf] at hP3 hgo2;obtain ⟨rfl,hk3⟩:=hP3;have hkk:=HP.o5.trans hk3 HP.o6;have hf3:=hkk.blk H1.o5 H1.o2;have hb3:Below w.heap.size w w3:=hkk.low H1.o3 H1.o3.size H1.o1.above;refine leaves_cons (f:=70) (args:=#[.pointer (some ⟨n0+1,0,none⟩)]) (by simp) (by simp [go_sem]) ?_;refine (gcatch_stop (n0+1) _ [] w3 hf3).mono ?_;rintro e u' w'' ⟨rfl,rfl,rfl⟩;refine ⟨.tuple #[.pointer (some ⟨C.rb,0,none⟩),.bool false],gres _ _ _ _ _ (by rfl) (by rfl) ((hf3.set_ 0 (.bool false)).alloc _),?_⟩;rw [hgo2];exact ⟨_,rfl,(hb3.setCell (p:=⟨n0+1,0,none⟩) (by have:=H1.o4;simp;omega) _).alloc (by have:=hb3.size;simpa [World.setCell] using this) _⟩
    | ok r2 =>
     rw [hpf] at hP3 hgo2 hplw;obtain ⟨rfl,ρ3,hR3,hk3,hr3⟩:=hP3;obtain ⟨hI3,hU3⟩:=hplw;have H3:=Z6.mk hR3 (HP.o5.trans hk3 HP.o6) (Roles.trans HP.o6 hr3 HP.o5.size) hI3 hU3 hgo2;clear hR3 hk3 hr3 hI3 hU3 hgo2 hpf;go_wp2_with fail
     go_roundg (p.txt.length+2 - (i+1))
     case measure=>have:=HP.o9;omega
     case rel =>
      refine ⟨i+1,ρ3,r2,by omega,rfl,rfl,H3.o1,H3.o2,H3.o3,H3.o4,H3.o5,?_⟩;rw [H3.o6];have:=HP.o10;rw [show p.txt.length+1 - (i+1)=k by omega]
  ·have hd:¬ ((i:Int)<=tb.size):=by omega
   have hend:goneF (TT g sm) p.txt Bd=.ok ri:=by
    rw [hgo,show p.txt.length+1 - i=0 by omega,goneGo]
   have HF:=Z6.mk hRi hKi hri hfb hρf hend;clear hRi hKi hri hIi hUi hgo hend hfb hρf hm;go_wp2_with fail
   refine leaves_cons (f:=70) (args:=#[.pointer (some ⟨n0+1,0,none⟩)]) (by simp) (by simp [go_sem]) ?_;refine (gcatch_idle ⟨n0+1,0,none⟩ _).mono ?_;rintro e u' w'' ⟨rfl,rfl,rfl⟩;refine ⟨.tuple #[.pointer (some ⟨C.rb,0,none⟩),.bool true],gres _ _ _ _ _ (by rfl) (by rfl) (HF.o4.set_ 0 (.bool true)),?_⟩;rw [HF.o6];exact ⟨C,ρi,rfl,HF.o1.setFar HF.o4 HF.o5 (by have:=H1.o4;omega) _⟩
def neR (C:RC) (p:RP) (n acc M B0:Nat) (j:Nat) (v:Value) (W:World):Prop :=
 match j with
 | 0=>v=.agg #[.int .u64 (wd acc 0),.int .u64 (wd acc 1),.int .u64 (wd acc 2),.int .u64 (wd acc 3)]
 | 1=>v=.pointer (some ⟨C.rb,0,none⟩)
 | 2=>v=.pointer (some ⟨C.rb,0,none⟩)
 | 3=>v=.pointer (some ⟨C.rb,5,none⟩)
 | 4=>v=p.tv
 | 5=>v=.int .i64 n
 | 6=>v=.agg #[.int .u64 (wd M 0),.int .u64 (wd M 1),.int .u64 (wd M 2),.int .u64 (wd M 3)]
 | 7=>∃ q,v=.slice (some ⟨q,0,none⟩) 2 2 /\ Blk W q 33 #[.int .u64 (wd acc 0),.int .u64 (wd acc 1),.int .u64 (wd acc 2),.int .u64 (wd acc 3),.int .u64 (wd M 0),.int .u64 (wd M 1),.int .u64 (wd M 2),.int .u64 (wd M 3)] /\ B0<=q
 | 8=>v=.agg #[.int .u64 (wd (acc ||| M) 0),.int .u64 (wd (acc ||| M) 1),.int .u64 (wd (acc ||| M) 2),.int .u64 (wd (acc ||| M) 3)]
 | _=>True
theorem neR_low {C:RC} {p:RP} {n acc M B0:Nat} (j:Nat) (v:Value) {W W':World} (h:neR C p n acc M B0 j v W) (hb:Below W.heap.size W W'):neR C p n acc M B0 j v W':=by
 unfold neR at h ⊢
 split at h <;> first | exact h | skip
 obtain ⟨q,e,h1,h2⟩:=h;exact ⟨q,e,h1.below hb h1.lt,h2⟩
theorem two_sets {W:World} {q acc M:Nat} (h:Blk W q 33 #[.int .u64 (wd acc 0),.int .u64 (wd acc 1),.int .u64 (wd acc 2),.int .u64 (wd acc 3),.int .u64 (wd M 0),.int .u64 (wd M 1),.int .u64 (wd M 2),.int .u64 (wd M 3)]):SliceK (fun g=>0<=g) encSet 4 W (.slice (some ⟨q,0,none⟩) 2 2) [acc,M] :=
 own_sliceK encSet_len (l:=[acc,M]) ⟨by simp [flatK,encSet],.inr ⟨q,2,_,rfl,Nat.zero_le _,h,nR _,by unfold maxLen;decide,rfl,by simp [flatK,encSet]⟩⟩
theorem fold_two (a b:Nat):[a,b].foldl (· ||| ·) 0=a ||| b:=by simp
def nextAt (sm:List SM) (L:List Nat):Nat:=L.foldl (fun (a n:Nat)=>a ||| (stAt sm (n:Int)).next) 0
theorem nextAt_snoc (sm:List SM) (L:List Nat) (n:Nat):nextAt sm (L++[n])=nextAt sm L ||| (stAt sm (n:Int)).next:=by simp [nextAt]
theorem gnext_any (g:Gr) (B:Nat) (sm:List SM) (C:RC) (p:RP) (left:Nat->Int) (w0:World) (hc:Ctx g B sm p w0) (ρ:Nat->Option Role) (m:Rm) (w:World) (h:RunM C p left w0 ρ m w) (at_:Nat) (hat:at_<1048576) :
  Calls Tryz.prog 27 #[.pointer (some ⟨C.rb,0,none⟩),.int .i64 at_] w fun e w'=>e=.returned (setV (nextAt sm (rowN m.nodes at_))) /\ Below w.heap.size w w':=by
 obtain ⟨ra,rc,hro,hrr,hrl⟩:=row_look h at_ hat;obtain ⟨L,hL⟩:=eX (rowN m.nodes at_);have hLl:L.length<=4398046511104:=by
  rw [<- hL];unfold rowN;rw [List.length_map];have h1:=List.length_filter_le (fun x:Nd=>x.2==at_) m.nodes;have h2:=h.mn;omega
 rw [hL] at hro hrr hrl ⊢;have HH:=Z4.mk h hro hrl hc;clear h hro hrr hrl hL hc;go_enter Tryz.func27,Tryz.ntmps27;go_upto_region 2 with fail
 have hRB:Blk ((w.alloc (.cells #[.int .u64 0,.int .u64 0,.int .u64 0,.int .u64 0] 33)).alloc (.cells #[.int .u64 0,.int .u64 0,.int .u64 0,.int .u64 0] 33)) w.heap.size 33 (setC 0):=(Blk.new_ rfl _ _).alloc _;have hSB:Blk ((w.alloc (.cells #[.int .u64 0,.int .u64 0,.int .u64 0,.int .u64 0] 33)).alloc (.cells #[.int .u64 0,.int .u64 0,.int .u64 0,.int .u64 0] 33)) (w.heap.size+1) 33 (setC 0):=Blk.new_ (by simp) _ _;have hb0:Below w.heap.size w ((w.alloc (.cells #[.int .u64 0,.int .u64 0,.int .u64 0,.int .u64 0] 33)).alloc (.cells #[.int .u64 0,.int .u64 0,.int .u64 0,.int .u64 0] 33)):=((bR _ _).alloc (nR _) _).alloc (by simp) _;generalize ((w.alloc (.cells #[.int .u64 0,.int .u64 0,.int .u64 0,.int .u64 0] 33)).alloc (.cells #[.int .u64 0,.int .u64 0,.int .u64 0,.int .u64 0] 33))=w1 at hRB hSB hb0 ⊢;have hR1:=HH.o1.below hb0;have hlook:=HH.o3 w1 (hb0.block _ (HH.o1.lt _ (by rw [HH.o1.roles.br];simp)));have b11:w1.cell? ⟨C.rb,11,none⟩=some (.map (some C.br)):=hR1.box.cell 11;have hro1:=row_below HH.o2 hb0;obtain ⟨nb,hnb⟩:=eX w.heap.size;rw [hnb] at hRB hSB ⊢;have H1:=Z6.mk hRB hSB hb0 hR1 hro1 hnb;clear hRB hSB hb0 hR1 hro1 hnb;go_wp2_with fail
 go_loopg [15] L.length (fun m2 v15 wr=>∃ i:Nat,i<=L.length /\ m2=L.length - i /\ v15=.int .i64 i /\ Below (nb+1) w1 wr /\ Blk wr (nb+1) 33 (setC (nextAt sm (L.take i))))
 case atStart=>exact ⟨0,by omega,rfl,rfl,bR _ _,H1.o2⟩
 case round =>
  obtain ⟨i,hi,hm,rfl,hb,hS⟩:=hrel
  by_cases hlt:i<L.length
  ·obtain ⟨s,hs⟩:∃ s,L[i]?=some s:=⟨_,gE hlt⟩;obtain ⟨dg,dcap,edv,_,_,_⟩:=own_some H1.o5 (by omega);injection edv with e1 e2 e3;subst e1;subst e3;clear e2;have hdg:dg<nb+1:=by have h1:=own_lt HH.o2 (show (Value.slice (some ⟨dg,0,none⟩) L.length rc).ownBlock=some dg from rfl);have:=H1.o6;omega
   have k0:wr.cell? ⟨dg,i,none⟩=some (.int .i64 s):=by
    have h:=H1.o5.cells (g:=dg) rfl (i * 1) _ (flatK_get encN_len L i s 0 _ hs rfl);rw [addr_add_,Nat.zero_add,Nat.mul_one] at h;exact (hb.cell (p:=⟨dg,i,none⟩) hdg).trans h
   have hi0:(0:Int)<=i:=by omega
   have hi1:(i:Int)<L.length:=by omega
   have hrbl:C.rb<nb+1:=by have h1:=HH.o1.lt C.rb (by rw [HH.o1.roles.rb];simp);have:=H1.o6;omega
   have hbx:=H1.o4.box.below hb hrbl;obtain ⟨acc,hacc⟩:=eX (nextAt sm (L.take i));rw [hacc] at hS;obtain ⟨M,hM⟩:=eX ((stAt sm (s:Int)).next);have hnbl:nb+1<wr.heap.size:=hS.lt;have HC:=Hd (show ∀ W,Below wr.drew.heap.size wr.drew W->W.cell? ⟨C.rb,5,none⟩=some p.tv /\ W.cell? ⟨nb+1,0,none⟩=some (.int .u64 (wd acc 0)) /\ W.cell? ⟨nb+1,1,none⟩=some (.int .u64 (wd acc 1)) /\ W.cell? ⟨nb+1,2,none⟩=some (.int .u64 (wd acc 2)) /\ W.cell? ⟨nb+1,3,none⟩=some (.int .u64 (wd acc 3)) from fun W hG =>
    ⟨(hbx.drew.below hG hbx.lt).cell 5,(hS.drew.below hG hS.lt).cell 0,(hS.drew.below hG hS.lt).cell 1,(hS.drew.below hG hS.lt).cell 2,(hS.drew.below hG hS.lt).cell 3⟩)
   have hlow0:Below w0.heap.size w0 wr:=HH.o1.low.trans ((H1.o3.trans (hb.mono (by have:=H1.o6;omega))).mono HH.o1.low.size)
   have HNX:=Hd (show ∀ W,Below wr.drew.heap.size wr.drew W->Calls Tryz.prog 56 #[p.tv,.int .i64 s] W fun e w'=>e=.returned (.agg #[.int .u64 (wd M 0),.int .u64 (wd M 1),.int .u64 (wd M 2),.int .u64 (wd M 3)]) /\ Below W.heap.size W w' from fun W hG=>by
    have h1:=next_any g B p.tv sm s W (HH.o4.tab.below (hlow0.trans (((show Below wr.heap.size wr wr.drew from (bR _ _).drew).trans hG).mono hlow0.size)));rw [hM] at h1;exact h1)
   have HZ:=Hd (show ∀ W,Below wr.drew.heap.size wr.drew W->wr.heap.size<=W.heap.size from fun W hG=>hG.size);have HR:=Z7.mk hm hb hS hacc hM hs hnbl;clear hm hb hS hacc hM hs hbx hlow0 hrbl;go_upto_region 5 with fail
   refine wp_region_concT 9 (neR C p s acc M wr.heap.size) (fun A W=>Below A.heap.size A W) (fun _ _=>True) (by kernel_rfl) (by kernel_rfl) (by kernel_rfl) (by kernel_rfl) (bR _ _) trivial (fun h k=>h.trans (k.mono h.size)) ?_ ?_
   ·simp only [List.take_succ_cons,List.take_zero];refine ⟨?_,?_,?_,?_,?_,?_,?_,?_,?_,trivial⟩
    all_goals intro L T W hG hJ hLs hLi dq fq vq K hK
    all_goals try have zk:=fun v=>hK v W (bR _ W) (fun j u _ _ _ h=>h) trivial
    all_goals try have zv:=fun i h=>vq ⟨i,.data⟩ h rfl
    ·have h1:=fq 5 (by decide);simp at h1;obtain ⟨c0,d0,d1,d2,d3⟩:=HC.out W hG;go_simp;exact zk _ rfl
    ·have h1:=fq 0 (by decide);simp at h1;go_simp;exact zk _ rfl
    ·have h1:=zv 1 (by simp) 20 rfl;simp [neR] at h1;go_simp;exact zk _ rfl
    ·have h1:=zv 2 (by simp) 21 rfl;simp [neR] at h1;go_simp;exact zk _ rfl
    ·have h1:=zv 3 (by simp) 22 rfl;simp [neR] at h1;obtain ⟨c0,d0,d1,d2,d3⟩:=HC.out W hG;go_simp;exact zk _ rfl
    ·have h1:=fq 7 (by decide);simp at h1;go_simp;exact zk _ rfl
    ·have h1:=zv 4 (by simp) 23 rfl;have h2:=zv 5 (by simp) 24 rfl;simp [neR] at h1 h2;have hcl:=HNX.out W hG;go_simp;refine hcl.mono ?_;rintro e W2 ⟨rfl,hb2⟩;exact hK _ _ hb2 (fun j u _ _ _ h=>neR_low j u h hb2) trivial rfl
    ·have h1:=zv 0 (by simp) 19 rfl;have h2:=zv 6 (by simp) 25 rfl;simp [neR] at h1 h2;go_simp;have hbn:=(bR W.heap.size W).alloc (nR _) (.cells #[.int .u64 (wd acc 0),.int .u64 (wd acc 1),.int .u64 (wd acc 2),.int .u64 (wd acc 3),.int .u64 (wd M 0),.int .u64 (wd M 1),.int .u64 (wd M 2),.int .u64 (wd M 3)] 33);exact hK _ _ hbn (fun j u _ _ _ h=>neR_low j u h hbn) trivial ⟨_,rfl,Blk.new W _ _,HZ.out W hG⟩
    ·obtain ⟨q,h1,k1,k2⟩:=zv 7 (by simp) 26 rfl;simp at h1;have hsl:=two_sets k1;have hcl:=union_any _ [acc,M] _ W hsl;rw [fold_two] at hcl;unfold setV at hcl;go_simp;refine hcl.mono ?_;rintro e W2 ⟨rfl,hb2⟩;exact hK _ _ hb2 (fun j u _ _ _ h=>neR_low j u h hb2) trivial rfl
   ·intro f9 w5 hG hJe hR;have e8:=hR 8 27 (by decide) rfl;simp only [concDsts,qZ];simp only [neR] at e8;rw [e8];clear e8 hR;generalize f9 19=v19;generalize f9 20=v20;generalize f9 21=v21;generalize f9 22=v22;generalize f9 23=v23;generalize f9 24=v24;generalize f9 25=v25;generalize f9 26=v26;clear f9;obtain ⟨s0,s1,s2,s3,sf⟩:=(HR.o3.drew.below hG HR.o3.lt).facts4;have hS5:=HR.o3.drew.below hG HR.o3.lt;have hl5:=hS5.lt;have H5:=Z2.mk hS5 (show Below wr.heap.size wr w5 from (show Below wr.heap.size wr wr.drew from (bR _ _).drew).trans hG);clear hS5 hG hJe HC HNX HZ;go_wp2_with fail
    go_roundg (L.length - (i+1))
    case measure=>have:=HR.o1;omega
    case rel =>
     have hnl:=HR.o7;refine ⟨i+1,by omega,rfl,rfl,((((HR.o2.trans (H5.o2.mono (by omega))).setCell (by simp) _).setCell (by simp) _).setCell (by simp) _).setCell (by simp) _,?_⟩;have hbk:=(((H5.o1.set_ 0 (.int .u64 (wd (acc ||| M) 0))).set_ 1 (.int .u64 (wd (acc ||| M) 1))).set_ 2 (.int .u64 (wd (acc ||| M) 2))).set_ 3 (.int .u64 (wd (acc ||| M) 3));have e1:nextAt sm (L.take (i+1))=acc ||| M:=by rw [List.take_add_one,HR.o6];show nextAt sm (L.take i++[s])=_;rw [nextAt_snoc,HR.o4,HR.o5]
     rw [e1];exact hbk
  ·obtain rfl:i=L.length:=by omega
   rw [List.take_length] at hS;have hR3:=H1.o1.below hb (by omega);obtain ⟨s0,s1,s2,s3,sf⟩:=hS.facts4;obtain ⟨f0,f1,f2,f3,ff⟩:=hR3.facts4;have hrl:=hR3.lt;have HR:=Z3.mk hb hS hR3;obtain ⟨M,hM⟩:=eX (nextAt sm L);rw [hM] at s0 s1 s2 s3;have HM:=Hd hM;clear hm hb hS hR3 hM;go_wp2_with fail
   have hbk:=(((HR.o3.set_ 0 (.int .u64 (wd M 0))).set_ 1 (.int .u64 (wd M 1))).set_ 2 (.int .u64 (wd M 2))).set_ 3 (.int .u64 (wd M 3));refine bodyPost_ret (results_cell_row (by rfl) _ _ nb 33 _ (0,0) _ (by rfl) hbk Tryz.underlying33 (by rfl) (by kernel_rfl)) rfl ?_;have hnb:=H1.o6;refine ⟨by rw [HM.out];rfl,((((H1.o3.trans (HR.o1.mono (by omega))).setCell ?_ _).setCell ?_ _).setCell ?_ _).setCell ?_ _⟩ <;> (simp only;omega)
end Go.Proofs.YthiochcpmfkgcaaGreatDoor.Gl
namespace Go.Proofs.YthiochcpmfkgcaaGreatDoor.Tb
open Go Go.RowKit Go.Proofs Go.Maps Mx
def sortsB (g:Gr):Bool:=g.sorts.all (fun s=>!s.isEmpty&&decide (s.length<=1000))&&decide g.sorts.Nodup&&decide (1<=g.sorts.length)&&decide (g.sorts.length<=1000)&&decide (0<=g.start)&&decide (g.start<g.sorts.length)
theorem sortsB_iff (g:Gr):sortsB g=true↔SortsOk g:=by
 unfold sortsB;simp only [Bool.and_eq_true,decide_eq_true_eq,List.all_eq_true,Bool.not_eq_true',List.isEmpty_eq_false_iff]
 constructor
 ·rintro ⟨⟨⟨⟨⟨h1,h2⟩,h3⟩,h4⟩,h5⟩,h6⟩;exact ⟨h2,h1,h3,h4,h5,h6⟩
 ·rintro ⟨h1,h2,h3,h4,h5,h6⟩;exact ⟨⟨⟨⟨⟨h2,h1⟩,h3⟩,h4⟩,h5⟩,h6⟩
theorem sortsB_no {g:Gr} {b:Bool} (h:¬ SortsOk g) (hb:b=false):b=sortsB g:=by
 rw [hb]
 cases h2:sortsB g with
 | false=>rfl
 | true=>exact absurd ((sortsB_iff g).1 h2) h
theorem sorts_any (D:Nat->Prop) (g:Gr) (hN:g.sorts.length<=2000000) (hS:∀ s∈g.sorts,s.length<=2000000) (w:World) (sv pv fv lv:Value) (hs:SliceK D encS 1 w sv g.sorts) :
  Calls Tryz.prog 77 #[.agg #[sv,pv,.int .i64 g.start,fv,lv]] w fun e w'=>e=.returned (.bool (sortsB g)) /\ Below w.heap.size w w':=by
 obtain ⟨a,c,rfl,hc1,hc2,hk⟩:=hs;have hmm:=@run_makeMap Tryz.prog;have HK:=Z2.mk hk hS;clear hk hS;go_enter Tryz.func77,Tryz.ntmps77;go_wp2_with fail
 have hB1:Blk ((w.alloc (.cells #[.slice a g.sorts.length c,pv,.int .i64 g.start,fv,lv] 27)).alloc (.map #[] 0)) w.heap.size 27 #[.slice a g.sorts.length c,pv,.int .i64 g.start,fv,lv]:=(Blk.new _ _ _).alloc _;have hM1:MapV Tryz.prog 9 ((w.alloc (.cells #[.slice a g.sorts.length c,pv,.int .i64 g.start,fv,lv] 27)).alloc (.map #[] 0)) (w.heap.size+1) 0 (fun _=>none):=by
  have:=MapV.made (w.alloc (.cells #[.slice a g.sorts.length c,pv,.int .i64 g.start,fv,lv] 27)) Tryz.prog 9
  simpa using this
 have hb1:Below w.heap.size w ((w.alloc (.cells #[.slice a g.sorts.length c,pv,.int .i64 g.start,fv,lv] 27)).alloc (.map #[] 0)):=((bR _ w).alloc (nR _) _).alloc (by simp) _;have hz1:w.heap.size+2<=((w.alloc (.cells #[.slice a g.sorts.length c,pv,.int .i64 g.start,fv,lv] 27)).alloc (.map #[] 0)).heap.size:=by simp
 generalize (w.alloc (.cells #[.slice a g.sorts.length c,pv,.int .i64 g.start,fv,lv] 27)).alloc (.map #[] 0)=W1 at hB1 hM1 hb1 hz1 ⊢;have H1:=Z4.mk hB1 hM1 hb1 hz1;clear hB1 hM1 hb1 hz1
 go_loopg [10] g.sorts.length (fun m v10 wr=>∃ (i:Nat) (f:Lit->Option Value),i<=g.sorts.length /\ m=g.sorts.length - i /\ v10=.int .i64 i /\ MapV Tryz.prog 9 wr (w.heap.size+1) i f /\
  (∀ s,f (.string s)=if s∈g.sorts.take i then some (.int .i64 1) else none) /\ Below w.heap.size w wr /\ Blk wr w.heap.size 27 #[.slice a g.sorts.length c,pv,.int .i64 g.start,fv,lv] /\ (g.sorts.take i).Nodup /\ ∀ s∈g.sorts.take i,s≠[] /\ s.length<=1000)
 case atStart=>exact ⟨0,_,by omega,rfl,rfl,H1.o2,(fun s=>by simp),H1.o3,H1.o1,by simp,by simp⟩
 case round =>
  obtain ⟨i,f,hi,hm,rfl,hM,hf,hb,hB,hnd,heach⟩:=hrel;have q0:=hB.cell 0;have q2:=hB.cell 2;simp at q0 q2
  by_cases hlt:i<g.sorts.length
  ·obtain ⟨s,hsi⟩:∃ s,g.sorts[i]?=some s:=⟨_,gE hlt⟩;obtain ⟨kg,ko,rfl,hkD,hkr⟩:=HK.o1 (by rintro h;rw [h] at hlt;simp at hlt)
   have k0:=hkr.cells i _ hsi 0 _ rfl;simp only [Nat.add_zero,Nat.mul_one] at k0;have k0:=(wB (hb.block kg hkr.lt)).trans k0;have hsm:=HK.o2 s (gM hsi);have hkey:keyOf Tryz.prog 9 (.string ⟨s.toArray⟩)=some (.string s):=by
    have h1:=WideMaps.keyOf_string_mk (P:=Tryz.prog) (k:=9) Tryz.underlying9 (s:=⟨s.toArray⟩) (by unfold maxLen;show s.toArray.size<=_;simp;omega)
    simpa using h1
   obtain ⟨cn,hcn⟩:∃ cn:Nat,(if s∈g.sorts.take i then some (Value.int .i64 1) else none).getD (.int .i64 0)=.int .i64 cn /\ (cn=0∨cn=1) /\ (cn=0↔s ∉ g.sorts.take i):=by
    by_cases h:s∈g.sorts.take i
    ·exact ⟨1,by rw [if_pos h];rfl,.inr rfl,by simp [h]⟩
    ·exact ⟨0,by rw [if_neg h];rfl,.inl rfl,by simp [h]⟩
   obtain ⟨hcv,hc01,hcm⟩:=hcn;have hlk:(Instr.lookup 128 (.map (some (w.heap.size+1))) (.string ⟨s.toArray⟩) false).run Tryz.prog wr=.ok (.int .i64 cn) wr:=by
    have h1:=hM.lookup (string_keyed Tryz.underlying9) Tryz.underlying128 (Tryz.zeroValue3 wr) hkey;rw [hf,hcv] at h1;exact h1
   have hi0:(0:Int)<=i:=by omega
   have hi1:(i:Int)<g.sorts.length:=by omega
   have hmx:i<maxLen:=by unfold maxLen;omega
   have hcn0:(0:Int)<=cn:=by omega
   have hcn1:(cn:Int)<=1:=by omega
   have HMv:=Hd hM;have HR:=Z8.mk hm hf hb hB hsi hcm hnd heach;clear hm hf hb hB hsi hcv hc01 hcm hM hkr q0 q2 hnd heach;go_wp2_with (at_mapUpdate;refine wpList_mapUpdateV _ rfl _ _ _ 128 rfl 9 3 (string_keyed Tryz.underlying9) Tryz.underlying128 (w.heap.size+1) i f rfl ?_ hmx _ _ _ rfl rfl hkey ?_;exact HMv.out)
   intro w5 hm5 hg5;have hlk5:(Instr.lookup 128 (.map (some (w.heap.size+1))) (.string ⟨s.toArray⟩) false).run Tryz.prog w5=.ok (.int .i64 ((cn:Int)+1)) w5:=by
    have h1:=hm5.lookup (string_keyed Tryz.underlying9) Tryz.underlying128 (Tryz.zeroValue3 w5) hkey;rw [putV_string,if_pos rfl] at h1;exact h1
   have hb5:Below w.heap.size w w5:=HR.o3.trans (below_of_grown hg5 HR.o3.size (Nat.le_succ _));have hB5:=HR.o4.grown hg5 (by simp);have HS:=Z3.mk hm5 hb5 hB5;clear hm5 hb5 hB5 hg5 hlk
   cases hse:s.isEmpty with
   | true =>
    have HV:=Hd (sortsB_no (g:=g) (fun h=>(h.each s (gM HR.o5)).1 (List.isEmpty_iff.1 hse)) rfl);go_wp2_with fail
    go_ret;exact ⟨ret_bool HV.out,HS.o2⟩
   | false =>
    by_cases hl:1000<s.length
    ·have hd:(1000:Int)<s.length:=by omega
     have HV:=Hd (sortsB_no (g:=g) (fun h=>by have:=(h.each s (gM HR.o5)).2;omega) rfl);clear hl;go_wp2_with fail
     go_ret;exact ⟨ret_bool HV.out,HS.o2⟩
    ·have hd:¬ (1000:Int)<s.length:=by omega
     by_cases hcz:cn=0
     ·subst hcz;have HD:=Z3.mk hl hse (HR.o6.1 rfl);clear hl;go_wp2_with fail
      go_roundg (g.sorts.length - (i+1))
      case measure=>have:=HR.o1;omega
      case rel =>
       have htk:g.sorts.take (i+1)=g.sorts.take i++[s]:=by rw [List.take_add_one,HR.o5];rfl
       refine ⟨i+1,_,by omega,rfl,rfl,HS.o1,fun t=>?_,HS.o2,HS.o3,?_,fun t ht=>?_⟩
       ·rw [putV_string,htk]
        by_cases e:t=s
        ·rw [if_pos e,if_pos (by simp [e])];rfl
        ·rw [if_neg e,HR.o2]
         by_cases e2:t∈g.sorts.take i
         ·rw [if_pos e2,if_pos (by simp [e2])]
         ·rw [if_neg e2,if_neg (by simp [e2,e])]
       ·rw [htk,List.nodup_append];exact ⟨HR.o7,by simp,fun a ha b hb=>by simp at hb;subst hb;exact fun e=>HD.o3 (e ▸ ha)⟩
       ·rw [htk] at ht
        rcases List.mem_append.1 ht with ht | ht
        ·exact HR.o8 t ht
        ·simp at ht;subst ht;exact ⟨List.isEmpty_eq_false_iff.1 HD.o2,by have:=HD.o1;omega⟩
     ·have hmem:s∈g.sorts.take i:=Classical.byContradiction fun h=>hcz (HR.o6.2 h)
      have HV:=Hd (sortsB_no (g:=g) (fun h=>by
       obtain ⟨j,hj,e⟩:=List.getElem_of_mem hmem;have hji:j<i:=by rw [List.length_take] at hj;omega
       rw [List.getElem_take] at e;have h1:=List.pairwise_iff_getElem.1 h.nodup j i (by omega) hlt hji;rw [e,(gS.1 HR.o5).2] at h1;exact h1 rfl) rfl)
      have hc1:cn=1:=by omega
      subst hc1;clear hmem hl;go_wp2_with fail
      go_ret;exact ⟨ret_bool HV.out,HS.o2⟩
  ·obtain rfl:i=g.sorts.length:=by omega
   rw [List.take_length] at hnd heach;have HR:=Z3.mk hb hnd heach;clear hb hB hM hf hm hnd heach
   by_cases c1:1<=g.sorts.length
   ·by_cases c2:g.sorts.length<=1000
    ·by_cases c3:0<=g.start
     ·by_cases c4:g.start<(g.sorts.length:Int)
      ·have HV:=Hd ((sortsB_iff g).2 ⟨HR.o2,HR.o3,c1,c2,c3,c4⟩);go_wp2_with fail
       go_ret;exact ⟨ret_bool (by rw [HV.out]),HR.o1⟩
      ·have HV:=Hd (sortsB_no (g:=g) (fun h=>c4 h.start.2) rfl);have hd:decide (g.start<(g.sorts.length:Int))=false:=decide_eq_false c4;clear c4;go_wp2_with fail
       go_ret;exact ⟨ret_bool (by rw [<- HV.out]),HR.o1⟩
     ·have HV:=Hd (sortsB_no (g:=g) (fun h=>c3 h.start.1) rfl);have hd:decide (0<=g.start)=false:=decide_eq_false c3;clear c3;go_wp2_with fail
      go_ret;exact ⟨ret_bool (by rw [<- HV.out]),HR.o1⟩
    ·have HV:=Hd (sortsB_no (g:=g) (fun h=>c2 h.many) rfl);have hd:decide ((g.sorts.length:Int)<=1000)=false:=decide_eq_false (by omega);clear c2;go_wp2_with fail
     go_ret;exact ⟨ret_bool (by rw [<- HV.out]),HR.o1⟩
   ·have HV:=Hd (sortsB_no (g:=g) (fun h=>c1 h.some_) rfl);have hd:decide ((1:Int)<=g.sorts.length)=false:=decide_eq_false (by omega);clear c1;go_wp2_with fail
    go_ret;exact ⟨ret_bool (by rw [<- HV.out]),HR.o1⟩
attribute [local go_sem] eqSet
def inB (g:Gr) (s:Int):Bool:=decide (0<=s /\ s<g.sorts.length)
def headB (g:Gr) (p:Pr):Bool:=inB g p.left&&!decide (30<(p.right.length:Int))&&!decide (p.role<0)&&!decide (11<p.role)&&!decide (p.made < -1)&&!decide (64<(p.cons.length:Int))&&!(!p.cons.isEmpty&&!decide (p.role=0))&&!(p.prefer&&p.avoid)
def symB (g:Gr) (r:Int) (s:Sy):Bool :=
 if s.kind=0 then !decide (s.set=0)&&decide (s.sort=0) else if s.kind=1 then decide (s.set=0)&&inB g s.sort&&!decide (r=11) else false
def prodB (g:Gr) (p:Pr):Bool:=headB g p&&p.right.all (symB g p.role)
def prodsB (g:Gr):Bool:=g.prods.all (prodB g)&&decide ((g.prods.length:Int)<=1000)
theorem prodsB_no {g:Gr} {p:Pr} (h:p∈g.prods) (hb:prodB g p=false):prodsB g=false:=by
 unfold prodsB
 cases h2:g.prods.all (prodB g) with
 | false=>rfl
 | true=>rw [List.all_eq_true.1 h2 p h] at hb;exact absurd hb (by simp)
theorem prodB_head {g:Gr} {p:Pr} (hb:headB g p=false):prodB g p=false:=by unfold prodB;rw [hb];rfl
theorem prodB_sym {g:Gr} {p:Pr} {s:Sy} (hs:s∈p.right) (hb:symB g p.role s=false):prodB g p=false:=by
 unfold prodB
 cases h2:p.right.all (symB g p.role) with
 | false=>simp
 | true=>rw [List.all_eq_true.1 h2 s hs] at hb;exact absurd hb (by simp)
theorem sortIn_any (w:World) (b:Nat) (sa:Option Addr) (n c:Nat) (h:w.cell? ⟨b,0,none⟩=some (.slice sa n c)) (s:Int) (r:Bool) (hr:decide (0<=s /\ s<(n:Int))=r) :
  Calls Tryz.prog 104 #[.int .i64 s,.pointer (some ⟨b,0,none⟩)] w fun e w'=>e=.returned (.bool r) /\ w'=w:=by
 by_cases h0:0<=s
 ·by_cases h1:s<(n:Int)
  ·have hv:r=true:=by rw [<- hr];simp;omega
   clear hr;go_enter Tryz.func104,Tryz.ntmps104;go_wp2_with fail
   go_ret;exact ⟨by rw [hv];rfl,rfl⟩
  ·have hv:r=false:=by rw [<- hr];simp;omega
   have hd:decide (s<(n:Int))=false:=decide_eq_false h1;clear hr h1;go_enter Tryz.func104,Tryz.ntmps104;go_wp2_with fail
   go_ret;exact ⟨by rw [hv];rfl,rfl⟩
 ·have hv:r=false:=by rw [<- hr];simp;omega
  have hd:decide (0<=s)=false:=decide_eq_false h0;clear hr h0;go_enter Tryz.func104,Tryz.ntmps104;go_wp2_with fail
  go_ret;exact ⟨by rw [hv];rfl,rfl⟩
theorem head_arms (g:Gr) (p:Pr) :
  (headB g p=false /\ inB g p.left=false)∨(headB g p=false /\ inB g p.left=true /\ decide (30<(p.right.length:Int))=true) ∨
  (headB g p=false /\ inB g p.left=true /\ decide (30<(p.right.length:Int))=false /\ decide (p.role<0)=true) ∨
  (headB g p=false /\ inB g p.left=true /\ decide (30<(p.right.length:Int))=false /\ decide (p.role<0)=false /\ decide (11<p.role)=true) ∨
  (headB g p=false /\ inB g p.left=true /\ decide (30<(p.right.length:Int))=false /\ decide (p.role<0)=false /\ decide (11<p.role)=false /\ decide (p.made < -1)=true) ∨
  (headB g p=false /\ inB g p.left=true /\ decide (30<(p.right.length:Int))=false /\ decide (p.role<0)=false /\ decide (11<p.role)=false /\ decide (p.made < -1)=false /\ decide (64<(p.cons.length:Int))=true) ∨
  (headB g p=false /\ inB g p.left=true /\ decide (30<(p.right.length:Int))=false /\ decide (p.role<0)=false /\ decide (11<p.role)=false /\ decide (p.made < -1)=false /\ decide (64<(p.cons.length:Int))=false /\ p.cons≠[] /\ ¬ p.role=0) ∨
  (headB g p=false /\ inB g p.left=true /\ decide (30<(p.right.length:Int))=false /\ decide (p.role<0)=false /\ decide (11<p.role)=false /\ decide (p.made < -1)=false /\ decide (64<(p.cons.length:Int))=false /\ p.cons=[] /\ p.prefer=true /\ p.avoid=true) ∨
  (headB g p=false /\ inB g p.left=true /\ decide (30<(p.right.length:Int))=false /\ decide (p.role<0)=false /\ decide (11<p.role)=false /\ decide (p.made < -1)=false /\ decide (64<(p.cons.length:Int))=false /\ p.role=0 /\ p.prefer=true /\ p.avoid=true) ∨
  (headB g p=true /\ inB g p.left=true /\ decide (30<(p.right.length:Int))=false /\ decide (p.role<0)=false /\ decide (11<p.role)=false /\ decide (p.made < -1)=false /\ decide (64<(p.cons.length:Int))=false /\ p.cons=[] /\ p.prefer=false) ∨
  (headB g p=true /\ inB g p.left=true /\ decide (30<(p.right.length:Int))=false /\ decide (p.role<0)=false /\ decide (11<p.role)=false /\ decide (p.made < -1)=false /\ decide (64<(p.cons.length:Int))=false /\ p.cons=[] /\ p.prefer=true /\ p.avoid=false) ∨
  (headB g p=true /\ inB g p.left=true /\ decide (30<(p.right.length:Int))=false /\ decide (p.role<0)=false /\ decide (11<p.role)=false /\ decide (p.made < -1)=false /\ decide (64<(p.cons.length:Int))=false /\ p.role=0 /\ p.prefer=false) ∨
  (headB g p=true /\ inB g p.left=true /\ decide (30<(p.right.length:Int))=false /\ decide (p.role<0)=false /\ decide (11<p.role)=false /\ decide (p.made < -1)=false /\ decide (64<(p.cons.length:Int))=false /\ p.role=0 /\ p.prefer=true /\ p.avoid=false):=by
 unfold headB;have hc:p.cons.isEmpty=decide (p.cons=[]):=by cases p.cons <;> simp
 rw [hc];have h1:∀ c:Prop,∀ _:Decidable c,(decide c=false)↔¬ c:=fun c _=>decide_eq_false_iff_not
 cases inB g p.left <;> simp only [true_and,false_and,and_true,and_false,or_false,false_or,Bool.false_and,Bool.true_and,Bool.false_eq_true,reduceCtorEq]
 cases decide (30<(p.right.length:Int)) <;> simp only [true_and,false_and,and_true,and_false,or_false,false_or,Bool.false_and,Bool.true_and,Bool.not_true,Bool.not_false,Bool.false_eq_true,reduceCtorEq]
 cases decide (p.role<0) <;> simp only [true_and,false_and,and_true,and_false,or_false,false_or,Bool.false_and,Bool.true_and,Bool.not_true,Bool.not_false,Bool.false_eq_true,reduceCtorEq]
 cases decide (11<p.role) <;> simp only [true_and,false_and,and_true,and_false,or_false,false_or,Bool.false_and,Bool.true_and,Bool.not_true,Bool.not_false,Bool.false_eq_true,reduceCtorEq]
 cases decide (p.made < -1) <;> simp only [true_and,false_and,and_true,and_false,or_false,false_or,Bool.false_and,Bool.true_and,Bool.not_true,Bool.not_false,Bool.false_eq_true,reduceCtorEq]
 cases decide (64<(p.cons.length:Int)) <;> simp only [true_and,false_and,and_true,and_false,or_false,false_or,Bool.false_and,Bool.true_and,Bool.not_true,Bool.not_false,Bool.false_eq_true,reduceCtorEq]
 by_cases hcc:p.cons=[] <;> by_cases hr:p.role=0 <;> cases p.prefer <;> cases p.avoid <;> simp [hcc,hr]
theorem sym_arms (g:Gr) (r:Int) (s:Sy) :
  (symB g r s=false /\ s.kind=0 /\ s.set=0)∨(symB g r s=false /\ s.kind=0 /\ s.set≠0 /\ ¬ s.sort=0)∨(symB g r s=true /\ s.kind=0 /\ s.set≠0 /\ s.sort=0) ∨
  (symB g r s=false /\ s.kind=1 /\ s.set≠0)∨(symB g r s=false /\ s.kind=1 /\ s.set=0 /\ inB g s.sort=false)∨(symB g r s=false /\ s.kind=1 /\ s.set=0 /\ inB g s.sort=true /\ r=11) ∨
  (symB g r s=true /\ s.kind=1 /\ s.set=0 /\ inB g s.sort=true /\ ¬ r=11)∨(symB g r s=false /\ ¬ s.kind=0 /\ ¬ s.kind=1):=by
 unfold symB
 by_cases h0:s.kind=0
 ·by_cases h1:s.set=0 <;> by_cases h2:s.sort=0 <;> simp [h0,h1,h2]
 ·by_cases h1:s.kind=1
  ·by_cases h2:s.set=0 <;> by_cases h3:r=11 <;> cases inB g s.sort <;> simp [h1,h2,h3]
  ·simp [h0,h1]
theorem prods_any (D:Nat->Prop) (g:Gr) (hpm:g.prods.length<=2000000) (hg:∀ p∈g.prods,p.right.length<=2000000 /\ p.cons.length<=2000000 /\ ∀ s∈p.right,s.set<2 ^ 256) (w:World) (sa:Option Addr) (sn sc:Nat) (hsn:sn=g.sorts.length) (hsn2:g.sorts.length<=2000000) (pv fv lv:Value) (hs:ProdsAt D w pv g.prods) (hpl:∃ pa pc,pv=.slice pa g.prods.length pc) :
  Calls Tryz.prog 78 #[.agg #[.slice sa sn sc,pv,.int .i64 g.start,fv,lv]] w fun e w'=>e=.returned (.bool (prodsB g)) /\ Below w.heap.size w w':=by
 obtain ⟨pa,pc,rfl⟩:=hpl;have hmf:∀ (fn:Fn) (first cap:Array Value) (w:World),(Instr.makeFunc fn first cap).run Tryz.prog w=.ok (.func fn first cap) w:=fun _ _ _ _=>rfl;have HK:=Z3.mk hs hg hsn;clear hs hg hsn;go_enter Tryz.func78,Tryz.ntmps78;go_wp2_with fail
 have hB1:Blk (w.alloc (.cells #[.slice sa sn sc,.slice pa g.prods.length pc,.int .i64 g.start,fv,lv] 27)) w.heap.size 27 #[.slice sa sn sc,.slice pa g.prods.length pc,.int .i64 g.start,fv,lv]:=Blk.new _ _ _;have hb1:Below w.heap.size w (w.alloc (.cells #[.slice sa sn sc,.slice pa g.prods.length pc,.int .i64 g.start,fv,lv] 27)):=(bR _ w).alloc (nR _) _;generalize (w.alloc (.cells #[.slice sa sn sc,.slice pa g.prods.length pc,.int .i64 g.start,fv,lv] 27))=W1 at hB1 hb1 ⊢;have H1:=Z2.mk hB1 hb1;clear hB1 hb1
 go_loopg [12] g.prods.length (fun m v12 wr=>∃ (i:Nat),i<=g.prods.length /\ m=g.prods.length - i /\ v12=.int .i64 i /\ Below w.heap.size w wr /\ Blk wr w.heap.size 27 #[.slice sa sn sc,.slice pa g.prods.length pc,.int .i64 g.start,fv,lv] /\ ∀ p∈g.prods.take i,prodB g p=true)
 case atStart=>exact ⟨0,by omega,rfl,rfl,H1.o2,H1.o1,by simp⟩
 case round =>
  obtain ⟨i,hi,hm,rfl,hb,hB,hdone⟩:=hrel;have q0:=hB.cell 0;have q1:=hB.cell 1;simp at q0 q1
  by_cases hlt:i<g.prods.length
  ·obtain ⟨p,hp⟩:∃ p,g.prods[i]?=some p:=⟨_,gE hlt⟩;obtain ⟨cap,b,o,vr,epv,hbl,hvr,hpc⟩:=HK.o1.at_ hp;injection epv with e1 e2 e3;subst e1;subst e3;obtain ⟨ra,rc,rfl,hrc1,hrc2,hrk⟩:=hvr;have hpm2:=gM hp;have hok:=HK.o2 p hpm2;have up:∀ {i:Nat} {u:Value},w.cell? ⟨b,i,none⟩=some u->wr.cell? ⟨b,i,none⟩=some u:=fun h=>(wB (hb.block b hbl)).trans h
   have f0:=up (hpc 0 _ rfl);have f1:=up (hpc 1 _ rfl);have f2:=up (hpc 2 _ rfl);have f3:=up (hpc 3 _ rfl);have f4:=up (hpc 4 _ rfl);have f5:=up (hpc 5 _ rfl);have f6:=up (hpc 6 _ rfl);simp only [Nat.add_zero] at f0;have hi0:(0:Int)<=i:=by omega
   have hi1:(i:Int)<g.prods.length:=by omega
   have HR:=Z8.mk hm hb hB hrk hok hdone hp hpm2;have hrl2:=hok.1;have hcl2:=hok.2.1;clear hm hb hB hpc up hrk hp hok hdone hpm2;go_upto_region 5 with fail
   have hP:Blk (wr.alloc (.cells #[.int .i64 p.left,.slice ra p.right.length rc,.string ⟨p.cons.toArray⟩,.int .i64 p.role,.bool p.prefer,.bool p.avoid,.int .i64 p.made] 53)) wr.heap.size 53 #[.int .i64 p.left,.slice ra p.right.length rc,.string ⟨p.cons.toArray⟩,.int .i64 p.role,.bool p.prefer,.bool p.avoid,.int .i64 p.made]:=Blk.new _ _ _;have hb3:Below wr.heap.size wr (wr.alloc (.cells #[.int .i64 p.left,.slice ra p.right.length rc,.string ⟨p.cons.toArray⟩,.int .i64 p.role,.bool p.prefer,.bool p.avoid,.int .i64 p.made] 53)):=(bR _ wr).alloc (nR _) _;generalize (wr.alloc (.cells #[.int .i64 p.left,.slice ra p.right.length rc,.string ⟨p.cons.toArray⟩,.int .i64 p.role,.bool p.prefer,.bool p.avoid,.int .i64 p.made] 53))=w3 at hP hb3 ⊢;have hG3:=HR.o3.below hb3 HR.o3.lt;have g0:=hG3.cell 0;simp at g0;have x0:=hP.cell 0;have x1:=hP.cell 1;have x2:=hP.cell 2;have x3:=hP.cell 3;have x4:=hP.cell 4;have x5:=hP.cell 5;have x6:=hP.cell 6;simp at x0 x1 x2 x3 x4 x5 x6;have HQ:=Z3.mk hP hb3 hG3;clear hP hb3 hG3 f0 f1 f2 f3 f4 f5 f6 q0 q1
   go_cut [65] from 13 to 65 (fun s65 wx=>s65=.bool (!headB g p) /\ wx=w3)
   case first =>
    rcases head_arms g p with ⟨hh,hin⟩ | ⟨hh,hin,o1⟩ | ⟨hh,hin,o1,o2⟩ | ⟨hh,hin,o1,o2,o3⟩ | ⟨hh,hin,o1,o2,o3,o4⟩ | ⟨hh,hin,o1,o2,o3,o4,o5⟩ | ⟨hh,hin,o1,o2,o3,o4,o5,o6,o7⟩ | ⟨hh,hin,o1,o2,o3,o4,o5,o6,o7,o8⟩ | ⟨hh,hin,o1,o2,o3,o4,o5,o6,o7,o8⟩ | ⟨hh,hin,o1,o2,o3,o4,o5,o6,o7⟩ | ⟨hh,hin,o1,o2,o3,o4,o5,o6,o7,o8⟩ | ⟨hh,hin,o1,o2,o3,o4,o5,o6,o7⟩ | ⟨hh,hin,o1,o2,o3,o4,o5,o6,o7,o8⟩
    all_goals (
    unfold inB at hin;rw [<- HK.o3] at hin;have HH:=Z2.mk hh hin;clear hh hin;go_wp2_with fail
    refine (sortIn_any w3 _ sa sn sc g0 p.left _ HH.o2).mono ?_;rintro e w4 ⟨rfl,rfl⟩;go_wp2_with fail
    all_goals (go_meet;exact ⟨by rw [HH.o1];rfl,rfl⟩))
   case rest =>
    obtain ⟨rfl,rfl⟩:=hcut;obtain ⟨pb,hpb⟩:=eX wr.heap.size;have hbw3:=HR.o2.trans (HQ.o2.mono HR.o2.size);rw [hpb] at HQ x0 x1 x3 ⊢;clear x2 x4 x5 x6
    cases hhd:headB g p with
    | false =>
     have HV:=Z2.mk (prodsB_no HR.o8 (prodB_head hhd)) hbw3;clear hbw3 hhd;go_wp2_with fail
     go_ret;exact ⟨by rw [HV.o1];rfl,HV.o2⟩
    | true =>
    have HHd:=Hd hhd;clear hhd;go_wp2_with fail
    rename_i K8 hK8 hcc8;have HK8:=Hd hK8;clear hK8
    go_loopg [69] p.right.length (fun m v69 wx=>∃ (k:Nat),k<=p.right.length /\ m=p.right.length - k /\ v69=.int .i64 k /\ Below w.heap.size w wx /\ Blk wx w.heap.size 27 #[.slice sa sn sc,.slice (some ⟨b,o,none⟩) g.prods.length pc,.int .i64 g.start,fv,lv] /\ (∃ y4 y5 y6 y2,Blk wx pb 53 #[.int .i64 p.left,.slice ra p.right.length rc,y2,.int .i64 p.role,y4,y5,y6]) /\ ∀ s∈p.right.take k,symB g p.role s=true)
    case atStart=>exact ⟨0,by omega,rfl,rfl,hbw3,HQ.o3,⟨_,_,_,_,HQ.o1⟩,by simp⟩
    case round =>
     obtain ⟨k,hk,hm,rfl,hb,hB,⟨y4,y5,y6,y2,hP⟩,hsd⟩:=hrel;have g0:=hB.cell 0;have x3:=hP.cell 3;simp at g0 x3
     by_cases hkl:k<p.right.length
     ·obtain ⟨sy,hsy⟩:∃ sy,p.right[k]?=some sy:=⟨_,gE hkl⟩;obtain ⟨kg,ko,rfl,hkD,hkr⟩:=HR.o4 (by rintro h;rw [h] at hkl;simp at hkl);have up:∀ {i:Nat} {u:Value},w.cell? ⟨kg,i,none⟩=some u->wr.cell? ⟨kg,i,none⟩=some u:=fun h=>(wB (hb.block kg hkr.lt)).trans h;have c0:=up (hkr.cells k _ hsy 0 _ rfl);have c1:=up (hkr.cells k _ hsy 1 _ rfl);have c2:=up (hkr.cells k _ hsy 2 _ rfl);have c3:=up (hkr.cells k _ hsy 3 _ rfl);have c4:=up (hkr.cells k _ hsy 4 _ rfl);have c5:=up (hkr.cells k _ hsy 5 _ rfl);simp only [Nat.add_zero] at c0;have hk0:(0:Int)<=k:=by omega
      have hk1:(k:Int)<p.right.length:=by omega
      have hsm:=gM hsy;have hs256:=HR.o5.2.2 sy hsm;have hnext:symB g p.role sy=true->∀ s∈p.right.take (k+1),symB g p.role s=true:=fun h s hs=>by
       rw [List.take_add_one,hsy] at hs
       rcases List.mem_append.1 hs with hs | hs
       ·exact hsd s hs
       ·simp at hs;subst hs;exact h
      have hno:symB g p.role sy=false->prodsB g=false:=fun h=>prodsB_no HR.o8 (prodB_sym hsm h);have HS:=Z6.mk hm hb hB hP hnext hno;clear hm hb hB hP up hkr hsy hsd hnext hno hsm;have hbW:∀ blk,Below w.heap.size w (wr.alloc blk):=fun blk=>HS.o2.trans (((bR wr.heap.size wr).alloc (nR _) blk).mono HS.o2.size);have HbW:=Hd hbW;clear hbW;have hw0:wd 0 0=0 /\ wd 0 1=0 /\ wd 0 2=0 /\ wd 0 3=0:=by simp [wd]
      rcases sym_arms g p.role sy with ⟨hh,s1,s2⟩ | ⟨hh,s1,s2,s3⟩ | ⟨hh,s1,s2,s3⟩ | ⟨hh,s1,s2⟩ | ⟨hh,s1,s2,s3⟩ | ⟨hh,s1,s2,s3,s4⟩ | ⟨hh,s1,s2,s3,s4⟩ | ⟨hh,s1,s2⟩
      ·have HV:=Hd (HS.o6 hh);clear hh;rw [s1] at c0;rw [s2] at c1 c2 c3 c4;rw [hw0.1] at c1;rw [hw0.2.1] at c2;rw [hw0.2.2.1] at c3;rw [hw0.2.2.2] at c4;go_wp2_with fail
       go_ret;exact ⟨by rw [HV.out];rfl,HbW.out _⟩
      ·have HV:=Hd (HS.o6 hh);have hz:¬ (wd sy.set 0=0 /\ wd sy.set 1=0 /\ wd sy.set 2=0 /\ wd sy.set 3=0):=fun h=>s2 ((wd_zero_iff _ hs256).1 h);clear hh;rw [s1] at c0;go_wp2_with fail
       go_ret;exact ⟨by rw [HV.out];rfl,HbW.out _⟩
      ·have HV:=Hd (HS.o5 hh);have hz:¬ (wd sy.set 0=0 /\ wd sy.set 1=0 /\ wd sy.set 2=0 /\ wd sy.set 3=0):=fun h=>s2 ((wd_zero_iff _ hs256).1 h);clear hh;rw [s1] at c0;rw [s3] at c5;go_wp2_with fail
       go_roundg (p.right.length - (k+1))
       case measure=>have:=HS.o1;omega
       case rel=>exact ⟨k+1,by omega,rfl,rfl,HbW.out _,HS.o3.alloc _,⟨_,_,_,_,HS.o4.alloc _⟩,HV.out⟩
      ·have HV:=Hd (HS.o6 hh);have hz:¬ (wd sy.set 0=0 /\ wd sy.set 1=0 /\ wd sy.set 2=0 /\ wd sy.set 3=0):=fun h=>s2 ((wd_zero_iff _ hs256).1 h);clear hh;rw [s1] at c0;go_wp2_with fail
       go_ret;exact ⟨by rw [HV.out];rfl,HbW.out _⟩
      ·have HV:=Hd (HS.o6 hh);unfold inB at s3;rw [<- HK.o3] at s3;have HV3:=Hd s3;clear hh s3;rw [s1] at c0;rw [s2] at c1 c2 c3 c4;rw [hw0.1] at c1;rw [hw0.2.1] at c2;rw [hw0.2.2.1] at c3;rw [hw0.2.2.2] at c4;go_wp2_with fail
       refine (sortIn_any _ _ sa sn sc (cell_alloc_ g0 _) sy.sort _ HV3.out).mono ?_;rintro e w5 ⟨rfl,rfl⟩;go_wp2_with fail
       go_ret;exact ⟨by rw [HV.out];rfl,HbW.out _⟩
      ·have HV:=Hd (HS.o6 hh);unfold inB at s3;rw [<- HK.o3] at s3;have HV3:=Hd s3;clear hh s3;rw [s1] at c0;rw [s2] at c1 c2 c3 c4;rw [hw0.1] at c1;rw [hw0.2.1] at c2;rw [hw0.2.2.1] at c3;rw [hw0.2.2.2] at c4;go_wp2_with fail
       have x3a:=cell_alloc_ x3 (.cells #[.int .i64 1,.int .u64 0,.int .u64 0,.int .u64 0,.int .u64 0,.int .i64 sy.sort] 49);refine (sortIn_any _ _ sa sn sc (cell_alloc_ g0 _) sy.sort _ HV3.out).mono ?_;rintro e w5 ⟨rfl,rfl⟩;go_wp2_with fail
       go_ret;exact ⟨by rw [HV.out];rfl,HbW.out _⟩
      ·have HV:=Hd (HS.o5 hh);unfold inB at s3;rw [<- HK.o3] at s3;have HV3:=Hd s3;clear hh s3;rw [s1] at c0;rw [s2] at c1 c2 c3 c4;rw [hw0.1] at c1;rw [hw0.2.1] at c2;rw [hw0.2.2.1] at c3;rw [hw0.2.2.2] at c4;go_wp2_with fail
       have x3a:=cell_alloc_ x3 (.cells #[.int .i64 1,.int .u64 0,.int .u64 0,.int .u64 0,.int .u64 0,.int .i64 sy.sort] 49);refine (sortIn_any _ _ sa sn sc (cell_alloc_ g0 _) sy.sort _ HV3.out).mono ?_;rintro e w5 ⟨rfl,rfl⟩;go_wp2_with fail
       go_roundg (p.right.length - (k+1))
       case measure=>have:=HS.o1;omega
       case rel=>exact ⟨k+1,by omega,rfl,rfl,HbW.out _,HS.o3.alloc _,⟨_,_,_,_,HS.o4.alloc _⟩,HV.out⟩
      ·have HV:=Hd (HS.o6 hh);clear hh;go_wp2_with fail
       go_ret;exact ⟨by rw [HV.out];rfl,HbW.out _⟩
     ·obtain rfl:k=p.right.length:=by omega
      rw [List.take_length] at hsd;have hpb2:prodB g p=true:=by
       unfold prodB;rw [HHd.out,List.all_eq_true.2 hsd]
       rfl
      have HS:=Z5.mk hm hb hB hP hpb2;clear hm hb hB hP hsd hpb2;go_wp2_with fail
      refine HK8.out _ _ ?_;go_wp2_with fail
      go_roundg (g.prods.length - (i+1))
      case measure=>have:=HR.o1;omega
      case rel =>
       refine ⟨i+1,by omega,rfl,rfl,HS.o2,HS.o3,fun q hq=>?_⟩;rw [List.take_add_one,HR.o7] at hq
       rcases List.mem_append.1 hq with hq | hq
       ·exact HR.o6 q hq
       ·simp at hq;subst hq;exact HS.o5
  ·obtain rfl:i=g.prods.length:=by omega
   rw [List.take_length] at hdone;have hv:prodsB g=decide ((g.prods.length:Int)<=1000):=by
    unfold prodsB;rw [List.all_eq_true.2 hdone];simp
   have HR:=Z3.mk hb hB hv;clear hb hB hdone hv;go_wp2_with fail
   go_ret;exact ⟨by rw [HR.o3];rfl,HR.o1⟩
end Go.Proofs.YthiochcpmfkgcaaGreatDoor.Tb
