/- Walks and plain laws that the last text stands on: GlRed. -/
import Derived.Test.YthiochcpmfkgcaaGreatDoorSo15
set_option linter.unusedVariables false
set_option linter.unusedSimpArgs false
set_option maxRecDepth 100000
set_option maxHeartbeats 16000000
namespace Go.Proofs.YthiochcpmfkgcaaGreatDoor.Gl
open Go Go.RowKit Go.Proofs Go.Maps Go.WideMaps Mx Tb
def reA (C:RC) (p:RP) (nb xs B0:Nat) (DL:List Nat) (j:Nat) (v:Value) (W:World):Prop :=
 match j with
 | 0=>v=.pointer (some ⟨C.rb,0,none⟩)
 | 1=>v=.pointer (some ⟨C.rb,0,none⟩)
 | 2=>v=.pointer (some ⟨C.rb,5,none⟩)
 | 3=>v=p.tv
 | 4=>v=.pointer (some ⟨nb,0,none⟩)
 | 5=>v=.int .i64 xs
 | 6=>W.ownsRow B0 3 1 v DL.length (flatK encN DL)
 | 7=>v=.int .i64 DL.length
 | 8=>v=.int .i64 0
 | _=>True
def reB (C:RC) (lf:Int) (pn sn tn cl:Nat) (ky:ByteArray) (ca:Option Addr) (cc:Nat) (i0 i1 i2 i3:Int) (za:Option Addr) (zn zc:Nat) (bt:Bool) (B0:Nat) (j:Nat) (v:Value) (W:World):Prop :=
 match j with
 | 0=>v=.pointer (some ⟨C.rb,0,none⟩)
 | 1=>v=.pointer (some ⟨C.rb,0,none⟩)
 | 2=>v=.pointer (some ⟨C.rb,10,none⟩)
 | 3=>v=.map (some C.ba)
 | 4=>v=.agg #[.int .i64 lf,.int .i64 sn,.int .i64 tn,.int .i64 pn,.slice ca cl cc]
 | 5=>v=.string ky
 | 6=>v=.tuple #[.agg #[.int .i64 i0,.int .i64 i1,.int .i64 i2,.int .i64 i3,.slice za zn zc],.bool bt]
 | 7=>v=.tuple #[.agg #[.int .i64 i0,.int .i64 i1,.int .i64 i2,.int .i64 i3,.slice za zn zc],.bool bt]
 | 8=>v=.agg #[.int .i64 i0,.int .i64 i1,.int .i64 i2,.int .i64 i3,.slice za zn zc]
 | 9=>v=.bool bt
 | 10=>∃ q,v=.pointer (some ⟨q,0,none⟩) /\ Blk W q 59 #[.int .i64 0,.int .i64 0,.int .i64 0,.int .i64 0,.slice none 0 0] /\ B0<=q
 | _=>True
def reC (C:RC) (lf:Int) (pn sn tn cl:Nat) (ky:ByteArray) (ca:Option Addr) (cc:Nat) (j:Nat) (v:Value) (W:World):Prop :=
 match j with
 | 0=>v=.pointer (some ⟨C.rb,0,none⟩)
 | 1=>v=.pointer (some ⟨C.rb,0,none⟩)
 | 2=>v=.pointer (some ⟨C.rb,10,none⟩)
 | 3=>v=.map (some C.ba)
 | 4=>v=.agg #[.int .i64 lf,.int .i64 sn,.int .i64 tn,.int .i64 pn,.slice ca cl cc]
 | 5=>v=.string ky
 | 6=>v=.agg #[.int .i64 lf,.int .i64 sn,.int .i64 tn,.int .i64 pn,.slice ca cl cc]
 | _=>True
def reD (C:RC) (p:RP) (bY bP ys:Nat) (lf:Int) (go:Int × Bool) (j:Nat) (v:Value) (W:World):Prop :=
 match j with
 | 0=>v=.pointer (some ⟨C.rb,0,none⟩)
 | 1=>v=.pointer (some ⟨C.rb,0,none⟩)
 | 2=>v=.pointer (some ⟨C.rb,5,none⟩)
 | 3=>v=p.tv
 | 4=>v=.pointer (some ⟨bY,0,none⟩)
 | 5=>v=.pointer (some ⟨bY,0,none⟩)
 | 6=>v=.int .i64 ys
 | 7=>v=.pointer (some ⟨bP,0,none⟩)
 | 8=>v=.int .i64 lf
 | 9=>v=.tuple #[.int .i64 go.1,.bool go.2]
 | 10=>v=.tuple #[.int .i64 go.1,.bool go.2]
 | 11=>v=.int .i64 go.1
 | 12=>v=.bool go.2
 | _=>True
theorem reA_low {C:RC} {p:RP} {nb xs B0:Nat} {DL:List Nat} (j:Nat) (v:Value) {W W':World} (h:reA C p nb xs B0 DL j v W) (hb:Below W.heap.size W W'):reA C p nb xs B0 DL j v W':=by
 unfold reA at h ⊢
 split at h <;> first | exact h | exact row_below h hb
theorem reB_low {C:RC} {lf:Int} {pn sn tn cl:Nat} {ky:ByteArray} {ca:Option Addr} {cc:Nat} {i0 i1 i2 i3:Int} {za:Option Addr} {zn zc:Nat} {bt:Bool} {B0:Nat} (j:Nat) (v:Value) {W W':World} (h:reB C lf pn sn tn cl ky ca cc i0 i1 i2 i3 za zn zc bt B0 j v W) (hb:Below W.heap.size W W'):reB C lf pn sn tn cl ky ca cc i0 i1 i2 i3 za zn zc bt B0 j v W':=by
 unfold reB at h ⊢
 split at h <;> first | exact h | skip
 obtain ⟨q,e,h1,h2⟩:=h;exact ⟨q,e,h1.below hb h1.lt,h2⟩
theorem RunW.below {C:RC} {p:RP} {left:Nat->Int} {w0 w w':World} {ρ:Nat->Option Role} {r:Rn} (h:RunW C p left w0 ρ r w) (hb:Below w.heap.size w w'):RunW C p left w0 ρ r w':=⟨h.mem.below hb,h.nn,h.tot,h.te⟩
structure RedOk (g:Gr) (sm:List SM) (txt:List UInt8) (Bd:Nat):Prop where
 ways:∀ r,Inv (TT g sm) txt Bd r->∀ x∈r.nodes,∀ q∈(TT g sm).done x.1,(waysF r.edges ((TT g sm).len q) x).length<2199023255552
theorem foundF_after {T:Tab} {j p:Nat} {y:Nd × List Nat} {l:List (Nd × List Nat)} {r r1:Rn} {f f1:Bool} (h:altF r ⟨p,y.1.2,j,y.2⟩=.ok (r1,f1)):Pre r1 (outB (foundF T j p (y::l) r f)):=by
 rw [foundF,h];dsimp only
 cases hg:T.goto_ y.1.1 (T.left p) with
 | none=>exact foundF_pre T j p l r1 (f || f1)
 | some t =>
  dsimp only;have hL:=linkF_pre r1 (t,j) y.1
  cases hl:linkF r1 (t,j) y.1 with
  | stop r2=>rw [hl] at hL;exact hL
  | ok v =>
   obtain ⟨r2,f2⟩:=v;rw [hl] at hL;exact Pre.trans hL (foundF_pre T j p l r2 (f || f1 || f2))
theorem find_key (A:List Al) (a:Al):(A.find? fun b=>keyA b==keyA a)=if a∈A then some a else none:=by
 by_cases h:a∈A
 ·rw [if_pos h]
  cases hf:A.find? fun b=>keyA b==keyA a with
  | none=>have:=List.find?_eq_none.1 hf a h;simp at this
  | some b =>
   have:=List.find?_some hf;simp only [beq_iff_eq] at this;rw [keyA_inj this]
 ·rw [if_neg h,List.find?_eq_none];intro b hb he;simp only [beq_iff_eq] at he;exact h (keyA_inj he ▸ hb)
theorem keyA_len (a:Al) (ha:AlOk a):(keyA a).length<=9000:=by
 rw [<- headK_all,List.length_append,List.length_cons];have h1:=headK_len a ha a.cuts.length (nR _);have h2:=dec_le a.til ha.til;have h3:=ha.len;omega
theorem red_at {T:Tab} {x:Nd} {DL:List Nat} {i q k:Nat} {r ri rk:Rn} {f f2:Bool} {N:List (Value × Nd × List Nat)} {v:Value} {y:Nd} {cuts:List Nat} (hpr:reduceF T r x=prodsF T x (DL.drop i) ri f) (hq:DL[i]?=some q)
  (hfN:foundF T x.2 q (waysF ri.edges (T.len q) x) ri f=foundF T x.2 q (N.map (·.2)) ri f) (hfk:foundF T x.2 q (N.map (·.2)) ri f=foundF T x.2 q ((N.drop k).map (·.2)) rk f2) (hz:N[k]?=some (v,y,cuts)) :
  reduceF T r x=match foundF T x.2 q ((y,cuts)::(N.drop (k+1)).map (·.2)) rk f2 with
   | .stop r=>.stop r
   | .ok (r,f)=>prodsF T x (DL.drop (i+1)) r f:=by
 have hi:=(gS.1 hq).1;have hk:=(gS.1 hz).1;rw [hpr,List.drop_eq_getElem_cons hi];have hqe:DL[i]=q:=(gS.1 hq).2;have hze:N[k]=(v,y,cuts):=(gS.1 hz).2;rw [hqe,prodsF,hfN,hfk,List.drop_eq_getElem_cons hk,hze]
 rfl
theorem red_pre {T:Tab} {x:Nd} {l:List Nat} {F R:Out (Rn × Bool)} (h:R=match F with
      | .stop r=>.stop r
      | .ok (r,f)=>prodsF T x l r f):Pre (outB F) (outB R):=by
  rw [h]
  cases F with
  | stop r=>exact Pre.refl _
  | ok v =>
    obtain ⟨r,f⟩:=v;exact prodsF_pre T x l r f
theorem found_go {T:Tab} {j q k:Nat} {N:List (Value × Nd × List Nat)} {v:Value} {y:Nd} {cuts:List Nat} {rk r1:Rn} {f2 f1:Bool} (hz:N[k]?=some (v,y,cuts)) (hal:altF rk ⟨q,y.2,j,cuts⟩=.ok (r1,f1)) :
  foundF T j q ((N.drop k).map (·.2)) rk f2=match T.goto_ y.1 (T.left q) with
   | none=>foundF T j q ((N.drop (k+1)).map (·.2)) r1 (f2 || f1)
   | some t =>
    match linkF r1 (t,j) y with
    | .stop r=>.stop r
    | .ok (r,f3)=>foundF T j q ((N.drop (k+1)).map (·.2)) r (f2 || f1 || f3):=by
 have hk:=(gS.1 hz).1;have hze:N[k]=(v,y,cuts):=(gS.1 hz).2;rw [List.drop_eq_getElem_cons hk,hze,List.map_cons,foundF];dsimp only;rw [hal];dsimp only
 cases T.goto_ y.1 (T.left q) with
 | none=>rfl
 | some t =>
  dsimp only
  cases linkF r1 (t,j) y <;> rfl
theorem AltsW.push {C:RC} {left:Nat->Int} {ρ:Nat->Option Role} {A:List Al} {a:Al} {w w':World} {f:Lit->Option Value} {va:Al->Value} {v:Value} (h2:∀ l,f (.string l)=(A.find? fun a=>keyA a==l).map fun a=>alV left (va a) a) (h3:∀ a∈A,SliceK (CutB C ρ w) encN 1 w (va a) a.cuts)
  (hn:a ∉ A) (hba:ρ C.ba=some .malts) (hg:w.grownBy w' (some C.ba)) (hs:SliceK (CutB C ρ w) encN 1 w v a.cuts) (hm:MapS Tryz.prog 9 w' C.ba (if (f (.string (keyA a))).isSome then A.length else A.length+1) (putV f (.string (keyA a)) (alV left v a))):AltsW C left ρ (A++[a]) w':=by
 have hnone:f (.string (keyA a))=none:=by rw [h2,find_key,if_neg hn];rfl
 rw [hnone] at hm;have hkp:∀ {u:Value} {l:List Nat},SliceK (CutB C ρ w) encN 1 w u l->SliceK (CutB C ρ w') encN 1 w' u l:=fun h=>h.keep fun b hb hl=>by
  have e:=hg.block b hl (fun e=>by injection e with e;subst e;have hb:=hb.1.1;rw [hba] at hb;cases hb);exact ⟨hb.keep_ rfl e,e⟩
 refine ⟨putV f (.string (keyA a)) (alV left v a),fun b=>if b=a then v else va b,by rw [List.length_append,List.length_singleton];simpa using hm,fun l=>?_,fun b hb=>?_⟩
 ·rw [putV_string,List.find?_append]
  by_cases e:l=keyA a
  ·subst e;rw [if_pos rfl,find_key,if_neg hn];simp
  ·rw [if_neg e,h2];have h4:([a].find? fun b=>keyA b==l)=none:=by simp [Ne.symm e]
   rw [h4,Option.or_none]
   cases hf:A.find? fun b=>keyA b==l with
   | none=>rfl
   | some b =>
    have hba:b≠a:=fun e2=>hn (e2 ▸ List.mem_of_find?_eq_some hf);simp [hba]
 ·rcases List.mem_append.1 hb with hb | hb
  ·have hba:b≠a:=fun e2=>hn (e2 ▸ hb);simp only [if_neg hba];exact hkp (h3 b hb)
  ·rw [List.mem_singleton] at hb;subst hb;simp only [if_pos];exact hkp hs
theorem reduce_any (g:Gr) (B:Nat) (sm:List SM) (C:RC) (p:RP) (w0:World) (hc:Ctx g B sm p w0) (Bd:Nat) (hO:RedOk g sm p.txt Bd) (ρ:Nat->Option Role) (r:Rn) (w:World) (h:RunW C p (TT g sm).left w0 ρ r w) (hI:Inv (TT g sm) p.txt Bd r) (x:Nd) (hxn:x∈r.nodes) (hxl:x.2<=p.txt.length)
  (hT:∀ e,(outB (reduceF (TT g sm) r x)).tries.count e<4611686018427387904) :
  Calls Tryz.prog 90 #[.pointer (some ⟨C.rb,0,none⟩),ndV x] w fun e w'=>LinkT C p (TT g sm).left w0 ρ w e w' (reduceF (TT g sm) r x):=by
 have hmf:∀ (fn:Fn) (first cap:Array Value) (w:World),(Instr.makeFunc fn first cap).run Tryz.prog w=.ok (.func fn first cap) w:=fun _ _ _ _=>rfl;have hdl:=(hc.small x.1).2;have htd:=tt_done g sm x.1;obtain ⟨DL,hDL⟩:=eX ((stAt sm (x.1:Int)).done);rw [hDL] at hdl htd;have HH:=Z9.mk h hI hxn hxl hT hc hO hDL htd;clear h hI hxn hxl hT hc hO hDL htd;unfold ndV;go_enter Tryz.func90,Tryz.ntmps90;go_upto_region 2 with fail
 have hXB:Blk (w.alloc (.cells #[.int .i64 x.1,.int .i64 x.2] 150)) w.heap.size 150 #[.int .i64 x.1,.int .i64 x.2]:=Blk.new _ _ _;have hb0:Below w.heap.size w (w.alloc (.cells #[.int .i64 x.1,.int .i64 x.2] 150)):=(bR _ _).alloc (nR _) _;generalize (w.alloc (.cells #[.int .i64 x.1,.int .i64 x.2] 150))=w1 at hXB hb0 ⊢;obtain ⟨nb,hnb⟩:=eX w.heap.size;rw [hnb] at hXB ⊢;have hM1:=HH.o1.mem.below hb0;have hrn:∀ b,nb<=b->ρ b=none:=fun b hb=>by
  cases hr:ρ b with
  | none=>rfl
  | some R=>have:=HH.o1.mem.lt b (by rw [hr];simp);omega
 have HC:=Hd (show ∀ W,Below w1.drew.heap.size w1.drew W->W.cell? ⟨C.rb,5,none⟩=some p.tv /\ W.cell? ⟨nb,0,none⟩=some (.int .i64 x.1) from fun W hG=>⟨(hM1.box.drew.below hG hM1.box.lt).cell 5,(hXB.drew.below hG hXB.lt).cell 0⟩);have HZ:=Hd (show ∀ W,Below w1.drew.heap.size w1.drew W->w1.heap.size<=W.heap.size from fun W hG=>hG.size)
 have HRE:=Hd (show ∀ W,Below w1.drew.heap.size w1.drew W->Calls Tryz.prog 120 #[p.tv,.int .i64 x.1] W fun e w'=>∃ v',e=.returned v' /\ w'.ownsRow W.heap.size 3 1 v' DL.length (flatK encN DL) /\ Below W.heap.size W w' from fun W hG=>by
  have h2:=reduces_any g B p.tv sm x.1 W (HH.o6.tab.below (hM1.low.trans ((((show Below w1.heap.size w1 w1.drew from (bR _ _).drew).trans hG)).mono hM1.low.size))) (HH.o6.small x.1).2;rw [HH.o8] at h2;exact h2)
 have H1:=Z5.mk hM1 hXB hb0 hnb hrn;clear hM1 hXB hb0 hnb hrn;refine wp_region_concT 9 (reA C p nb x.1 w1.heap.size DL) (fun A W=>Below A.heap.size A W) (fun _ _=>True) (by kernel_rfl) (by kernel_rfl) (by kernel_rfl) (by kernel_rfl) (bR _ _) trivial (fun h k=>h.trans (k.mono h.size)) ?_ ?_
 ·simp only [List.take_succ_cons,List.take_zero];refine ⟨?_,?_,?_,?_,?_,?_,?_,?_,?_,trivial⟩
  all_goals intro L T W hG hJ hLs hLi dq fq vq K hK
  all_goals try have zk:=fun v=>hK v W (bR _ W) (fun j u _ _ _ h=>h) trivial
  all_goals try have zv:=fun i h=>vq ⟨i,.data⟩ h rfl
  ·have h1:=fq 0 (by decide);simp at h1;go_simp;exact zk _ rfl
  ·have h1:=zv 0 (by simp) 17 rfl;simp [reA] at h1;go_simp;exact zk _ rfl
  ·have h1:=zv 1 (by simp) 18 rfl;simp [reA] at h1;go_simp;exact zk _ rfl
  ·have h1:=zv 2 (by simp) 19 rfl;simp [reA] at h1;obtain ⟨c0,c1⟩:=HC.out W hG;go_simp;exact zk _ rfl
  ·have h1:=fq 3 (by decide);simp at h1;go_simp;exact zk _ rfl
  ·have h1:=zv 4 (by simp) 21 rfl;simp [reA] at h1;obtain ⟨c0,c1⟩:=HC.out W hG;go_simp;exact zk _ rfl
  ·have h1:=zv 3 (by simp) 20 rfl;have h2:=zv 5 (by simp) 22 rfl;simp [reA] at h1 h2;go_simp;refine (HRE.out W hG).mono ?_;rintro e W2 ⟨v',rfl,ho,hb2⟩;exact hK _ _ hb2 (fun j u _ _ _ h=>reA_low j u h hb2) trivial (own_low ho (HZ.out W hG))
  ·have h1:=zv 6 (by simp) 23 rfl;simp only [reA] at h1;obtain ⟨da,dc,hd⟩:=own_shape h1;simp at hd;go_simp;exact zk _ rfl
  ·go_simp;exact zk _ rfl
 ·intro f9 w2 hG hJe hR;obtain e6:=hR 6 23 (by decide) rfl;have e7:=hR 7 24 (by decide) rfl;have e8:=hR 8 25 (by decide) rfl;simp only [concDsts,qZ];simp only [reA] at e7 e8;rw [e7,e8];clear e7 e8 hR;obtain ⟨da,dc,hd6⟩:=own_shape e6;rw [hd6] at e6 ⊢;clear hd6;generalize f9 17=v17;generalize f9 18=v18;generalize f9 19=v19;generalize f9 20=v20;generalize f9 21=v21;generalize f9 22=v22;clear f9;have hb2:Below w1.heap.size w1 w2:=(show Below w1.heap.size w1 w1.drew from (bR _ _).drew).trans hG;have H2:=Z4.mk hb2 e6 (HH.o1.below (H1.o3.trans (hb2.mono H1.o3.size))) (H1.o2.below hb2 H1.o2.lt);clear hb2 e6 hG hJe HC HZ HRE;go_wp2_with fail
  go_loopg [5,25] DL.length (fun m v5 v25 wr=>∃ (i:Nat) (ρi:Nat->Option Role) (ri:Rn) (f:Bool),i<=DL.length /\ m=DL.length - i /\ v25=.int .i64 i /\ v5=.bool f /\ RunW C p (TT g sm).left w0 ρi ri wr /\ KeepR ρ w2 wr /\ Roles w2.heap.size ρ ρi /\ Inv (TT g sm) p.txt Bd ri /\ x∈ri.nodes /\
   reduceF (TT g sm) r x=prodsF (TT g sm) x (DL.drop i) ri f)
  case atStart=>exact ⟨0,ρ,r,false,by omega,rfl,rfl,rfl,H2.o3,KeepR.refl _ _,Roles.refl _ _,HH.o2,HH.o3,by unfold reduceF;rw [HH.o9];rfl⟩
  case round =>
   obtain ⟨i,ρi,ri,f,hi,hm,rfl,rfl,hRi,hKi,hri,hIi,hxi,hpr⟩:=hrel;have hn2:∀ b,w.heap.size<=b->b<w2.heap.size->ρi b=none:=fun b hb hb2=>(hri b hb2).trans (H1.o5 b (by have:=H1.o4;omega))
   by_cases hlt:i<DL.length
   ·obtain ⟨q,hq⟩:∃ q,DL[i]?=some q:=⟨_,gE hlt⟩;obtain ⟨dg,dcap,edv,hdB,_,_⟩:=own_some H2.o2 (by omega);injection edv with e1 e2 e3;subst e1;subst e3;clear e2;have hds:=H1.o3.size;have hrow:=own_of_block (w':=wr) H2.o2 fun b hb=>hKi.block b (own_lt H2.o2 hb) (H1.o5 b (by have:=(own_ty_ H2.o2 hb).1;have:=H1.o4;omega))
    have k0:wr.cell? ⟨dg,i,none⟩=some (.int .i64 q):=by
     have h:=hrow.cells (g:=dg) rfl (i * 1) _ (flatK_get encN_len DL i q 0 _ hq rfl);rw [addr_add_,Nat.zero_add,Nat.mul_one] at h;exact h
    have hqd:q∈(TT g sm).done x.1:=by rw [HH.o9];exact gM hq
    have hqp:=HH.o6.done_lt hqd;obtain ⟨pr,hpr1,hpl,hpn,hprl⟩:=HH.o6.prod hqp;obtain ⟨cap,pb,po,vr,epv,hbl,hvr,hpc⟩:=HH.o6.prods.at_ hpr1;obtain ⟨ra,rc,rfl,_,_,_⟩:=hvr;have up:∀ {o:Nat} {u:Value},w0.cell? ⟨pb,o,none⟩=some u->wr.cell? ⟨pb,o,none⟩=some u:=fun h=>(wB (hRi.mem.low.block pb hbl)).trans h;have p0:=up (hpc 0 _ rfl);have p1:=up (hpc 1 _ rfl);have p2:=up (hpc 2 _ rfl);have p3:=up (hpc 3 _ rfl);have p4:=up (hpc 4 _ rfl);have p5:=up (hpc 5 _ rfl);have p6:=up (hpc 6 _ rfl);simp only [Nat.add_zero] at p0;have b1:wr.cell? ⟨C.rb,1,none⟩=some (.slice (some ⟨pb,po,none⟩) g.prods.length cap):=by rw [<- epv];exact hRi.mem.box.cell 1
    have hi0:(0:Int)<=i:=by omega
    have hi1:(i:Int)<DL.length:=by omega
    have hq0:(0:Int)<=q:=by omega
    have hq1:(q:Int)<g.prods.length:=by omega
    have hnbB:Blk wr nb 150 #[.int .i64 x.1,.int .i64 x.2]:=hKi.blk (H1.o5 nb (nR _)) H2.o4;have HR:=Z14.mk hm hRi hKi hri hIi hxi hpr hq hqd hpl hpn hprl hnbB hn2;clear hm hRi hKi hri hIi hxi hpr hq hrow hqd hqp hpr1 hpl hpn hpc up epv hbl hdB hds;go_upto_region 6 with fail
    have hPB:Blk (wr.alloc (.cells #[.int .i64 pr.left,.slice ra pr.right.length rc,.string ⟨pr.cons.toArray⟩,.int .i64 pr.role,.bool pr.prefer,.bool pr.avoid,.int .i64 pr.made] 53)) wr.heap.size 53 #[.int .i64 pr.left,.slice ra pr.right.length rc,.string ⟨pr.cons.toArray⟩,.int .i64 pr.role,.bool pr.prefer,.bool pr.avoid,.int .i64 pr.made]:=Blk.new _ _ _;have hbB:Below wr.heap.size wr (wr.alloc (.cells #[.int .i64 pr.left,.slice ra pr.right.length rc,.string ⟨pr.cons.toArray⟩,.int .i64 pr.role,.bool pr.prefer,.bool pr.avoid,.int .i64 pr.made] 53)):=(bR _ _).alloc (nR _) _;obtain ⟨bP,hbP⟩:=eX wr.heap.size;rw [hbP] at hPB ⊢;generalize (wr.alloc (.cells #[.int .i64 pr.left,.slice ra pr.right.length rc,.string ⟨pr.cons.toArray⟩,.int .i64 pr.role,.bool pr.prefer,.bool pr.avoid,.int .i64 pr.made] 53))=wB at hPB hbB ⊢;have hRB:=HR.o2.below hbB;have hnB:=HR.o13.below hbB HR.o13.lt;have hFB:Blk (wB.alloc (.cells #[.slice none 0 0] 205)) wB.heap.size 205 #[.slice none 0 0]:=Blk.new _ _ _;have hbA:Below wB.heap.size wB (wB.alloc (.cells #[.slice none 0 0] 205)):=(bR _ _).alloc (nR _) _;have H3:=Z5.mk hPB hbB hRB hnB hbP;have hwB:=hPB.lt;have hnbl:=hnB.lt;go_upto_region 7 with fail
    obtain ⟨bF,hbF⟩:=eX wB.heap.size;have hbFl:bF<(wB.alloc (.cells #[.slice none 0 0] 205)).heap.size:=by rw [<- hbF];exact hFB.lt
    rw [hbF] at hFB ⊢;have hPA:=hPB.below hbA hPB.lt;have hnA:=hnB.below hbA hnB.lt;generalize (wB.alloc (.cells #[.slice none 0 0] 205))=wA at hFB hbA hPA hnA hbFl ⊢;obtain ⟨n0,n1,_⟩:=hnA.facts2;have q1:wA.cell? ⟨bP,1,none⟩=some (.slice ra pr.right.length rc):=hPA.cell 1;have hxok:=HR.o2.mem.nok x HR.o6;have hwl:=HH.o7.ways ri HR.o5 x HR.o6 q HR.o9;rw [HR.o11] at hwl;have hcall:=ways_any C p (TT g sm).left w0 wB ρi (rmOf ri) hRB.mem x hxok pr.right.length (by omega) bF wA hFB (by omega) hbA hwl;have H4:=Z6.mk hcall hFB hbA hPA hnA hbF;clear hcall hFB hbA hPA hnA hbF hPB hbB hRB hnB hbP p0 p1 p2 p3 p4 p5 p6 b1 k0;go_wp2_with fail
    refine H4.o1.mono ?_;rintro e w4 ⟨rfl,N,cb,hF,hN,hk4,hcb⟩;have hbw4:=hk4.below H4.o3 H4.o3.size (nR _);have hR4:=H3.o3.below hbw4;obtain ⟨fv,hfb,hfr⟩:=hF.row;obtain ⟨fa,fc,rfl⟩:=own_shape hfr;have hP4:=hk4.blk H4.o4 (blk_ne H4.o4 H4.o2 (by decide)) (by decide);have hn4:=hk4.blk H4.o5 (blk_ne H4.o5 H4.o2 (by decide)) (by decide)
    have hρP:∀ b,bP<=b->ρi b=none:=fun b hb=>by
     cases hr:ρi b with
     | none=>rfl
     | some R=>have:=HR.o2.mem.lt b (by rw [hr];simp);have:=H3.o5;omega
    have hρn:ρi nb=none:=HR.o14 nb (by have:=H1.o4;omega) H2.o4.lt
    have hwy:∀ y∈N.map (·.2),Way (LE (TT g sm) p.txt) ((TT g sm).len q) x y.1 y.2 /\ y.1∈ri.nodes /\ y.1.2<=x.2:=fun y hy=>by
     rw [hN,<- HR.o11] at hy;have h1:=waysF_mem.1 hy;have h2:=way_ends HR.o5 HR.o6 h1;exact ⟨way_least HR.o5 h1,h2.1,h2.2⟩
    have hfN:foundF (TT g sm) x.2 q (waysF ri.edges ((TT g sm).len q) x) ri f=foundF (TT g sm) x.2 q (N.map (·.2)) ri f:=by rw [hN,HR.o11];rfl
    have f0:w4.cell? ⟨bF,0,none⟩=some (.slice fa N.length fc):=hfb.cell 0;have hNl:N.length<2199023255552:=by
     have h1:(N.map (·.2)).length=(waysF ri.edges pr.right.length x).length:=by rw [hN];rfl
     rw [List.length_map] at h1;omega
    have H5:=Z11.mk hR4 hfr hF.each hP4 hn4 hρP hρn hwy hfN hbw4 H4.o6;clear hR4 hfr hfb hF hN hk4 hcb hbw4 hP4 hn4 hρP hρn hwy hfN n0 n1 q1;go_wp2_with fail
    obtain ⟨wo,rfl⟩:∃ wo:World,wo=wr:=⟨_,rfl⟩
    go_loopg [5,46] N.length (fun m2 v5 v46 wx=>∃ (k:Nat) (ρk:Nat->Option Role) (rk:Rn) (f2:Bool),k<=N.length /\ m2=N.length - k /\ v46=.int .i64 k /\ v5=.bool f2 /\ RunW C p (TT g sm).left w0 ρk rk wx /\ KeepR ρi w4 wx /\ Roles w4.heap.size ρi ρk /\ Inv (TT g sm) p.txt Bd rk /\ (∀ z∈ri.nodes,z∈rk.nodes) /\
     foundF (TT g sm) x.2 q (N.map (·.2)) ri f=foundF (TT g sm) x.2 q ((N.drop k).map (·.2)) rk f2)
    case atStart=>exact ⟨0,ρi,ri,f,by omega,rfl,rfl,rfl,H5.o1,KeepR.refl _ _,Roles.refl _ _,HR.o5,fun _ h=>h,rfl⟩
    case round =>
     obtain ⟨k,ρk,rk,f2,hk,hm2,rfl,rfl,hRk,hKk,hrk,hIk,hnk,hfk⟩:=hrel
     by_cases hlt2:k<N.length
     ·obtain ⟨⟨v,y,cuts⟩,hz⟩:∃ z,N[k]?=some z:=⟨_,gE hlt2⟩;obtain ⟨fg,fcap,efv,_,_,_⟩:=own_some H5.o2 (by omega);injection efv with e1 e2 e3;subst e1;subst e3;clear e2;have hρP:=H5.o6;have hbPw:bP<=wB.heap.size:=by have:=H3.o2.size;have:=H3.o5;omega
      have hrow:=own_of_block (w':=wr) H5.o2 fun b hb=>hKk.block b (own_lt H5.o2 hb) (hρP b (by have:=(own_ty_ H5.o2 hb).1;omega))
      have g0:wr.cell? ⟨fg,k * 3,none⟩=some (.int .i64 y.1):=by
       have h:=hrow.cells (g:=fg) rfl (k * 3) _ (flatK_get encW_len N k _ 0 _ hz rfl);rw [addr_add_,Nat.zero_add] at h;exact h
      have g1:wr.cell? ⟨fg,k * 3+1,none⟩=some (.int .i64 y.2):=by
       have h:=hrow.cells (g:=fg) rfl (k * 3+1) _ (flatK_get encW_len N k _ 1 _ hz rfl);rw [addr_add_,Nat.zero_add] at h;exact h
      have hsl:=H5.o3 _ (gM hz);obtain ⟨ca,cc,hvv⟩:=slice_shape hsl;simp only at hvv hsl;subst hvv;have g2:wr.cell? ⟨fg,k * 3+2,none⟩=some (.slice ca cuts.length cc):=by
       have h:=hrow.cells (g:=fg) rfl (k * 3+2) _ (flatK_get encW_len N k _ 2 _ hz rfl);rw [addr_add_,Nat.zero_add] at h;exact h
      have hsk:SliceK (CutB C ρk wr) encN 1 wr (.slice ca cuts.length cc) cuts:=hsl.keep fun b hb hl=>by
       have hn:=hρP b (by have:=hb.1;omega)
       have hCb:C.rb<bP:=by
        rcases Nat.lt_or_ge C.rb bP with h | h
        ·exact h
        ·have h1:=hρP _ h;rw [H5.o1.mem.roles.rb] at h1;cases h1
       exact ⟨⟨⟨(hrk b hl).trans hn,by have:=hb.1;omega⟩,by obtain ⟨c,fz,e⟩:=hb.2.2;exact ⟨c,fz,(hKk.block b hl hn).trans e⟩⟩,hKk.block b hl hn⟩
      obtain ⟨hway,hyn,hyl⟩:=H5.o8 (y,cuts) (List.mem_map.2 ⟨_,gM hz,rfl⟩);simp only at hway hyn hyl;have hxok:=HR.o2.mem.nok x HR.o6;have hyok:NdOk y:=HR.o2.mem.nok y hyn;have hqp:=HH.o6.done_lt HR.o9;have hnp:=HH.o6.np;have haok:AlOk ⟨q,y.2,x.2,cuts⟩:=by
       refine ⟨by simp only;omega,hyok.2,hxok.2,fun c hc=>?_,?_⟩
       ·have:=way_le (least_down (TT g sm) p.txt) hway c hc;have:=hxok.2;omega
       ·have:=way_len hway;have:=HR.o11;have:=HR.o12;simp only;omega
      have hPk:=hKk.blk (hρP bP (nR _)) H5.o4;have hnk2:=hKk.blk H5.o7 H5.o5;have pp0:wr.cell? ⟨bP,0,none⟩=some (.int .i64 pr.left):=hPk.cell 0;have n1:wr.cell? ⟨nb,1,none⟩=some (.int .i64 x.2):=hnk2.cell 1;have hk0:(0:Int)<=k:=by omega
      have hk1:(k:Int)<N.length:=by omega
      have hPl:=hPk.lt;have hnl:=hnk2.lt;obtain ⟨a,haE⟩:∃ a:Al,a=⟨q,y.2,x.2,cuts⟩:=⟨_,rfl⟩;have HK:=Z2.mk hm2 (A16 hRk hKk hrk hIk hnk hfk hz hsk hway hyn hyl hyok haok hPk hnk2 haE);clear hm2 hRk hKk hrk hIk hnk hfk hz hsk hway hyn hyl hyok haok hPk hnk2 hsl hrow hρP hqp hnp hxok haE;go_upto_region 12 with fail
      have hYB:Blk ((wr.alloc (.cells #[.int .i64 y.1,.int .i64 y.2,.slice ca cuts.length cc] 208)).alloc (.cells #[.int .i64 pr.left,.int .i64 y.2,.int .i64 x.2,.int .i64 q,.slice ca cuts.length cc] 59)) wr.heap.size 208 #[.int .i64 y.1,.int .i64 y.2,.slice ca cuts.length cc]:=(Blk.new_ rfl _ _).alloc _;have hAB:Blk ((wr.alloc (.cells #[.int .i64 y.1,.int .i64 y.2,.slice ca cuts.length cc] 208)).alloc (.cells #[.int .i64 pr.left,.int .i64 y.2,.int .i64 x.2,.int .i64 q,.slice ca cuts.length cc] 59)) (wr.heap.size+1) 59 #[.int .i64 pr.left,.int .i64 y.2,.int .i64 x.2,.int .i64 q,.slice ca cuts.length cc]:=Blk.new_ (by simp) _ _;have hbz:Below wr.heap.size wr ((wr.alloc (.cells #[.int .i64 y.1,.int .i64 y.2,.slice ca cuts.length cc] 208)).alloc (.cells #[.int .i64 pr.left,.int .i64 y.2,.int .i64 x.2,.int .i64 q,.slice ca cuts.length cc] 59)):=((bR _ _).alloc (nR _) _).alloc (by simp) _;obtain ⟨bY,hbY⟩:=eX wr.heap.size;rw [hbY] at hYB hAB ⊢;generalize ((wr.alloc (.cells #[.int .i64 y.1,.int .i64 y.2,.slice ca cuts.length cc] 208)).alloc (.cells #[.int .i64 pr.left,.int .i64 y.2,.int .i64 x.2,.int .i64 q,.slice ca cuts.length cc] 59))=wz at hYB hAB hbz ⊢;have hRz:=HK.o2.1.below hbz;obtain ⟨fA,va,hA1,hA2,hA3⟩:=hRz.mem.alts;have hkl:=keyA_len a (by have h1:=HK.o2.2.2.2.2.2.2.2.2.2.2.2.2.1;rw [<- HK.o2.2.2.2.2.2.2.2.2.2.2.2.2.2.2.2] at h1;exact h1)
      have hkey:keyOf Tryz.prog 9 (.string ⟨(keyA a).toArray⟩)=some (.string (keyA a)):=by
       have h1:=WideMaps.keyOf_string_mk (P:=Tryz.prog) (k:=9) Tryz.underlying9 (s:=⟨(keyA a).toArray⟩) (by unfold maxLen;show (keyA a).toArray.size<=_;simp;omega)
       simpa using h1
      obtain ⟨i0,i1,i2,i3,za,zn,zc,bt,hav,hbt,hbm⟩:∃ i0 i1 i2 i3 za zn zc bt,(fA (.string (keyA a))).getD (.agg #[.int .i64 0,.int .i64 0,.int .i64 0,.int .i64 0,.slice none 0 0])=.agg #[.int .i64 i0,.int .i64 i1,.int .i64 i2,.int .i64 i3,.slice za zn zc] /\ (fA (.string (keyA a))).isSome=bt /\ (bt=true↔a∈rk.alts):=by
       rw [hA2,find_key]
       by_cases ha:a∈(rmOf rk).alts
       ·rw [if_pos ha];obtain ⟨qa,qc,hq⟩:=slice_shape (hA3 a ha);refine ⟨(TT g sm).left a.prod,a.src,a.til,a.prod,qa,a.cuts.length,qc,true,?_,rfl,⟨fun _=>ha,fun _=>rfl⟩⟩;rw [<- hq];rfl
       ·rw [if_neg ha];exact ⟨0,0,0,0,none,0,0,false,rfl,rfl,⟨fun h=>(by cases h),fun h=>absurd h ha⟩⟩
      have hwzl:=hRz.mem.low.size;have hup:∀ W,Below wz.drew.heap.size wz.drew W->Below wz.heap.size wz W:=fun W hG=>(show Below wz.heap.size wz wz.drew from (bR _ _).drew).trans hG
      have HC:=Hd (show ∀ W,Below wz.drew.heap.size wz.drew W->W.cell? ⟨C.rb,10,none⟩=some (.map (some C.ba)) /\ W.cell? ⟨bY+1,0,none⟩=some (.int .i64 pr.left) /\ W.cell? ⟨bY+1,1,none⟩=some (.int .i64 y.2) /\ W.cell? ⟨bY+1,2,none⟩=some (.int .i64 x.2) /\ W.cell? ⟨bY+1,3,none⟩=some (.int .i64 q) /\ W.cell? ⟨bY+1,4,none⟩=some (.slice ca cuts.length cc) from fun W hG =>
       ⟨(hRz.mem.box.drew.below hG hRz.mem.box.lt).cell 10,(hAB.drew.below hG hAB.lt).cell 0,(hAB.drew.below hG hAB.lt).cell 1,(hAB.drew.below hG hAB.lt).cell 2,(hAB.drew.below hG hAB.lt).cell 3,(hAB.drew.below hG hAB.lt).cell 4⟩)
      have HKW:=Hd (show ∀ W,Below w0.heap.size w0 W->SliceK (fun _=>True) encN 1 W (.slice ca cuts.length cc) cuts->Calls Tryz.prog 123 #[.agg #[.int .i64 pr.left,.int .i64 y.2,.int .i64 x.2,.int .i64 q,.slice ca cuts.length cc]] W fun e w'=>e=.returned (.string ⟨(keyA a).toArray⟩) /\ Below W.heap.size W w' from fun W hW hsW=>by
       have h1:Calls Tryz.prog 123 #[.agg #[.int .i64 ((TT g sm).left q),.int .i64 y.2,.int .i64 x.2,.int .i64 q,.slice ca cuts.length cc]] W fun e w'=>e=.returned (.string ⟨(keyA ⟨q,y.2,x.2,cuts⟩).toArray⟩) /\ Below W.heap.size W w':=key_any (TT g sm).left (fun _=>True) (.slice ca cuts.length cc) ⟨q,y.2,x.2,cuts⟩ HK.o2.2.2.2.2.2.2.2.2.2.2.2.2.1 W (HH.o6.env.below hW HH.o6.env.big) hsW;rw [HR.o10,<- HK.o2.2.2.2.2.2.2.2.2.2.2.2.2.2.2.2] at h1;exact h1)
      have hsz:SliceK (CutB C ρk wz) encN 1 wz (.slice ca cuts.length cc) cuts:=HK.o2.2.2.2.2.2.2.2.1.keep fun g hg hl=>⟨hg.keep_ rfl (hbz.block g hl),hbz.block g hl⟩;have HKY:=Hd (fun W hG=>HKW.out W (hRz.mem.low.trans ((hup W hG).mono hwzl)) (hsz.keep fun g hg hl=>⟨trivial,(hup W hG).block g hl⟩))
      have HSZ:=Hd hsz;clear hsz;have HLK:=Hd (show ∀ W,Below wz.drew.heap.size wz.drew W->(Instr.lookup 78 (.map (some C.ba)) (.string ⟨(keyA a).toArray⟩) true).run Tryz.prog W=.ok (.tuple #[.agg #[.int .i64 i0,.int .i64 i1,.int .i64 i2,.int .i64 i3,.slice za zn zc],.bool bt]) W from fun W hG=>by
       have h1:=((show MapS Tryz.prog 9 wz.drew C.ba (rmOf rk).alts.length fA from hA1).of_block (hG.block C.ba hA1.lt)).look_ok (string_keyed Tryz.underlying9) Tryz.underlying78 (Tryz.zeroValue59 W) hkey;rw [hav,hbt] at h1;exact h1)
      have HZz:=Hd (show ∀ W,Below wz.drew.heap.size wz.drew W->wz.heap.size<=W.heap.size from fun W hG=>hG.size);have HZ12:=Z12.mk hYB hAB hbz hRz hA1 hA2 hA3 hkey hbm hbt hbY hkl;clear hYB hAB hbz hRz hA1 hA2 hA3 hkey hav hbt hbm hup hwzl hbY g0 g1 g2 pp0 n1;refine wp_region_concF 11 9 (reB C pr.left q y.2 x.2 cuts.length ⟨(keyA a).toArray⟩ ca cc i0 i1 i2 i3 za zn zc bt wz.heap.size) (fun A W=>Below A.heap.size A W) (by kernel_rfl) (by kernel_rfl) (by kernel_rfl) (by kernel_rfl) (bR _ _) (fun h k=>h.trans (k.mono h.size)) ?_ (by intro c a v w h;exact h) ?_ ?_
      ·simp only [List.take_succ_cons,List.take_zero];refine ⟨?_,?_,?_,?_,?_,?_,?_,?_,?_,?_,?_,trivial⟩
       all_goals intro L T W hG hJ hLs hLi dq fq vq K hK
       all_goals try have zk:=fun v=>hK v W (bR _ W) (fun j u _ _ _ h=>h) trivial
       all_goals try have zv:=fun i h=>vq ⟨i,.data⟩ h rfl
       ·have h1:=fq 0 (by decide);simp at h1;go_simp;exact zk _ rfl
       ·have h1:=zv 0 (by simp) 62 rfl;simp [reB] at h1;go_simp;exact zk _ rfl
       ·have h1:=zv 1 (by simp) 63 rfl;simp [reB] at h1;go_simp;exact zk _ rfl
       ·have h1:=zv 2 (by simp) 64 rfl;simp [reB] at h1;obtain ⟨c0,d0,d1,d2,d3,d4⟩:=HC.out W hG;go_simp;exact zk _ rfl
       ·have h1:=fq 12 (by decide);simp at h1;obtain ⟨c0,d0,d1,d2,d3,d4⟩:=HC.out W hG;go_simp;exact zk _ rfl
       ·have h1:=zv 4 (by simp) 66 rfl;simp [reB] at h1;have hcl:=HKY.out W hG;go_simp;refine hcl.mono ?_;rintro e W2 ⟨rfl,hb2⟩;exact hK _ _ hb2 (fun j u _ _ _ h=>reB_low j u h hb2) trivial rfl
       ·have h1:=zv 3 (by simp) 65 rfl;have h2:=zv 5 (by simp) 67 rfl;simp [reB] at h1 h2;have hlk:=HLK.out W hG;go_simp;exact zk _ rfl
       ·have h1:=zv 6 (by simp) 68 rfl;simp [reB] at h1;go_simp;exact zk _ rfl
       ·have h1:=zv 7 (by simp) 61 rfl;simp [reB] at h1;go_simp;exact zk _ rfl
       ·have h1:=zv 7 (by simp) 61 rfl;simp [reB] at h1;go_simp;exact zk _ rfl
       ·go_simp;have hbn:=(bR W.heap.size W).alloc (nR _) (.cells #[.int .i64 0,.int .i64 0,.int .i64 0,.int .i64 0,.slice none 0 0] 59);exact hK _ _ hbn (fun j u _ _ _ h=>reB_low j u h hbn) trivial ⟨_,rfl,Blk.new W _ _,HZz.out W hG⟩
      ·intro os T W hos hv;have h6:=hv ⟨7,.data⟩ (by simp at hos;subst hos;simp) rfl 61 rfl;simp only [reB] at h6;simp at hos;subst hos;refine ⟨.bool bt,.inl ⟨rfl,fun w=>?_⟩,rfl⟩;simp [execOp,go_sem,h6]
      ·intro f9 w5 hG hR;have e8:=hR 8 69 (by decide) rfl;have e9:=hR 9 70 (by decide) rfl;obtain ⟨qz,e10,k1,k2⟩:=hR 10 13 (by decide) rfl;simp only [concDsts,qZ];simp only [reB] at e8 e9;rw [e8,e9,e10];clear e8 e9 e10 hR;generalize f9 62=v62;generalize f9 63=v63;generalize f9 64=v64;generalize f9 65=v65;generalize f9 66=v66;generalize f9 67=v67;generalize f9 68=v68;generalize f9 61=v61;clear f9;have hbz5:Below wz.heap.size wz (((((w5.setCell ⟨qz,0,none⟩ (.int .i64 i0)).setCell ⟨qz,1,none⟩ (.int .i64 i1)).setCell ⟨qz,2,none⟩ (.int .i64 i2)).setCell ⟨qz,3,none⟩ (.int .i64 i3)).setCell ⟨qz,4,none⟩ (.slice za zn zc)):=((((((show Below wz.heap.size wz w5 from (show Below wz.heap.size wz wz.drew from (bR _ _).drew).trans hG).setCell k2 _).setCell k2 _).setCell k2 _).setCell k2 _).setCell k2 _);have z0:=k1.cell 0;have z1:=k1.cell 1;have z2:=k1.cell 2;have z3:=k1.cell 3;have z4:=k1.cell 4;have zz:=k1.frozen;have hql:=k1.lt;simp at z0 z1 z2 z3 z4;have H6:=Hd hbz5;clear hbz5 hG k1 k2 HC HKY HLK HZz
       go_upto_if 72 with fail
       have hb6:=H6.out;generalize (((((w5.setCell ⟨qz,0,none⟩ (.int .i64 i0)).setCell ⟨qz,1,none⟩ (.int .i64 i1)).setCell ⟨qz,2,none⟩ (.int .i64 i2)).setCell ⟨qz,3,none⟩ (.int .i64 i3)).setCell ⟨qz,4,none⟩ (.slice za zn zc))=w6 at hb6 ⊢;have HB6:=Hd hb6;clear hb6 z0 z1 z2 z3 z4 zz hql;have hR6:=HZ12.o4.below HB6.out;have HR6:=Hd hR6;have hro:Roles w.heap.size ρ ρk:=Roles.trans (n:=w.heap.size) (m:=w4.heap.size) (ρ':=ρi) (fun b hb=>HR.o4 b (by have:=H1.o3.size;have:=H2.o1.size;omega)) HK.o2.2.2.1 (by have:=H1.o3.size;have:=H2.o1.size;have:=HR.o3.size;have:=H3.o2.size;have:=H5.o10.size;omega);have hkp:KeepR ρ w w6:=((((KeepR.of (ρ:=ρ) (H1.o3.trans (H2.o1.mono H1.o3.size))).same HR.o3).same (KeepR.of (H3.o2.trans (H5.o10.mono H3.o2.size)))).trans HK.o2.2.1 (fun b hb=>HR.o4 b (by have:=H1.o3.size;have:=H2.o1.size;omega))).same (KeepR.of (HZ12.o3.trans (HB6.out.mono HZ12.o3.size)));have HKEEP:=Z2.mk hkp hro;have hrd:=red_at HR.o7 HR.o8 H5.o9 HK.o2.2.2.2.2.2.1 HK.o2.2.2.2.2.2.2.1;have HRD:=Hd hrd;clear hR6 hkp hro hrd
       go_cut [5] from 73 to 82 (fun s5 wx=>∃ (r1:Rn) (f1:Bool),s5=.bool (f2 || f1) /\ altF rk a=.ok (r1,f1) /\ RunW C p (TT g sm).left w0 ρk r1 wx /\ KeepR ρk w6 wx)
       case first =>
        cases bt with
        | true =>
         have HT:=Hd (HZ12.o9.1 rfl);go_wp2_with fail
         go_meet;refine ⟨rk,false,by simp,?_,HR6.out,KeepR.refl _ _⟩;unfold altF;rw [if_pos HT.out]
        | false =>
         have HT:=Hd (show a ∉ rk.alts from fun h=>by have:=HZ12.o9.2 h;cases this);go_wp2_with fail
         have hAE:=HK.o2.2.2.2.2.2.2.2.2.2.2.2.2.2.2.2;have HAE:=Hd hAE;clear hAE
         cases hl:rk.left with
         | zero =>
          have hbx:Blk w6 C.rb 81 (boxC C p 0):=by have h1:=HR6.out.mem.box;simp only [rmOf,hl] at h1;exact h1
          refine (step_stop C p w6 hbx).mono ?_;rintro e w7 ⟨rfl,rfl⟩;have hkk:=HKEEP.o1.trans (KeepR.grown (ρ:=ρk) (grown_set (grown_refl w6 (some C.rb)) (p:=⟨C.rb,7,none⟩) rfl (.int .i64 (-1))) (fun b e=>by injection e with e;subst e;rw [HR6.out.mem.roles.rb];simp)) HKEEP.o2;refine An rfl ?_;have hal:altF rk ⟨q,y.2,x.2,cuts⟩=.stop rk:=by rw [<- HAE.out];unfold altF;rw [if_neg HT.out,if_pos hl]
          rw [HRD.out,foundF];dsimp only;rw [hal];exact An rfl hkk
         | succ kk =>
          have hbx:Blk w6 C.rb 81 (boxC C p (kk+1)):=by have h1:=HR6.out.mem.box;simp only [rmOf,hl] at h1;exact h1
          have htot:=HR6.out.tot;unfold sumF at htot;have hkl:kk<=4398046511104:=by omega
          refine (step_go C p kk (by omega) w6 hbx).mono ?_
          rintro e w7 ⟨rfl,rfl⟩;obtain ⟨hM7,hk7⟩:=HR6.out.mem.setLeft kk hkl;have hAl:ρk (bY+1)=none:=by
           cases hr:ρk (bY+1) with
           | none=>rfl
           | some R=>have:=HK.o2.1.mem.lt (bY+1) (by rw [hr];simp);have:=HZ12.o11;omega
          have hkz:KeepR ρk wz (w6.setCell ⟨C.rb,7,none⟩ (.int .i64 kk)):=(KeepR.of (ρ:=ρk) HB6.out).same hk7;have hA7:=hkz.blk hAl HZ12.o2;have hs7:SliceK (CutB C ρk (w6.setCell ⟨C.rb,7,none⟩ (.int .i64 kk))) encN 1 (w6.setCell ⟨C.rb,7,none⟩ (.int .i64 kk)) (.slice ca cuts.length cc) cuts:=HSZ.out.keep fun g hg hl=>⟨hg.keep_ rfl (hkz.block g hl hg.1.1),hkz.block g hl hg.1.1⟩;clear hbx hkz;generalize w6.setCell ⟨C.rb,7,none⟩ (.int .i64 kk)=w7 at hM7 hk7 hA7 hs7 ⊢;have hup:∀ W,Below w7.drew.heap.size w7.drew W->Below w7.heap.size w7 W:=fun W hG=>(show Below w7.heap.size w7 w7.drew from (bR _ _).drew).trans hG
          have HC:=Hd (show ∀ W,Below w7.drew.heap.size w7.drew W->W.cell? ⟨C.rb,10,none⟩=some (.map (some C.ba)) /\ W.cell? ⟨bY+1,0,none⟩=some (.int .i64 pr.left) /\ W.cell? ⟨bY+1,1,none⟩=some (.int .i64 y.2) /\ W.cell? ⟨bY+1,2,none⟩=some (.int .i64 x.2) /\ W.cell? ⟨bY+1,3,none⟩=some (.int .i64 q) /\ W.cell? ⟨bY+1,4,none⟩=some (.slice ca cuts.length cc) from fun W hG =>
           ⟨(hM7.box.drew.below hG hM7.box.lt).cell 10,(hA7.drew.below hG hA7.lt).cell 0,(hA7.drew.below hG hA7.lt).cell 1,(hA7.drew.below hG hA7.lt).cell 2,(hA7.drew.below hG hA7.lt).cell 3,(hA7.drew.below hG hA7.lt).cell 4⟩)
          have HKY:=Hd (fun W hG=>HKW.out W (hM7.low.trans ((hup W hG).mono hM7.low.size)) (hs7.keep fun g hg hl=>⟨trivial,(hup W hG).block g hl⟩));have H7:=Z5.mk hM7 hk7 hA7 hs7 hup;clear hM7 hk7 hA7 hs7 hup;go_upto_region 15 with fail
          refine wp_region_concT 7 (reC C pr.left q y.2 x.2 cuts.length ⟨(keyA a).toArray⟩ ca cc) (fun A W=>Below A.heap.size A W) (fun _ _=>True) (by kernel_rfl) (by kernel_rfl) (by kernel_rfl) (by kernel_rfl) (bR _ _) trivial (fun h k=>h.trans (k.mono h.size)) ?_ ?_
          ·simp only [List.take_succ_cons,List.take_zero];refine ⟨?_,?_,?_,?_,?_,?_,?_,trivial⟩
           all_goals intro L T W hG hJ hLs hLi dq fq vq K hK
           all_goals try have zk:=fun v=>hK v W (bR _ W) (fun j u _ _ _ h=>h) trivial
           all_goals try have zv:=fun i h=>vq ⟨i,.data⟩ h rfl
           ·have h1:=fq 0 (by decide);simp at h1;go_simp;exact zk _ rfl
           ·have h1:=zv 0 (by simp) 75 rfl;simp [reC] at h1;go_simp;exact zk _ rfl
           ·have h1:=zv 1 (by simp) 76 rfl;simp [reC] at h1;go_simp;exact zk _ rfl
           ·have h1:=zv 2 (by simp) 77 rfl;simp [reC] at h1;obtain ⟨c0,d0,d1,d2,d3,d4⟩:=HC.out W hG;go_simp;exact zk _ rfl
           ·have h1:=fq 12 (by decide);simp at h1;obtain ⟨c0,d0,d1,d2,d3,d4⟩:=HC.out W hG;go_simp;exact zk _ rfl
           ·have h1:=zv 4 (by simp) 79 rfl;simp [reC] at h1;have hcl:=HKY.out W hG;go_simp;refine hcl.mono ?_;rintro e W2 ⟨rfl,hb2⟩;exact hK _ _ hb2 (fun j u _ _ _ h=>h) trivial rfl
           ·have h1:=fq 12 (by decide);simp at h1;obtain ⟨c0,d0,d1,d2,d3,d4⟩:=HC.out W hG;go_simp;exact zk _ rfl
          ·intro f9 w8 hG hJe hR;have e3:=hR 3 78 (by decide) rfl;have e5:=hR 5 80 (by decide) rfl;have e6:=hR 6 81 (by decide) rfl
           simp only [concDsts,qZ];simp only [reC] at e3 e5 e6;rw [e3,e5,e6];clear e3 e5 e6 hR;generalize f9 75=v75;generalize f9 76=v76;generalize f9 77=v77;generalize f9 79=v79;clear f9;have hb78:=H7.o5 w8 hG;have hM8:=H7.o1.below hb78;obtain ⟨fA8,va8,q1,q2,q3⟩:=hM8.alts;have hs8:SliceK (CutB C ρk w8) encN 1 w8 (.slice ca cuts.length cc) a.cuts:=by
            rw [HAE.out];exact H7.o4.keep fun g hg hl=>⟨hg.keep_ rfl (hb78.block g hl),hb78.block g hl⟩
           have hval:Value.agg #[.int .i64 pr.left,.int .i64 y.2,.int .i64 x.2,.int .i64 q,.slice ca cuts.length cc]=alV (TT g sm).left (.slice ca cuts.length cc) a:=by
            rw [HAE.out];unfold alV;rw [HR.o10]
           obtain ⟨w9,hrun9,hm9,hg9⟩:=q1.update (string_keyed Tryz.underlying9) Tryz.underlying78 (by simp only [rmOf];unfold maxLen;omega) HZ12.o8 (val:=.agg #[.int .i64 pr.left,.int .i64 y.2,.int .i64 x.2,.int .i64 q,.slice ca cuts.length cc]);have hA9:AltsW C (TT g sm).left ρk (rk.alts++[a]) w9:=AltsW.push q2 q3 HT.out hM8.roles.ba hg9 hs8 (by rw [<- hval];exact hm9)
           obtain ⟨hM9,hk9⟩:=hM8.setAlts hg9 hA9 (fun b hb=>by
            rcases List.mem_append.1 hb with hb | hb
            ·exact HR6.out.mem.aok b hb
            ·rw [List.mem_singleton] at hb;subst hb;rw [HAE.out];exact HK.o2.2.2.2.2.2.2.2.2.2.2.2.2.1) (by rw [List.length_append,List.length_singleton];omega)
           have H9:=Z2.mk hM9 ((H7.o2.same (KeepR.of hb78)).same hk9);clear hb78 hM8 q1 q2 q3 hs8 hval hm9 hg9 hA9 hM9 hk9 hG hJe HC HKY;go_wp2_with fail
           go_meet;refine ⟨{ rk with left:=kk,alts:=rk.alts++[a] },true,by simp,?_,⟨H9.o1,HR6.out.nn,?_,HR6.out.te⟩,H9.o2⟩
           ·unfold altF;rw [if_neg HT.out,if_neg (by rw [hl];omega),hl]
            rfl
           ·unfold sumF;simp only [List.length_append,List.length_singleton];omega
       case rest =>
        obtain ⟨r1,f1,rfl,hal,hR1,hk1⟩:=hcut;have hAE:=HK.o2.2.2.2.2.2.2.2.2.2.2.2.2.2.2.2;have hlx:=altF_law (T:=TT g sm) (w:=p.txt) (j:=x.2) HK.o2.2.2.2.1 (a:=a) (by
         rw [hAE];have hLN:=HK.o2.2.2.2.1.sn x (HK.o2.2.2.2.2.1 x HR.o6);exact (least_closed (TT g sm) p.txt).alt x.1 x.2 q y cuts hLN HH.o4 HR.o9 HK.o2.2.2.2.2.2.2.2.2.1) (by rw [hAE])
        rw [hal] at hlx;obtain ⟨hI1,hg1,_⟩:=hlx;have hal2:altF rk ⟨q,y.2,x.2,cuts⟩=.ok (r1,f1):=by rw [<- hAE];exact hal
        have hbYl:ρk bY=none:=by
         cases hr:ρk bY with
         | none=>rfl
         | some R=>have:=HK.o2.1.mem.lt bY (by rw [hr];simp);have:=HZ12.o11;omega
        have hkz:KeepR ρk wz wc:=(KeepR.of (ρ:=ρk) HB6.out).same hk1;have hYc:=hkz.blk hbYl HZ12.o1;have hPc:Blk wc bP 53 #[.int .i64 pr.left,.slice ra pr.right.length rc,.string ⟨pr.cons.toArray⟩,.int .i64 pr.role,.bool pr.prefer,.bool pr.avoid,.int .i64 pr.made]:=by
         have h1:=HK.o2.2.2.2.2.2.2.2.2.2.2.2.2.2.1;have hn:ρk bP=none:=(HK.o2.2.2.1 bP H5.o4.lt).trans (H5.o6 bP (nR _));exact hkz.blk hn (h1.below HZ12.o3 h1.lt)
        have hnc:Blk wc nb 150 #[.int .i64 x.1,.int .i64 x.2]:=by
         have h1:=HK.o2.2.2.2.2.2.2.2.2.2.2.2.2.2.2.1;have hn:ρk nb=none:=(HK.o2.2.2.1 nb H5.o5.lt).trans H5.o7;exact hkz.blk hn (h1.below HZ12.o3 h1.lt)
        have htg:=tt_goto g sm y.1 pr.left;obtain ⟨gt,hgt⟩:=eX ((TT g sm).goto_ y.1 pr.left);rw [hgt] at htg;obtain ⟨go,hgo⟩:=eX (optT gt);rw [hgo] at htg;have HC:=Hd (show ∀ W,Below wc.drew.heap.size wc.drew W->W.cell? ⟨C.rb,5,none⟩=some p.tv /\ W.cell? ⟨bY,0,none⟩=some (.int .i64 y.1) /\ W.cell? ⟨bP,0,none⟩=some (.int .i64 pr.left) from fun W hG=>⟨(hR1.mem.box.drew.below hG hR1.mem.box.lt).cell 5,(hYc.drew.below hG hYc.lt).cell 0,(hPc.drew.below hG hPc.lt).cell 0⟩)
        have HGO:=Hd (show ∀ W,Below wc.drew.heap.size wc.drew W->Calls Tryz.prog 45 #[p.tv,.int .i64 y.1,.int .i64 pr.left] W fun e w'=>e=.returned (.tuple #[.int .i64 go.1,.bool go.2]) /\ Below W.heap.size W w' from fun W hG=>by
         have h1:=goto_any g B p.tv sm y.1 pr.left W (HH.o6.tab.below (hR1.mem.low.trans (((show Below wc.heap.size wc wc.drew from (bR _ _).drew).trans hG).mono hR1.mem.low.size))) (HH.o6.small y.1).1;rw [htg] at h1;exact h1)
        have H10:=Z9.mk hR1 hk1 hI1 hg1 hal2 hYc hnc hgt hgo;clear hR1 hk1 hI1 hg1 hal hal2 hbYl hkz hYc hPc hnc htg hgt hgo hAE;go_upto_region 17 with fail
        refine wp_region_concF 13 12 (reD C p bY bP y.1 pr.left go) (fun A W=>Below A.heap.size A W) (by kernel_rfl) (by kernel_rfl) (by kernel_rfl) (by kernel_rfl) (bR _ _) (fun h k=>h.trans (k.mono h.size)) ?_ (by intro c a v w h;exact h) ?_ ?_
        ·simp only [List.take_succ_cons,List.take_zero];refine ⟨?_,?_,?_,?_,?_,?_,?_,?_,?_,?_,?_,?_,?_,trivial⟩
         all_goals intro L T W hG hJ hLs hLi dq fq vq K hK
         all_goals try have zk:=fun v=>hK v W (bR _ W) (fun j u _ _ _ h=>h) trivial
         all_goals try have zv:=fun i h=>vq ⟨i,.data⟩ h rfl
         ·have h1:=fq 0 (by decide);simp at h1;go_simp;exact zk _ rfl
         ·have h1:=zv 0 (by simp) 83 rfl;simp [reD] at h1;go_simp;exact zk _ rfl
         ·have h1:=zv 1 (by simp) 84 rfl;simp [reD] at h1;go_simp;exact zk _ rfl
         ·have h1:=zv 2 (by simp) 85 rfl;simp [reD] at h1;obtain ⟨c0,c1,c2⟩:=HC.out W hG;go_simp;exact zk _ rfl
         ·have h1:=fq 11 (by decide);simp at h1;go_simp;exact zk _ rfl
         ·have h1:=zv 4 (by simp) 87 rfl;simp [reD] at h1;go_simp;exact zk _ rfl
         ·have h1:=zv 5 (by simp) 88 rfl;simp [reD] at h1;obtain ⟨c0,c1,c2⟩:=HC.out W hG;go_simp;exact zk _ rfl
         ·have h1:=fq 8 (by decide);simp at h1;go_simp;exact zk _ rfl
         ·have h1:=zv 7 (by simp) 90 rfl;simp [reD] at h1;obtain ⟨c0,c1,c2⟩:=HC.out W hG;go_simp;exact zk _ rfl
         ·have h1:=zv 3 (by simp) 86 rfl;have h2:=zv 6 (by simp) 89 rfl;have h3:=zv 8 (by simp) 91 rfl;simp [reD] at h1 h2 h3;have hcl:=HGO.out W hG;go_simp;refine hcl.mono ?_;rintro e W2 ⟨rfl,hb2⟩;exact hK _ _ hb2 (fun j u _ _ _ h=>h) trivial rfl
         ·have h1:=zv 9 (by simp) 92 rfl;simp [reD] at h1;go_simp;exact zk _ rfl
         ·have h1:=zv 10 (by simp) 82 rfl;simp [reD] at h1;go_simp;exact zk _ rfl
         ·have h1:=zv 10 (by simp) 82 rfl;simp [reD] at h1;go_simp;exact zk _ rfl
        ·intro os T W hos hv;have h6:=hv ⟨10,.data⟩ (by simp at hos;subst hos;simp) rfl 82 rfl;simp only [reD] at h6;simp at hos;subst hos;refine ⟨.bool go.2,.inl ⟨rfl,fun w=>?_⟩,rfl⟩;simp [execOp,go_sem,h6]
        ·intro f9 w7 hG hR;have e11:=hR 11 93 (by decide) rfl;have e12:=hR 12 94 (by decide) rfl;simp only [concDsts,qZ];simp only [reD] at e11 e12;rw [e11,e12];clear e11 e12 hR;generalize f9 83=v83;generalize f9 84=v84;generalize f9 85=v85;generalize f9 86=v86;generalize f9 87=v87;generalize f9 88=v88;generalize f9 89=v89;generalize f9 90=v90;generalize f9 91=v91;generalize f9 92=v92;generalize f9 82=v82;clear f9;have hb7:Below wc.heap.size wc w7:=(show Below wc.heap.size wc wc.drew from (bR _ _).drew).trans hG;have hR7:=H10.o1.below hb7;have hY7:=H10.o6.below hb7 H10.o6.lt;have hn7:=H10.o7.below hb7 H10.o7.lt;obtain ⟨y0,y1,_⟩:=hY7.facts3;obtain ⟨n0,n1,_⟩:=hn7.facts2;have hfg:=found_go (T:=TT g sm) (f2:=f2) HK.o2.2.2.2.2.2.2.1 H10.o5;have hpl:=HR.o10;have hgt:=H10.o8;have hgo:=H10.o9;rw [hpl,hgt] at hfg;have hk7:KeepR ρi w4 w7:=((HK.o2.2.1.same (KeepR.of (HZ12.o3.trans (HB6.out.mono HZ12.o3.size)))).trans H10.o2 HK.o2.2.2.1).same (KeepR.of hb7);have H11:=Z6.mk hR7 hfg hpl hgt hk7 hb7;clear hR7 hY7 hn7 hfg hpl hgt hk7 hb7 hG HC HGO
         cases gt with
         | none =>
          obtain rfl:go=(0,false):=hgo.symm;go_wp2_with fail
          go_roundg (N.length - (k+1))
          case measure=>have:=HK.o1;omega
          case rel =>
           exact ⟨k+1,ρk,r1,f2 || f1,by omega,rfl,rfl,rfl,H11.o1,H11.o5,HK.o2.2.2.1,H10.o3,fun z hz=>H10.o4.nodeIn (HK.o2.2.2.2.2.1 z hz),HK.o2.2.2.2.2.2.1.trans H11.o2⟩
         | some tg =>
          obtain rfl:go=((tg:Int),true):=hgo.symm;have htl:=HH.o6.below.goto_ y.1 pr.left tg H11.o4;have hmany:=HH.o6.many;have hxok:=HR.o2.mem.nok x HR.o6;have hcnt:r1.tries.count ((tg,x.2),y)<4611686018427387904:=by
           have h1:=(foundF_after (T:=TT g sm) (l:=(N.drop (k+1)).map (·.2)) (y:=(y,cuts)) (f:=f2) H10.o5).count ((tg,x.2),y);have h2:=(red_pre HRD.out).count ((tg,x.2),y);have h3:=HH.o5 ((tg,x.2),y);omega
          have hlk:=link_any C p (TT g sm).left w0 ρk r1 w7 H11.o1 (tg,x.2) y ⟨by simp only;omega,hxok.2⟩ HK.o2.2.2.2.2.2.2.2.2.2.2.2.1 hcnt
          have hll:=linkF_law (T:=TT g sm) (w:=p.txt) (j:=x.2) (x:=(tg,x.2)) (y:=y) H10.o3 (by
           have hLN:=HK.o2.2.2.2.1.sn x (HK.o2.2.2.2.2.1 x HR.o6);exact (least_closed (TT g sm) p.txt).goto_ x.1 x.2 q y cuts tg hLN HH.o4 HR.o9 HK.o2.2.2.2.2.2.2.2.2.1 (by rw [H11.o3];exact H11.o4)) (H10.o4.nodeIn (HK.o2.2.2.2.2.1 y HK.o2.2.2.2.2.2.2.2.2.2.1)) rfl HK.o2.2.2.2.2.2.2.2.2.2.2.1
          have HLL:=Hd hll;have HLK:=Hd hlk;clear hlk hll hcnt htl hmany hxok;go_wp2_with fail
          refine HLK.out.mono ?_;rintro e w9 hL
          cases hlr:linkF r1 (tg,x.2) y with
          | stop r2 =>
           rw [hlr] at hL;obtain ⟨rfl,hk9⟩:=hL;refine An rfl ?_;have hfs:foundF (TT g sm) x.2 q ((y,cuts)::(N.drop (k+1)).map (·.2)) rk f2=.stop r2:=by
            have h1:=H11.o2;rw [hlr] at h1;have hk:=(gS.1 HK.o2.2.2.2.2.2.2.1).1;have hze:N[k]=(_,y,cuts):=(gS.1 HK.o2.2.2.2.2.2.2.1).2;rw [List.drop_eq_getElem_cons hk,hze,List.map_cons] at h1;exact h1
           rw [HRD.out,hfs];exact An rfl (((HKEEP.o1.trans H10.o2 HKEEP.o2).same (KeepR.of H11.o6)).trans hk9 HKEEP.o2)
          | ok v =>
           obtain ⟨r2,f3⟩:=v;rw [hlr] at hL;obtain ⟨rfl,ρ9,hR9,hk9,hr9⟩:=hL;have hI9:=HLL.out;rw [hlr] at hI9;obtain ⟨hI9,hg9,_⟩:=hI9;have hfg:=H11.o2;rw [hlr] at hfg;have hsz:w4.heap.size<=w7.heap.size:=H11.o5.size;have H12:=Z6.mk hR9 (H11.o5.trans hk9 HK.o2.2.2.1) (Roles.trans HK.o2.2.2.1 hr9 hsz) hI9 hg9 hfg;clear hR9 hk9 hr9 hI9 hg9 hfg hsz hlr
           cases f3 with
           | true =>
            go_wp2_with fail
            go_roundg (N.length - (k+1))
            case measure=>have:=HK.o1;omega
            case rel =>
             refine ⟨k+1,ρ9,r2,true,by omega,rfl,rfl,rfl,H12.o1,H12.o2,H12.o3,H12.o4,fun z hz=>H12.o5.nodeIn (H10.o4.nodeIn (HK.o2.2.2.2.2.1 z hz)),?_⟩;have h1:=HK.o2.2.2.2.2.2.1.trans H12.o6;rw [Bool.or_true] at h1;exact h1
           | false =>
            go_wp2_with fail
            go_roundg (N.length - (k+1))
            case measure=>have:=HK.o1;omega
            case rel =>
             refine ⟨k+1,ρ9,r2,f2 || f1,by omega,rfl,rfl,rfl,H12.o1,H12.o2,H12.o3,H12.o4,fun z hz=>H12.o5.nodeIn (H10.o4.nodeIn (HK.o2.2.2.2.2.1 z hz)),?_⟩;have h1:=HK.o2.2.2.2.2.2.1.trans H12.o6;rw [Bool.or_false] at h1;exact h1
     ·obtain rfl:k=N.length:=by omega
      rw [List.drop_length] at hfk;have hK:=Z6.mk hRk hKk hrk hIk hnk hfk;clear hRk hKk hrk hIk hnk hfk hm2;go_wp2_with fail
      go_roundg (DL.length - (i+1))
      case measure=>have:=HR.o1;omega
      case rel =>
       have hw24:w2.heap.size<=w4.heap.size:=by have:=HR.o3.size;have:=H3.o2.size;have:=H5.o10.size;omega
       refine ⟨i+1,ρk,rk,f2,by omega,rfl,rfl,rfl,hK.o1,?_,?_,hK.o4,hK.o5 x HR.o6,?_⟩
       ·exact (HR.o3.same (KeepR.of (H3.o2.trans (H5.o10.mono H3.o2.size)))).trans hK.o2 HR.o4
       ·exact Roles.trans HR.o4 hK.o3 hw24
       ·rw [HR.o7,List.drop_eq_getElem_cons hlt];have hqe:DL[i]=q:=(gS.1 HR.o8).2;rw [hqe,prodsF,H5.o9,hK.o6]
        rfl
   ·obtain rfl:i=DL.length:=by omega
    rw [List.drop_length] at hpr;have hR:=Z4.mk hRi hKi hri hpr;clear hRi hKi hri hpr hIi hxi hm hn2;go_wp2_with fail
    go_ret;have hb:=H1.o3.trans (H2.o1.mono H1.o3.size);rw [hR.o4];refine ⟨rfl,ρi,hR.o1,(KeepR.of (ρ:=ρ) hb).same hR.o2,fun b hb2=>hR.o3 b (by have:=hb.size;omega)⟩
end Go.Proofs.YthiochcpmfkgcaaGreatDoor.Gl
