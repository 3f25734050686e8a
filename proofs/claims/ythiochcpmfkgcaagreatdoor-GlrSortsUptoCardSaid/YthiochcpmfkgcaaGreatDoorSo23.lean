/- Walks and plain laws that the last text stands on: GlSortsA, GlSortsB, GlSortsC, GlJ, GlPartA, GlF, GlK, GlN, GlV, GlX, GlL, GlP, GlQ, GlY, GlLawA, GlRunA, GlPartB, GlFew, GlSame, GlArr, GlRefA. -/
import Derived.Test.YthiochcpmfkgcaaGreatDoorSo21
set_option linter.unusedVariables false
set_option linter.unusedSimpArgs false
set_option maxRecDepth 100000
set_option maxHeartbeats 16000000
namespace Go.Proofs.YthiochcpmfkgcaaGreatDoor.Gl
open Go Go.RowKit Go.Proofs Go.Maps Go.WideMaps Mx Tb
def soR (rb:Nat) (tv:Value) (n s gv:Int) (gb:Bool) (j:Nat) (v:Value) (W:World):Prop :=
 match j with
 | 0=>v=.pointer (some ⟨rb,0,none⟩)
 | 1=>v=.pointer (some ⟨rb,0,none⟩)
 | 2=>v=.pointer (some ⟨rb,5,none⟩)
 | 3=>v=tv
 | 4=>v=.int .i64 n
 | 5=>v=.int .i64 s
 | 6=>v=.tuple #[.int .i64 gv,.bool gb]
 | 7=>v=.tuple #[.int .i64 gv,.bool gb]
 | 8=>v=.int .i64 gv
 | 9=>v=.bool gb
 | _=>True
theorem sorts1_any (g:Gr) (B:Nat) (tp:Option Addr) (sm:List SM) (rb q sb:Nat) (n s:Int) (w:World) (hT:TabP g B (.pointer tp) sm w) (hE:(stAt sm n).edges.length<=4000) (h1:w.cell? ⟨q,0,none⟩=some (.pointer (some ⟨rb,0,none⟩))) (h2:w.cell? ⟨rb,5,none⟩=some (.pointer tp)) (h3:w.cell? ⟨sb,0,none⟩=some (.int .i64 s)) :
  Calls Tryz.prog 44 #[.int .i64 n,.pointer (some ⟨q,0,none⟩),.pointer (some ⟨sb,0,none⟩)] w fun e w'=>e=.returned (.bool (toF (isSort s) (stAt sm n).edges).2) /\ Below w.heap.size w w':=by
 obtain ⟨G,hG0⟩:=eX (toF (isSort s) (stAt sm n).edges);obtain ⟨gv,gb⟩:=G;rw [hG0];have hup:∀ W,Below w.drew.heap.size w.drew W->Below w.heap.size w W:=fun W h=>(show Below w.heap.size w w.drew from (bR _ _).drew).trans h;have hcc:∀ (p:Addr) (u:Value),w.cell? p=some u->∀ W,Below w.drew.heap.size w.drew W->W.cell? p=some u:=fun p u k W h=>((hup W h).cell (wL _ _ k)).trans k;have HC:=Hd (show ∀ W,Below w.drew.heap.size w.drew W->W.cell? ⟨q,0,none⟩=some (.pointer (some ⟨rb,0,none⟩)) /\ W.cell? ⟨rb,5,none⟩=some (.pointer tp) /\ W.cell? ⟨sb,0,none⟩=some (.int .i64 s) from fun W h=>⟨hcc _ _ h1 W h,hcc _ _ h2 W h,hcc _ _ h3 W h⟩)
 have hgo:∀ W,Below w.drew.heap.size w.drew W->Calls Tryz.prog 45 #[.pointer tp,.int .i64 n,.int .i64 s] W fun e w'=>e=.returned (.tuple #[.int .i64 gv,.bool gb]) /\ Below W.heap.size W w':=fun W h=>by
  have k:=goto_any g B (.pointer tp) sm n s W (hT.below (hup W h)) (by omega);rw [hG0] at k;exact k
 have HGO:=Hd hgo;have HUP:=Hd hup;obtain ⟨tv,htv⟩:=eX (Value.pointer tp);rw [htv] at HC HGO;clear hT hE h1 h2 h3 hG0 hup hcc hgo htv;go_enter Tryz.func44,Tryz.ntmps44;go_upto_region 1 with fail
 refine wp_region_concF 10 9 (soR rb tv n s gv gb) (fun A W=>Below A.heap.size A W) (by kernel_rfl) (by kernel_rfl) (by kernel_rfl) (by kernel_rfl) (bR _ _) (fun h k=>h.trans (k.mono h.size)) ?_ (by intro c a v w h;exact h) ?_ ?_
 ·simp only [List.take_succ_cons,List.take_zero];refine ⟨?_,?_,?_,?_,?_,?_,?_,?_,?_,?_,trivial⟩
  all_goals intro L T W hG hJ hLs hLi dq fq vq K hK
  all_goals try have zk:=fun v=>hK v W (bR _ W) (fun j u _ _ _ h=>h) trivial
  all_goals try have zv:=fun i h=>vq ⟨i,.data⟩ h rfl
  ·have h1:=fq 1 (by decide);simp at h1;obtain ⟨c0,c1,c2⟩:=HC.out W hG;go_simp;exact zk _ rfl
  ·have h1:=zv 0 (by simp) 8 rfl;simp [soR] at h1;go_simp;exact zk _ rfl
  ·have h1:=zv 1 (by simp) 9 rfl;simp [soR] at h1;go_simp;exact zk _ rfl
  ·have h1:=zv 2 (by simp) 10 rfl;simp [soR] at h1;obtain ⟨c0,c1,c2⟩:=HC.out W hG;go_simp;exact zk _ rfl
  ·have h1:=fq 0 (by decide);simp at h1;go_simp;exact zk _ rfl
  ·have h1:=fq 2 (by decide);simp at h1;obtain ⟨c0,c1,c2⟩:=HC.out W hG;go_simp;exact zk _ rfl
  ·have h1:=zv 3 (by simp) 11 rfl;have h2:=zv 4 (by simp) 12 rfl;have h3:=zv 5 (by simp) 13 rfl;simp [soR] at h1 h2 h3;go_simp;refine (HGO.out W hG).mono ?_;rintro e W2 ⟨rfl,hb2⟩;exact hK _ _ hb2 (fun j u _ _ _ h=>h) trivial rfl
  ·have h1:=zv 6 (by simp) 14 rfl;simp [soR] at h1;go_simp;exact zk _ rfl
  ·have h1:=zv 7 (by simp) 7 rfl;simp [soR] at h1;go_simp;exact zk _ rfl
  ·have h1:=zv 7 (by simp) 7 rfl;simp [soR] at h1;go_simp;exact zk _ rfl
 ·intro os T W hos hv;have h6:=hv ⟨7,.data⟩ (by simp at hos;subst hos;simp) rfl 7 rfl;simp only [soR] at h6;simp at hos;subst hos;refine ⟨.bool gb,.inl ⟨rfl,fun w=>?_⟩,rfl⟩;simp [execOp,go_sem,h6]
 ·intro f9 w9 hG hR;have e8:=hR 8 15 (by decide) rfl;have e9:=hR 9 16 (by decide) rfl;simp only [concDsts,qZ];simp only [soR] at e8 e9;rw [e8,e9];clear e8 e9 hR;generalize f9 8=v8;generalize f9 9=v9;generalize f9 10=v10;generalize f9 11=v11;generalize f9 12=v12;generalize f9 13=v13;generalize f9 14=v14;generalize f9 7=v7;clear f9;have hb9:=HUP.out w9 hG;have HB:=Hd hb9;clear hb9 hG HC HGO;go_wp2_with fail
  go_ret;exact ⟨rfl,HB.out⟩
def hasG (sm:List SM) (s:Int) (L:List Nat):Bool:=L.any fun n=>(toF (isSort s) (stAt sm (n:Int)).edges).2
theorem sindex_any (g:Gr) (B:Nat) (tp:Option Addr) (sm:List SM) (rb q sb:Nat) (s:Int) (L:List Nat) (hL:L.length<=4398046511104) (v:Value) (w:World) (hv:SliceK (fun _=>True) encN 1 w v L) (hT:TabP g B (.pointer tp) sm w) (hE:∀ n,(stAt sm n).edges.length<=4000) (h1:w.cell? ⟨q,0,none⟩=some (.pointer (some ⟨rb,0,none⟩))) (h2:w.cell? ⟨rb,5,none⟩=some (.pointer tp)) (h3:w.cell? ⟨sb,0,none⟩=some (.int .i64 s)) :
  Calls Tryz.prog 66 #[v,.func (.func 44) #[] #[.pointer (some ⟨q,0,none⟩),.pointer (some ⟨sb,0,none⟩)]] w fun e w'=>∃ r:Int,e=.returned (.int .i64 r) /\ (0<=r↔hasG sm s L=true) /\ Below w.heap.size w w':=by
 obtain ⟨sa,sc,rfl,hsr⟩:=read_cells hv;have hcl:∀ W,Below w.heap.size w W->∀ n:Nat,Calls Tryz.prog 44 #[.int .i64 n,.pointer (some ⟨q,0,none⟩),.pointer (some ⟨sb,0,none⟩)] W fun e w'=>e=.returned (.bool (toF (isSort s) (stAt sm (n:Int)).edges).2) /\ Below W.heap.size W w':=fun W hW n =>
  sorts1_any g B tp sm rb q sb n s W (hT.below hW) (hE _) ((hW.cell (wL _ _ h1)).trans h1) ((hW.cell (wL _ _ h2)).trans h2) ((hW.cell (wL _ _ h3)).trans h3)
 obtain ⟨pr,hpr⟩:∃ pr:Nat->Bool,(fun n:Nat=>(toF (isSort s) (stAt sm (n:Int)).edges).2)=pr:=⟨_,rfl⟩
 have hcl2:∀ W,Below w.heap.size w W->∀ n:Nat,Calls Tryz.prog 44 #[.int .i64 n,.pointer (some ⟨q,0,none⟩),.pointer (some ⟨sb,0,none⟩)] W fun e w'=>e=.returned (.bool (pr n)) /\ Below W.heap.size W w':=fun W hW n=>by
  have h:=hcl W hW n;rw [show (toF (isSort s) (stAt sm (n:Int)).edges).2=pr n from congrFun hpr n] at h;exact h
 have hany:hasG sm s L=L.any pr:=by unfold hasG;rw [hpr]
 obtain ⟨Z,hZ⟩:=eX (hasG sm s L);rw [hZ];rw [hZ] at hany;have HH:=Z3.mk hsr hcl2 hany;clear hsr hcl hcl2 hany hZ hpr hv hT hE h1 h2 h3;obtain ⟨N,hN⟩:=eX L.length;have HN:=Hd hN;rw [hN] at hL ⊢;clear hN;go_enter Tryz.func66,Tryz.ntmps66;go_wp2_with fail
 go_loopg [8] N (fun m v8 wr=>∃ i:Nat,i<=N /\ m=N - i /\ v8=.int .i64 i /\ Below w.heap.size w wr /\ ∀ n∈L.take i,pr n=false)
 case atStart=>exact ⟨0,by omega,rfl,rfl,bR _ _,by simp⟩
 case round =>
  obtain ⟨i,hi,hm,rfl,hb,hno⟩:=hrel
  by_cases hlt:i<N
  ·obtain ⟨x,hx⟩:∃ x,L[i]?=some x:=⟨_,gE (by rw [HN.out];exact hlt)⟩;obtain ⟨sg,so,rfl,hsr⟩:=HH.o1 (by rintro h;rw [h] at hx;simp at hx);have k0:=(hb.cell (wL _ _ (hsr i x hx))).trans (hsr i x hx);have hi0:(0:Int)<=i:=by omega
   have hi1:(i:Int)<N:=by omega
   obtain ⟨b,hpb⟩:=eX (pr x);have hc:=HH.o2 wr hb x;rw [hpb] at hc;have HR:=Z6.mk hm hb hno hx hpb hc;clear hm hb hno hx hpb hc hsr;go_wp2_with fail
   refine HR.o6.mono ?_;rintro e w2 ⟨rfl,hb2⟩;have HB:=Hd (HR.o2.trans (hb2.mono HR.o2.size));clear hb2 k0
   cases b with
   | true =>
    have hz:Z=true:=by
     rw [HH.o3,List.any_eq_true];exact ⟨x,gM HR.o4,HR.o5⟩
    have HZ:=Hd hz;clear hz;go_wp2_with fail
    go_ret;exact ⟨(i:Int),rfl,⟨fun _=>HZ.out,fun _=>by omega⟩,HB.out⟩
   | false =>
    go_wp2_with fail
    go_roundg (N - (i+1))
    case measure=>have:=HR.o1;omega
    case rel =>
     refine ⟨i+1,by omega,rfl,rfl,HB.out,fun n hn=>?_⟩;rw [List.take_add_one,HR.o4] at hn
     rcases List.mem_append.1 hn with hn | hn
     ·exact HR.o3 n hn
     ·simp at hn;subst hn;exact HR.o5
  ·obtain rfl:i=N:=by omega
   have hz:Z=false:=by
    rw [HH.o3,List.any_eq_false];intro n hn;rw [<- HN.out,List.take_length] at hno;rw [hno n hn]
    decide
   have HZ:=Z2.mk hz hb;clear hz hb hno hm;go_wp2_with fail
   go_ret;refine ⟨-1,rfl,⟨fun h=>absurd h (by decide),fun h=>?_⟩,HZ.o2⟩;rw [HZ.o1] at h
   cases h
theorem scontains_any (g:Gr) (B:Nat) (tp:Option Addr) (sm:List SM) (rb q sb:Nat) (s:Int) (L:List Nat) (hL:L.length<=4398046511104) (v:Value) (w:World) (hv:SliceK (fun _=>True) encN 1 w v L) (hT:TabP g B (.pointer tp) sm w) (hE:∀ n,(stAt sm n).edges.length<=4000) (h1:w.cell? ⟨q,0,none⟩=some (.pointer (some ⟨rb,0,none⟩))) (h2:w.cell? ⟨rb,5,none⟩=some (.pointer tp)) (h3:w.cell? ⟨sb,0,none⟩=some (.int .i64 s)) :
  Calls Tryz.prog 43 #[v,.func (.func 44) #[] #[.pointer (some ⟨q,0,none⟩),.pointer (some ⟨sb,0,none⟩)]] w fun e w'=>e=.returned (.bool (hasG sm s L)) /\ Below w.heap.size w w':=by
 have hi:=sindex_any g B tp sm rb q sb s L hL v w hv hT hE h1 h2 h3;obtain ⟨sa,sc,rfl,_⟩:=read_cells hv;have HI:=Hd hi;clear hi hv hT hE h1 h2 h3;go_enter Tryz.func43,Tryz.ntmps43;go_wp2_with fail
 refine HI.out.mono ?_;rintro e w2 ⟨r,rfl,hr,hb⟩;have hd:decide (0<=r)=hasG sm s L:=by
  by_cases h:0<=r
  ·rw [decide_eq_true h,hr.1 h]
  ·rw [decide_eq_false h]
   cases hc:hasG sm s L with
   | false=>rfl
   | true=>exact absurd (hr.2 hc) h
 have HD:=Z2.mk hd hb;clear hd hb hr;go_wp2_with fail
 go_ret;exact ⟨by rw [<- HD.o1];first | rfl | simp,HD.o2⟩
def sortsF (g:Gr) (txt:List UInt8) (bud:Int):Int × List Nat :=
 match wholeF g txt bud with
 | (n,none)=>(n,[])
 | (_,some (l,r))=>(0,(List.range g.sorts.length).filter fun s=>(rowF r txt.length).any fun n=>((tabF g l).goto_ n (s:Int)).isSome)
theorem toF_goto (l:List St) (g:Gr) (n:Nat) (s:Int):(toF (isSort s) (edgesAt l n)).2=((tabF g l).goto_ n s).isSome:=by
 unfold toF tabF;show (match (edgesAt l n).find? (fun (e:Sy × Nat)=>bySort s e.1) with | some e=>((e.2:Int),true) | none=>(0,false)).2=(((edgesAt l n).find? fun (e:Sy × Nat)=>bySort s e.1).map (·.2)).isSome
 cases (edgesAt l n).find? (fun (e:Sy × Nat)=>bySort s e.1) <;> rfl
theorem sres (tmps:Array Value) (w:World) (v:Value) (n:Int) (h6:tmps.getD 6 undef=v) (h7:tmps.getD 7 undef=.int .i64 n) :
  (results Tryz.f20 tmps).run Tryz.prog w=.ok (.tuple #[v,.int .i64 n]) w:=by
 simp at h6 h7;simp [results,Tryz.results20,h6,h7,go_sem]
theorem cells_newS (w:World) (t:TypeId) (cs:Array Value):∀ j u,cs.toList[j]?=some u->(w.alloc (.cells cs t)).cell? ((⟨w.heap.size,0,none⟩:Addr).add j)=some u:=by
 intro j u hj;have hb:Blk (w.alloc (.cells cs t)) w.heap.size t cs:=Blk.new w _ _;rw [addr_add_,Nat.zero_add,hb.cell j]
 simpa using hj
theorem gsorts_any (g:Gr) (p:RP) (bud:Int) (w:World) (h:GrW g p w) (hL:Lim g p.txt bud) :
  Calls Tryz.prog 20 #[.agg #[p.sv,p.pv,.int .i64 p.st,p.fv,p.lv],.string ⟨p.txt.toArray⟩,.int .i64 bud] w fun e w'=>∃ v,e=.returned (.tuple #[v,.int .i64 (sortsF g p.txt bud).1]) /\ w'.ownsRow w.heap.size 3 1 v (sortsF g p.txt bud).2.length (flatK encN (sortsF g p.txt bud).2) /\ Below w.heap.size w w':=by
 obtain ⟨sa,sc,hsv⟩:=slice_shape h.sorts;have HH:=Z3.mk h hL hsv;rw [hsv];clear h hL;obtain ⟨tb,htb⟩:∃ tb:ByteArray,(⟨p.txt.toArray⟩:ByteArray)=tb:=⟨_,rfl⟩;have htz:tb.size=p.txt.length:=by rw [<- htb,ba_len]
 have HTB:=Z2.mk htb htz;rw [htb];clear htb;go_enter Tryz.func20,Tryz.ntmps20;go_upto_region 1 with fail
 have hGB:Blk (w.alloc (.cells #[.slice sa g.sorts.length sc,p.pv,.int .i64 p.st,p.fv,p.lv] 27)) w.heap.size 27 #[.slice sa g.sorts.length sc,p.pv,.int .i64 p.st,p.fv,p.lv]:=Blk.new _ _ _;have hb0:Below w.heap.size w (w.alloc (.cells #[.slice sa g.sorts.length sc,p.pv,.int .i64 p.st,p.fv,p.lv] 27)):=(bR _ _).alloc (nR _) _;generalize (w.alloc (.cells #[.slice sa g.sorts.length sc,p.pv,.int .i64 p.st,p.fv,p.lv] 27))=w1 at hGB hb0 ⊢;obtain ⟨nb,hnb⟩:=eX w.heap.size;rw [hnb] at hGB ⊢;obtain ⟨g0,g1,g2,g3,g4,gf⟩:=gfacts5 hGB;have hwh:=whole_any g p bud w1 (HH.o1.below hb0) HH.o2;rw [HTB.o1,hsv] at hwh;have H1:=Z4.mk hGB hb0 hnb hwh;clear hGB hb0 hwh hnb hsv;go_wp2_with fail
 refine H1.o4.mono ?_;rintro e w2 hW;obtain ⟨qa,hqa⟩:=eX (wholeF g p.txt bud);obtain ⟨n,o⟩:=qa;rw [hqa] at hW
 cases o with
 | none =>
  obtain ⟨rfl,hb2⟩:=hW;have hpre:sortsF g p.txt bud=(n,[]):=by unfold sortsF;rw [hqa]
  have hn:=whole_err hqa;have H2:=Z2.mk hb2 hpre;clear hb2 hqa hpre g0 g1 g2 g3 g4 gf
  rcases hn with rfl | rfl | rfl | rfl
  all_goals
   go_wp2_with fail
   refine bodyPost_ret (sres _ _ _ _ (by rfl) (by rfl)) rfl ?_;rw [H2.o2];have hb3:=H1.o2.trans (H2.o1.mono H1.o2.size);exact ⟨_,rfl,World.ownsRow_nil _ _ _ _,hb3.alloc hb3.size _⟩
 | some v =>
  obtain ⟨l,r⟩:=v;obtain ⟨B,sm,tv,C,w0,ρ,hl,hc,hb2,hnx,rfl,hR⟩:=hW;obtain ⟨rfl,hc0,hlen,hmk,hbud,hgo⟩:=whole_ok hqa;have hb3:Below w1.heap.size w1 w2:=hb2.trans (hR.mem.low.mono hb2.size);have hal:p.txt.length<1048576:=by omega
  obtain ⟨ra,rc,hro,hrr,hrl⟩:=row_look hR.mem p.txt.length hal;have hbrl:C.br<w2.heap.size:=hR.mem.lt C.br (by rw [hR.mem.roles.br];simp);have hlook:∀ W:World,Below w2.heap.size w2 W->(Instr.lookup 74 (.map (some C.br)) (.int .i64 ((p.txt.length:Nat):Int)) false).run Tryz.prog W=.ok (.slice ra (rowN (rmOf r).nodes p.txt.length).length rc) W:=fun W hW=>hrl W (hW.block C.br hbrl)
  have b5:w2.cell? ⟨C.rb,5,none⟩=some tv:=hR.mem.box.cell 5;have b11:w2.cell? ⟨C.rb,11,none⟩=some (.map (some C.br)):=hR.mem.box.cell 11;obtain ⟨tp,htp⟩:∃ tp,tv=.pointer tp:=by
   have h:TabP g B tv sm w0:=hc.tab
   rcases h with ⟨h,_⟩ | ⟨tb,h,_⟩ <;> exact ⟨_,h⟩
  subst htp;have hT:TabP g B (.pointer tp) sm w2:=TabP.below hc.tab hR.mem.low;have hE:∀ n,(stAt sm n).edges.length<=4000:=fun n=>by
   unfold stAt
   split
   ·cases hs:sm[n.toNat]? with
    | none=>simp [noSM,freshSM]
    | some s =>
     have:=gedges (HH.o1.good hc0) (Tb.makeF_law hmk) (s:=toSt s) (by rw [hl];exact List.mem_map.2 ⟨s,gM hs,rfl⟩);show s.edges.length<=4000;have h2:s.edges.length=(toSt s).edges.length:=rfl;omega
   ·simp [noSM,freshSM]
  obtain ⟨L,hL⟩:=eX (rowN (rmOf r).nodes p.txt.length);have hLF:rowF r p.txt.length=L:=hL;have hLL:L.length<=4398046511104:=by
   rw [<- hL];unfold rowN;rw [List.length_map];exact Nat.le_trans (List.length_filter_le _ _) hR.mem.mn
  rw [hL] at hlook hro;have hSL:SliceK (fun _=>True) encN 1 w2 (.slice ra L.length rc) L:=(own_sliceK encN_len hro).imp fun _ _ _=>trivial
  have hNS:=hSL;have hpre:sortsF g p.txt bud=(0,(List.range g.sorts.length).filter fun (s:Nat)=>hasG sm (s:Int) L):=by
   unfold sortsF;rw [hqa];simp only [hLF];congr 1;refine List.filter_congr fun s _=>?_;unfold hasG;congr 1;funext n;rw [<- toF_goto,hl,tt_edges]
  have hns:g.sorts.length<=1000:=(HH.o1.good hc0).sorts;rw [<- htz] at hlook;obtain ⟨R0,hR0⟩:∃ R0:Value,Value.pointer (some ⟨C.rb,0,none⟩)=R0:=⟨_,rfl⟩;obtain ⟨NS,hNSd⟩:=eX g.sorts.length;have HNS:=Hd hNSd;have H2:=Z10.mk hb3 hpre hT hE hLL hSL b5 b11 hlook hns;have hb4:Below w.heap.size w w2:=H1.o2.trans (H2.o1.mono H1.o2.size);have hG2:=H1.o1.below hb3 H1.o1.lt;rw [hNSd] at hG2 ⊢;clear hb3 hpre hT hE hLL hSL b5 b11 hlook hL hLF hl hc hb2 hnx hR hc0 hlen hmk hbud hgo hal hro hrr hrl hbrl hqa hNS hNSd hns htz hR0 g0 g1 g2 g3 g4 gf;go_upto_region 2 with fail
  have hb5:Below w.heap.size w (w2.alloc (.cells #[.pointer (some ⟨C.rb,0,none⟩)] 66)):=hb4.alloc hb4.size _;have hb6:Below w2.heap.size w2 (w2.alloc (.cells #[.pointer (some ⟨C.rb,0,none⟩)] 66)):=(bR _ _).alloc (nR _) _;have hQB:Blk (w2.alloc (.cells #[.pointer (some ⟨C.rb,0,none⟩)] 66)) w2.heap.size 66 #[.pointer (some ⟨C.rb,0,none⟩)]:=Blk.new _ _ _;have hG3:=hG2.below hb6 hG2.lt;obtain ⟨q,hq⟩:=eX w2.heap.size;rw [hq] at hQB ⊢;generalize (w2.alloc (.cells #[.pointer (some ⟨C.rb,0,none⟩)] 66))=w3 at hb5 hb6 hQB hG3 ⊢;obtain ⟨g0,g1,g2,g3,g4,gf⟩:=gfacts5 hG3;have H3:=Z4.mk hb5 hb6 hQB hq;clear hb4 hb5 hb6 hQB hG2 hG3 hq;go_upto_region 6 with fail
  clear g0 g1 g2 g3 g4 gf
  go_loopg [10,25] NS (fun m v10 v25 wr=>∃ (i:Nat),i<=NS /\ m=NS - i /\ v25=.int .i64 i /\ wr.ownsRow w3.heap.size 3 1 v10 ((List.range i).filter fun (s:Nat)=>hasG sm (s:Int) L).length (flatK encN ((List.range i).filter fun (s:Nat)=>hasG sm (s:Int) L)) /\ Below w3.heap.size w3 wr)
  case atStart=>exact ⟨0,by omega,rfl,rfl,World.ownsRow_nil _ _ _ _,bR _ _⟩
  case round =>
   obtain ⟨i,hi,hm,rfl,hown,hbr⟩:=hrel;obtain ⟨S,hS⟩:∃ S,((List.range i).filter fun (s:Nat)=>hasG sm (s:Int) L)=S:=⟨_,rfl⟩;rw [hS] at hown;have hb2r:Below w2.heap.size w2 wr:=H3.o2.trans (hbr.mono H3.o2.size);have hbw:Below w.heap.size w wr:=H3.o1.trans (hbr.mono H3.o1.size)
   by_cases hlt:i<NS
   ·have hns:=H2.o10;have hns2:=HNS.out;have hi0:(0:Int)<=i:=by omega
    have hi1:(i:Int)<NS:=by omega
    have HA:=Z6.mk hown hb2r hbw hm hS hbr;have hq0:wr.cell? ⟨q,0,none⟩=some (.pointer (some ⟨C.rb,0,none⟩)):=(hbr.cell H3.o3.lt).trans (H3.o3.cell 0);have hb11:=(hb2r.cell (wL _ _ H2.o8)).trans H2.o8;clear hown hb2r hbw hm hS hbr;go_upto_region 8 with fail
    have hb7:Below wr.heap.size wr (wr.alloc (.cells #[.int .i64 i] 3)):=(bR _ _).alloc (nR _) _;have hSB:Blk (wr.alloc (.cells #[.int .i64 i] 3)) wr.heap.size 3 #[.int .i64 i]:=Blk.new _ _ _;obtain ⟨sb,hsb⟩:=eX wr.heap.size;rw [hsb] at hSB ⊢;generalize (wr.alloc (.cells #[.int .i64 i] 3))=w4 at hb7 hSB ⊢;have hb8:=HA.o2.trans (hb7.mono HA.o2.size);have hq1:=(hb7.cell (wL _ _ hq0)).trans hq0;have hb12:=(hb7.cell (wL _ _ hb11)).trans hb11;have hlk:=H2.o9 w4 hb8;have hb5:=(hb8.cell (wL _ _ H2.o7)).trans H2.o7;have hsc:=scontains_any g B tp sm C.rb q sb (i:Int) L H2.o5 _ w4 (H2.o6.all hb8) (H2.o3.below hb8) H2.o4 hq1 hb5 (hSB.cell 0);obtain ⟨b,hb⟩:=eX (hasG sm (i:Int) L);rw [hb] at hsc;have H4:=Z6.mk hSB hb7 hb8 hsb hb hsc;clear hSB hb7 hb8 hsb hb hsc hq0 hb11 hb5;go_wp2_with fail
    refine H4.o6.mono ?_;rintro e w5 ⟨rfl,hb9⟩;have hs5:=(hb9.cell H4.o1.lt).trans (H4.o1.cell 0);have hb10:Below wr.heap.size wr w5:=H4.o2.trans (hb9.mono H4.o2.size);have H5:=Hd hb10;clear hb9 hb10 hq1 hb12 hlk
    cases b with
    | false =>
     go_wp2_with fail
     go_roundg (NS - (i+1))
     case measure=>have h1:=HA.o4;omega
     case rel =>
      refine ⟨i+1,by omega,rfl,rfl,?_,HA.o6.trans (H5.out.mono HA.o6.size)⟩;rw [List.range_succ,List.filter_append,HA.o5,List.filter_cons_of_neg (by rw [H4.o5];decide)]
      simpa using Mx.row_below HA.o1 H5.out
    | true =>
     obtain ⟨i0,hi9,hz0,hz1,hz2⟩:=info_parts infoIntG;obtain ⟨SL,hSL⟩:=eX S.length;have hSLn:SL<=NS:=by
      have h1:=HA.o5;rw [<- hSL,<- h1];refine Nat.le_trans (List.length_filter_le _ _) ?_;rw [List.length_range];omega
     have hro5:=Mx.row_below HA.o1 H5.out;have hb35:=HA.o6.trans (H5.out.mono HA.o6.size);have hsz5:=hb35.size;rw [hSL] at hro5;have HR:=Z4.mk hro5 hSL hSLn hb35;clear hro5 hSL hb35;go_wp2_with (at_builtin;go_loud (refine wpList_append_ownF _ rfl _ _ 57 rfl w3.heap.size 3 i0 (.int .i64 0) 1 8 Tryz.underlying57 hi9 hz0 hz1 hz2 rfl (by decide) _ SL _ rfl (HR.o1.alloc _) ⟨w5.heap.size,0,none⟩ 1 1 [.int .i64 i] rfl rfl ?c1 ?c2 ?c3 ?c4 ?c5 ?_))
     case c1=>exact cells_newS w5 _ _
     case c2=>first | (intro u hu;simp at hu;subst hu;rfl) | rfl
     case c3=>unfold maxLen;omega
     case c4=>omega
     case c5=>first | (simp;omega) | omega
     intro v' w8 hown8 hg8 hfr8;have hb8:=(HR.o4.alloc hsz5 (.cells #[.int .i64 i] 3)).grown hg8 (by simp;omega) (fun b hb=>(HR.o1.lt b hb).1);have ez:flatK encN S++[.int .i64 i]=flatK encN (S++[i]):=by rw [<- flatK_snoc];rfl
     rw [ez] at hown8;have S8:=Z2.mk hown8 hb8;clear hown8 hg8 hfr8 hb8 hi9 hz0 hz1 hz2 ez;go_wp2_with fail
     go_roundg (NS - (i+1))
     case measure=>have h1:=HA.o4;omega
     case rel =>
      refine ⟨i+1,by omega,rfl,rfl,?_,S8.o2⟩;rw [List.range_succ,List.filter_append,HA.o5,List.filter_cons_of_pos (by rw [H4.o5]),List.length_append];rw [<- HR.o2] at S8;exact S8.o1
   ·obtain rfl:i=NS:=by omega
    have hpre:=H2.o2;rw [HNS.out,hS] at hpre;have HF:=Z3.mk hown hbw hpre;clear hown hbw hpre hb2r hbr hS hm;go_wp2_with fail
    refine bodyPost_ret (sres _ _ _ _ (by rfl) (by rfl)) rfl ?_;rw [HF.o3];exact ⟨_,rfl,own_low HF.o1 H3.o1.size,HF.o2⟩
end Go.Proofs.YthiochcpmfkgcaaGreatDoor.Gl
/-
  PLAIN LAWS of package glr: runs with other budgets,runs over beginnings.
-/
namespace Go.Proofs.YthiochcpmfkgcaaGreatDoor.Gl
def stepsF (r:Rn):Nat:=r.edges.length+r.alts.length
structure Ended (T:Tab) (w:List UInt8) (r:Rn):Prop where
 nd:r.nodes.Nodup
 ed:r.edges.Nodup
 ad:r.alts.Nodup
 nodes:∀ x,x∈r.nodes↔LN T w x
 edges:∀ x y,(x,y)∈r.edges↔LE T w x y
 alts:∀ a,a∈r.alts↔LA T w a
theorem ended {T:Tab} {w:List UInt8} {B:Nat} {r:Rn} (h:goneF T w B=.ok r):Ended T w r /\ r.left+stepsF r=B:=by
 have:=goneF_law T w B;rw [h] at this;obtain ⟨h1,h2,h3,h4,h5,h6,h7,_⟩:=this;exact ⟨⟨h1,h2,h3,h5,h6,h7⟩,by unfold stepsF;omega⟩
theorem above {T:Tab} {w:List UInt8} {B:Nat} {r:Rn} (h:goneF T w B=.stop r):Above T w B:=by
 have:=goneF_law T w B
 rwa [h] at this
open Go Go.RowKit Go.Proofs Go.Maps Go.WideMaps Mx Tb
theorem whole_made {g:Gr} {txt:List UInt8} {bud:Int} (hc:chkN g=0) (hl:txt.length<=4096) (hb:0<=bud) :
  (makeF g=none /\ wholeF g txt bud=(3,none))∨∃ l,makeF g=some l /\ (wholeF g txt bud=(200,none)∨∃ r,wholeF g txt bud=(0,some (l,r))):=by
 cases hm:makeF g with
 | none =>
  refine .inl ⟨rfl,?_⟩;unfold wholeF askF;rw [if_pos hc,if_neg (by omega),hm]
 | some l =>
  refine .inr ⟨l,rfl,?_⟩
  cases hg:goneF (tabF g l) txt bud.toNat with
  | stop r =>
   refine .inl ?_;unfold wholeF askF;rw [if_pos hc,if_neg (by omega),hm];dsimp only;rw [if_neg (by omega),hg]
  | ok r =>
   refine .inr ⟨r,?_⟩;unfold wholeF askF;rw [if_pos hc,if_neg (by omega),hm];dsimp only;rw [if_neg (by omega),hg]
end Go.Proofs.YthiochcpmfkgcaaGreatDoor.Gl
/-
  PLAIN LAWS of package glr: the run misses nothing: whatever the grammar derives it has;what comes next.
-/
namespace Go.Proofs.YthiochcpmfkgcaaGreatDoor.Gl
open Tb (Gr Sy It ofS aheadF rightOf itemOk ClosedS)
theorem lastOr_le {g:Gr} {D:Int->Nat->Nat->Prop} {w:List UInt8} (hD:∀ A i j,D A i j->i<=w.length->i<=j /\ j<=w.length):∀ {r:List Sy} {i:Nat} {cs:List Nat},CutsOk D w r i cs->i<=w.length->i<=lastOr i cs /\ lastOr i cs<=w.length
 | [],i,[],_,h=>⟨nR _,h⟩
 | [],_,_::_,k,_=>k.elim
 | _::_,_,[],k,_=>k.elim
 | s::r,i,c::cs,k,h=>by
  have hc:i<=c /\ c<=w.length:=by
   rcases k.1 with ⟨_,h1,b,h2,_⟩ | ⟨_,h1⟩
   ·have:=(gS.1 h2).1;omega
   ·exact hD _ _ _ h1 h
  have:=lastOr_le (g:=g) hD k.2 hc.2;rw [lastOr_cons];exact ⟨Nat.le_trans hc.1 this.1,this.2⟩
def Has (T:Tab) (I:Nat->It->Prop) (g:Gr) (w:List UInt8) (A:Int) (i j:Nat):Prop :=
 i<=w.length->(i<=j /\ j<=w.length) /\ ∀ s,LN T w (s,i)->(∃ x,I s x /\ SortAt g x A)->∃ t,T.goto_ s A=some t /\ LE T w (t,j) (s,i)
theorem walk_to {g:Gr} {T:Tab} {I:Nat->It->Prop} (hd:Dfa g T I) {w:List UInt8} {p s i:Nat} (hn:LN T w (s,i)) (hi:i<=w.length) (h0:I s (p,0)) :
  ∀ (k:Nat) (cs:List Nat),k<=(rightOf g p).length->CutsOk (Has T I g w) w ((rightOf g p).take k) i cs ->
  ∃ u,LN T w (u,lastOr i cs) /\ I u (p,k) /\ Way (LE T w) k (u,lastOr i cs) (s,i) cs
 | 0,cs,_,h=>by
  cases cs with
  | cons c cs=>simp [CutsOk] at h
  | nil=>exact ⟨s,hn,h0,rfl,rfl⟩
 | k+1,cs,hk,h=>by
  have hy:aheadF g (p,k)=some ((rightOf g p)[k]):=gE (show k<(rightOf g p).length by omega);rw [show (rightOf g p).take (k+1)=_ from take_succ (x:=(p,k)) hy] at h;obtain ⟨ds,c,rfl,h1,h2⟩:=cuts_snoc.1 h;obtain ⟨u,u1,u2,u3⟩:=walk_to hd hn hi h0 k ds (by omega) h1;have hle:=lastOr_le (g:=g) (fun A i j (q:Has T I g w A i j) hi=>(q hi).1) h1 hi
  rw [lastOr_snoc];have hstep:∃ t,LE T w (t,c) (u,lastOr i ds) /\ I t (p,k+1):=by
   rcases h2 with ⟨q1,q2,b,q3,q4⟩ | ⟨q1,q2⟩
   ·obtain ⟨t,ht⟩:=hd.shift u (p,k) b u2 ⟨_,hy,q1,q4⟩;refine ⟨t,by rw [q2];exact (least_closed T w).shift u _ b t u1 q3 ht,?_⟩;exact ((hd.shifts u b t ht).2 _).2 fun S e1 e2=>e1 _ ⟨(p,k),u2,⟨_,hy,q1,q4⟩,rfl⟩
   ·obtain ⟨t,ht,hE⟩:=(q2 hle.2).2 u u1 ⟨(p,k),u2,_,hy,q1,rfl⟩;exact ⟨t,hE,((hd.gotos u _ t ht).2 _).2 fun S e1 e2=>e1 _ ⟨(p,k),u2,⟨_,hy,q1,rfl⟩,rfl⟩⟩
  obtain ⟨t,t1,t2⟩:=hstep;exact ⟨t,(least_closed T w).node _ _ t1,t2,(u,lastOr i ds),ds,t1,u3,rfl⟩
theorem has_closed {g:Gr} {T:Tab} {I:Nat->It->Prop} (hd:Dfa g T I) (w:List UInt8):DClosed g w (Has T I g w):=by
 intro A p i cs hi hp hc _;refine ⟨lastOr_le (g:=g) (fun A i j (q:Has T I g w A i j) hi=>(q hi).1) hc hi,fun s hs ⟨x,hx,y,hy,hk,hA⟩=>?_⟩;have hle:=lastOr_le (g:=g) (fun A i j (q:Has T I g w A i j) hi=>(q hi).1) hc hi;have h0:I s (p,0):=hd.closed s x hx y hy hk p (by rw [hA];exact hp);obtain ⟨u,u1,u2,u3⟩:=walk_to hd hs hi h0 (rightOf g p).length cs (nR _) (by rw [List.take_length];exact hc);obtain ⟨t,ht⟩:=hd.goto_ s x A hx ⟨y,hy,hk,hA⟩;refine ⟨t,ht,?_⟩;have hl:=hd.left A p hp;refine (least_closed T w).goto_ u (lastOr i cs) p (s,i) cs t u1 hle.2 ((hd.done u p).2 u2) ?_ (by rw [hl];exact ht);rw [hd.len];exact u3
theorem der_has {g:Gr} {T:Tab} {I:Nat->It->Prop} (hd:Dfa g T I) (w:List UInt8) {A:Int} {i j:Nat} (h:Der g w A i j):Has T I g w A i j:=h _ (has_closed hd w)
theorem der_le {g:Gr} {w:List UInt8} {A:Int} {i j:Nat} (h:Der g w A i j) (hi:i<=w.length):i<=j /\ j<=w.length:=by
 refine h (fun A i j=>i<=w.length->i<=j /\ j<=w.length) (fun A p i cs hi hp hc _=>?_) hi;exact lastOr_le (g:=g) (fun A i j q hi=>q hi) hc hi
theorem at_node {g:Gr} {T:Tab} {I:Nat->It->Prop} (hd:Dfa g T I) (w:List UInt8) {A:Int} {i:Nat} (h:At g w A i):∃ s,LN T w (s,i) /\ ∀ p∈ofS g A,I s (p,0):=by
 refine h (fun A i=>∃ s,LN T w (s,i) /\ ∀ p∈ofS g A,I s (p,0)) ⟨⟨0,(least_closed T w).start,fun p hp=>(hd.start _).2 fun S e1 e2=>e1 _ (List.mem_map.2 ⟨p,hp,rfl⟩)⟩,?_⟩;intro A p i k cs y ⟨s,s1,s2⟩ hp hy hk hc;have hkl:k<(rightOf g p).length:=(gS.1 hy).1;obtain ⟨u,u1,u2,u3⟩:=walk_to hd s1 ((sound hd w).1 _ s1).1 (s2 p hp) k cs (by omega) (hc.mono fun _ _ _ q=>der_has hd w q);exact ⟨u,u1,fun q hq=>hd.closed u (p,k) u2 y hy hk q hq⟩
def Stands (g:Gr) (w:List UInt8) (p k j:Nat):Prop:=k<=(rightOf g p).length /\ ∃ A i cs,At g w A i /\ p∈ofS g A /\ CutsOk (Der g w) w ((rightOf g p).take k) i cs /\ lastOr i cs=j
theorem stands_iff {g:Gr} {T:Tab} {I:Nat->It->Prop} (hd:Dfa g T I) (w:List UInt8) (p k j:Nat):(∃ s,LN T w (s,j) /\ I s (p,k))↔Stands g w p k j:=by
 constructor
 ·rintro ⟨s,h1,h2⟩;obtain ⟨h3,i,cs,h4,h5,h6⟩:=((sound hd w).1 _ h1).2 _ h2;have hk:=hd.ok _ _ h2;unfold itemOk at hk;simp only [Bool.and_eq_true,decide_eq_true_eq] at hk;exact ⟨hk.2,_,i,cs,h4,h3,h5,h6⟩
 ·rintro ⟨hk,A,i,cs,h1,h2,h3,h4⟩;obtain ⟨s,s1,s2⟩:=at_node hd w h1;obtain ⟨u,u1,u2,u3⟩:=walk_to hd s1 ((sound hd w).1 _ s1).1 (s2 p h2) k cs hk (h3.mono fun _ _ _ q=>der_has hd w q);rw [h4] at u1;exact ⟨u,u1,u2⟩
end Go.Proofs.YthiochcpmfkgcaaGreatDoor.Gl
/-
  PLAIN LAWS of package glr: which bytes,which sorts may come at a place.
-/
namespace Go.Proofs.YthiochcpmfkgcaaGreatDoor.Gl
open Tb (Gr Sy It St ofS aheadF rightOf itemOk ClosedS nextF nextF_bit)
theorem goto_iff {g:Gr} {T:Tab} {I:Nat->It->Prop} (hd:Dfa g T I) (s:Nat) (A:Int):(∃ t,T.goto_ s A=some t)↔∃ x,I s x /\ SortAt g x A :=
 ⟨fun ⟨t,h⟩=>(hd.gotos s A t h).1,fun ⟨x,h1,h2⟩=>hd.goto_ s x A h1 h2⟩
theorem sorts_iff {g:Gr} {T:Tab} {I:Nat->It->Prop} (hd:Dfa g T I) (w:List UInt8) (j:Nat) (A:Int) :
  (∃ s t,LN T w (s,j) /\ T.goto_ s A=some t)↔∃ p k,Stands g w p k j /\ SortAt g (p,k) A:=by
 constructor
 ·rintro ⟨s,t,h1,h2⟩;obtain ⟨⟨p,k⟩,h3,h4⟩:=(goto_iff hd s A).1 ⟨t,h2⟩;exact ⟨p,k,(stands_iff hd w p k j).1 ⟨s,h1,h3⟩,h4⟩
 ·rintro ⟨p,k,h1,h2⟩;obtain ⟨s,h3,h4⟩:=(stands_iff hd w p k j).2 h1;obtain ⟨t,ht⟩:=(goto_iff hd s A).2 ⟨_,h4,h2⟩;exact ⟨s,t,h3,ht⟩
end Go.Proofs.YthiochcpmfkgcaaGreatDoor.Gl
/-
  PLAIN LAWS of the document's answer for glr: what symbols derive,by a table.
-/
namespace Go.Proofs.YthiochcpmfkgcaaGreatDoor.Gl
open Tb (Gr Sy It ofS aheadF rightOf)
abbrev Tbl:=Int->Nat->Nat->Bool
def spansF (t:Tbl) (w:List UInt8) (s:Sy) (i j:Nat):Bool :=
 if s.kind=0 then decide (j=i+1)&&(match w[i]? with | some b=>s.set.testBit b.toNat | none=>false) else t s.sort i j
def upF (i j:Nat):List Nat:=(List.range (j+1 - i)).map (i+·)
theorem upF_mem {i j m:Nat}:m∈upF i j↔i<=m /\ m<=j:=by
 unfold upF;simp only [List.mem_map,List.mem_range]
 constructor
 ·rintro ⟨a,h,rfl⟩;omega
 ·intro h;exact ⟨m - i,by omega,by omega⟩
def derivesF (t:Tbl) (w:List UInt8):List Sy->Nat->Nat->Bool
 | [],i,j=>decide (i=j)
 | s::r,i,j=>(upF i j).any fun m=>spansF t w s i m&&derivesF t w r m j
def tD (t:Tbl) (A:Int) (i j:Nat):Prop:=t A i j=true
theorem spansF_iff {t:Tbl} {w:List UInt8} {s:Sy} (hk:s.kind=0∨s.kind=1) {i j:Nat}:spansF t w s i j=true↔Spans (tD t) w s i j:=by
 unfold spansF Spans tD
 rcases hk with hk | hk
 ·rw [if_pos hk]
  cases hb:w[i]? with
  | none=>simp [hk]
  | some b=>simp [hk]
 ·rw [if_neg (by omega)];simp [hk]
theorem derivesF_iff {t:Tbl} {w:List UInt8} (ht:∀ A i j,t A i j=true->i<=j):∀ {r:List Sy} (hr:∀ s∈r,s.kind=0∨s.kind=1) {i j:Nat},derivesF t w r i j=true↔∃ cs,CutsOk (tD t) w r i cs /\ lastOr i cs=j
 | [],_,i,j=>by
  unfold derivesF;rw [decide_eq_true_eq]
  constructor
  ·rintro rfl;exact ⟨[],trivial,rfl⟩
  ·rintro ⟨cs,h1,h2⟩
   cases cs with
   | nil=>exact h2
   | cons c cs=>exact h1.elim
 | s::r,hr,i,j=>by
  unfold derivesF;rw [List.any_eq_true]
  constructor
  ·rintro ⟨m,h1,h2⟩;rw [Bool.and_eq_true] at h2;obtain ⟨cs,h3,h4⟩:=(derivesF_iff ht (fun s hs=>hr s (by simp [hs]))).1 h2.2;exact ⟨m::cs,⟨(spansF_iff (hr s (by simp))).1 h2.1,h3⟩,by rw [lastOr_cons];exact h4⟩
  ·rintro ⟨cs,h1,h2⟩
   cases cs with
   | nil=>exact h1.elim
   | cons c cs =>
    rw [lastOr_cons] at h2;have hd:=(derivesF_iff ht (fun s hs=>hr s (by simp [hs]))).2 ⟨cs,h1.2,h2⟩
    have hic:i<=c:=by
     rcases h1.1 with ⟨_,q,_⟩ | ⟨_,q⟩
     ·omega
     ·exact ht _ _ _ q
    have hcj:∀ {r:List Sy} {i:Nat} {cs:List Nat},CutsOk (tD t) w r i cs->i<=lastOr i cs:=by
     intro r
     induction r with
     | nil=>intro i cs h;cases cs with
      | nil=>exact nR _
      | cons c cs=>exact h.elim
     | cons s r ih=>intro i cs h;cases cs with
      | nil=>exact h.elim
      | cons c cs =>
       rw [lastOr_cons];have:=ih h.2
       rcases h.1 with ⟨_,q,_⟩ | ⟨_,q⟩
       ·omega
       ·have:=ht _ _ _ q;omega
    have:=hcj h1.2;exact ⟨c,upF_mem.2 ⟨hic,by omega⟩,by rw [Bool.and_eq_true];exact ⟨(spansF_iff (hr s (by simp))).2 h1.1,hd⟩⟩
theorem cuts_in {g:Gr} {w:List UInt8} {t:Tbl} (hs:∀ A i j,t A i j=true->Der g w A i j):∀ {r:List Sy} {i:Nat} {cs:List Nat},i<=w.length->CutsOk (fun A i j=>i<=w.length->t A i j=true) w r i cs->CutsOk (tD t) w r i cs /\ lastOr i cs<=w.length /\ i<=lastOr i cs
 | [],i,[],hi,_=>⟨trivial,hi,nR _⟩
 | [],_,_::_,_,k=>k.elim
 | _::_,_,[],_,k=>k.elim
 | s::r,i,c::cs,hi,k=>by
  have hc:Spans (tD t) w s i c /\ i<=c /\ c<=w.length:=by
   rcases k.1 with ⟨h0,h1,b,h2,h3⟩ | ⟨h0,h1⟩
   ·have:=(gS.1 h2).1;exact ⟨.inl ⟨h0,h1,b,h2,h3⟩,by omega,by omega⟩
   ·have h2:=h1 hi;exact ⟨.inr ⟨h0,h2⟩,der_le (hs _ _ _ h2) hi⟩
  obtain ⟨q1,q2,q3⟩:=cuts_in hs hc.2.2 k.2;rw [lastOr_cons];exact ⟨⟨hc.1,q1⟩,q2,by omega⟩
theorem table_law {g:Gr} {w:List UInt8} {t:Tbl} (hle:∀ A i j,t A i j=true->i<=j) (hk:∀ p,∀ s∈rightOf g p,s.kind=0∨s.kind=1) (hs:∀ A i j,t A i j=true->Der g w A i j)
  (hc:∀ A p i j,p∈ofS g A->i<=j->j<=w.length->derivesF t w (rightOf g p) i j=true->t A i j=true) {A:Int} {i j:Nat} (hi:i<=w.length):t A i j=true↔Der g w A i j:=by
 refine ⟨hs A i j,fun h=>?_⟩;refine h (fun A i j=>i<=w.length->t A i j=true) (fun A p i cs _ hp hcs hi=>?_) hi;obtain ⟨q1,q2,q3⟩:=cuts_in hs hi hcs;exact hc A p i _ hp q3 q2 ((derivesF_iff hle (hk p)).2 ⟨cs,q1,rfl⟩)
structure TblOk (g:Gr) (w:List UInt8) (t:Tbl):Prop where
 le:∀ A i j,t A i j=true->i<=j
 iff:∀ A i j,i<=w.length->(t A i j=true↔Der g w A i j)
theorem cuts_iff {g:Gr} {w:List UInt8} {t:Tbl} (h:TblOk g w t) {r:List Sy} {i:Nat} {cs:List Nat} (hi:i<=w.length) (hs:∀ A i j,t A i j=true->Der g w A i j):CutsOk (tD t) w r i cs↔CutsOk (Der g w) w r i cs :=
 ⟨fun k=>k.mono fun A i j q=>hs A i j q,fun k=>(cuts_in hs hi (k.mono fun A i j q hi=>(h.iff A i j hi).2 q)).1⟩
theorem starts_law {g:Gr} {w:List UInt8} {t:Tbl} (h:TblOk g w t) (hs:∀ A i j,t A i j=true->Der g w A i j) (hk:∀ p,∀ s∈rightOf g p,s.kind=0∨s.kind=1) {a:Int->Nat->Bool}
  (ha:∀ A i,a A i=true->At g w A i) (h0:a g.start 0=true)
  (hc:∀ A p i k j y,a A i=true->p∈ofS g A->(rightOf g p)[k]?=some y->y.kind=1->i<=j->j<=w.length->derivesF t w ((rightOf g p).take k) i j=true->a y.sort j=true) {A:Int} {i:Nat}:a A i=true↔At g w A i:=by
 refine ⟨ha A i,fun q=>?_⟩;refine (q (fun A i=>i<=w.length /\ a A i=true) ⟨⟨Nat.zero_le _,h0⟩,fun A p i k cs y h1 h2 h3 h4 h5=>?_⟩).2;obtain ⟨q1,q2,q3⟩:=cuts_in hs h1.1 (h5.mono fun A i j q hi=>(h.iff A i j hi).2 q);exact ⟨q2,hc A p i k _ y h1.2 h2 h3 h4 q3 q2 ((derivesF_iff h.le (fun s hs=>hk p s (List.mem_of_mem_take hs))).2 ⟨cs,q1,rfl⟩)⟩
end Go.Proofs.YthiochcpmfkgcaaGreatDoor.Gl
/-
  PLAIN LAWS of the document's answer for glr: what may come behind a text,by its tables.
-/
namespace Go.Proofs.YthiochcpmfkgcaaGreatDoor.Gl
open Tb (Gr Sy It St Pr MadeLaw ofS aheadF rightOf itemOk nextF nextF_bit SetsOk SortsAt NoSort symsR leadsF_eq refSplit classB classB_bit)
structure RefOk (g:Gr) (w:List UInt8) (t:Tbl) (a:Int->Nat->Bool):Prop where
 tbl:TblOk g w t
 der:∀ A i j,t A i j=true->Der g w A i j
 at_:∀ A i,a A i=true↔At g w A i
 kind:∀ p,∀ s∈rightOf g p,s.kind=0∨s.kind=1
theorem at_le {g:Gr} {w:List UInt8} {A:Int} {i:Nat} (h:At g w A i):i<=w.length :=
 h (fun A i=>i<=w.length) ⟨Nat.zero_le _,fun A p i k cs y h1 h2 h3 h4 h5=>(lastOr_le (g:=g) (fun A i j q hi=>der_le q hi) h5 h1).2⟩
def hitsP (w:List UInt8) (t:Tbl) (a:Int->Nat->Bool) (p:Nat) (q:Pr):List It :=
 if q.role=11 then [] else (List.range (w.length+1)).flatMap fun i=>if a q.left i=true then ((List.range (q.right.length+1)).filter fun k=>derivesF t w (q.right.take k) i w.length).map (p,·) else []
def hitsF (g:Gr) (w:List UInt8) (t:Tbl) (a:Int->Nat->Bool):List It :=
 (List.range g.prods.length).flatMap fun p=>match g.prods[p]? with | some q=>hitsP w t a p q | none=>[]
theorem ofS_iff {g:Gr} {A:Int} {p:Nat}:p∈ofS g A↔∃ q,g.prods[p]?=some q /\ q.left=A /\ q.role≠11:=by
 unfold ofS;rw [List.mem_filter,List.mem_range]
 constructor
 ·rintro ⟨h1,h2⟩
  cases hq:g.prods[p]? with
  | none=>rw [hq] at h2;cases h2
  | some q =>
   rw [hq] at h2;simp only [Bool.and_eq_true,beq_iff_eq,bne_iff_ne] at h2;exact ⟨q,rfl,h2⟩
 ·rintro ⟨q,h1,h2,h3⟩;refine ⟨(gS.1 h1).1,?_⟩;rw [h1];simp [h2,h3]
theorem hits_iff {g:Gr} {w:List UInt8} {t:Tbl} {a:Int->Nat->Bool} (h:RefOk g w t a) (p k:Nat):(p,k)∈hitsF g w t a↔Stands g w p k w.length:=by
 unfold hitsF Stands;rw [List.mem_flatMap]
 constructor
 ·rintro ⟨p',_,h2⟩
  cases hq:g.prods[p']? with
  | none=>rw [hq] at h2;cases h2
  | some q =>
   rw [hq] at h2;dsimp only at h2;unfold hitsP at h2
   split at h2
   ·cases h2
   ·next hr =>
    obtain ⟨i,h3,h4⟩:=List.mem_flatMap.1 h2
    split at h4
    ·next ha =>
     obtain ⟨k',h5,h6⟩:=List.mem_map.1 h4
     cases h6
     obtain ⟨h7,h8⟩:=List.mem_filter.1 h5;have hrt:rightOf g p=q.right:=by unfold rightOf;rw [hq];rfl
     have hi:i<=w.length:=by simp at h3;omega
     obtain ⟨cs,c1,c2⟩:=(derivesF_iff h.tbl.le (fun s hs=>h.kind p s (by rw [hrt];exact List.mem_of_mem_take hs))).1 h8;refine ⟨by rw [hrt];simp at h7;omega,q.left,i,cs,(h.at_ _ _).1 ha,ofS_iff.2 ⟨q,hq,rfl,hr⟩,?_,c2⟩;rw [hrt];exact (cuts_iff h.tbl hi h.der).1 c1
    ·cases h4
 ·rintro ⟨hk,A,i,cs,h1,h2,h3,h4⟩;obtain ⟨q,hq,rfl,hr⟩:=ofS_iff.1 h2;have hrt:rightOf g p=q.right:=by unfold rightOf;rw [hq];rfl
  have hi:=at_le h1;refine ⟨p,by simp;exact (gS.1 hq).1,?_⟩;rw [hq];dsimp only;unfold hitsP;rw [if_neg hr];refine List.mem_flatMap.2 ⟨i,by simp;omega,?_⟩;rw [if_pos ((h.at_ _ _).2 h1)];rw [hrt] at hk h3;refine List.mem_map.2 ⟨k,List.mem_filter.2 ⟨by simp;omega,?_⟩,rfl⟩;exact (derivesF_iff h.tbl.le (fun s hs=>h.kind p s (by rw [hrt];exact List.mem_of_mem_take hs))).2 ⟨cs,(cuts_iff h.tbl hi h.der).2 h3,h4⟩
def mayR (g:Gr) (w:List UInt8) (t:Tbl) (a:Int->Nat->Bool) (A:Int):Bool:=(hitsF g w t a).any fun x=>match aheadF g x with | some y=>decide (y.kind=1)&&decide (y.sort=A) | none=>false
theorem may_ref {g:Gr} {l:List St} (h1:SetsOk g) (hm:MadeLaw g l) {w:List UInt8} {t:Tbl} {a:Int->Nat->Bool} (h:RefOk g w t a) {L:List Nat} (hL:∀ s,s∈L↔LN (tabF g l) w (s,w.length)) (A:Int) :
  mayR g w t a A=L.any fun s=>((tabF g l).goto_ s A).isSome:=by
 have hd:=tab_dfa h1 hm;have hn:=sorts_iff hd w w.length A;have hs:∀ x:It,(match aheadF g x with | some y=>decide (y.kind=1)&&decide (y.sort=A) | none=>false)=true↔SortAt g x A:=fun x=>by
  unfold SortAt
  cases hx:aheadF g x with
  | none=>simp
  | some y=>simp
 unfold mayR;rw [Bool.eq_iff_iff,List.any_eq_true,List.any_eq_true]
 constructor
 ·rintro ⟨⟨p,k⟩,h4,h5⟩;obtain ⟨s,t',h6,h7⟩:=hn.2 ⟨p,k,(hits_iff h p k).1 h4,(hs _).1 h5⟩;exact ⟨s,(hL s).2 h6,by rw [h7];rfl⟩
 ·rintro ⟨s,h4,h5⟩;obtain ⟨t',h6⟩:=Option.isSome_iff_exists.1 h5;obtain ⟨p,k,h7,h8⟩:=hn.1 ⟨s,t',(hL s).1 h4,h6⟩;exact ⟨(p,k),(hits_iff h p k).2 h7,(hs _).2 h8⟩
end Go.Proofs.YthiochcpmfkgcaaGreatDoor.Gl
/-
  PLAIN LAWS of the document's answer for glr: tables that are filled till nothing is fresh.
-/
namespace Go.Proofs.YthiochcpmfkgcaaGreatDoor.Gl
open Tb (Gr Sy It St Pr ofS aheadF rightOf)
theorem derivesF_snoc (t:Tbl) (w:List UInt8) (ht:∀ A i j,t A i j=true->i<=j) (s:Sy):∀ (r:List Sy) (i m:Nat),derivesF t w (r++[s]) i m=true↔∃ j,derivesF t w r i j=true /\ spansF t w s j m=true
 | [],i,m=>by
  have hsp:∀ {s:Sy} {i m:Nat},spansF t w s i m=true->i<=m:=fun {s i m} h=>by
   unfold spansF at h
   split at h
   ·simp at h;omega
   ·exact ht _ _ _ h
  simp only [List.nil_append,derivesF,List.any_eq_true,upF_mem,Bool.and_eq_true,decide_eq_true_eq]
  constructor
  ·rintro ⟨x,h1,h2,h3⟩;subst h3;exact ⟨i,rfl,h2⟩
  ·rintro ⟨j,h1,h2⟩;subst h1;exact ⟨m,⟨hsp h2,nR _⟩,h2,rfl⟩
 | x::r,i,m=>by
  have hle:∀ {r:List Sy} {i j:Nat},derivesF t w r i j=true->i<=j:=fun {r}=>by
   induction r with
   | nil=>intro i j h;simp [derivesF] at h;omega
   | cons y r ih =>
    intro i j h;simp only [derivesF,List.any_eq_true,upF_mem,Bool.and_eq_true] at h;obtain ⟨z,h1,_⟩:=h;omega
  have hsp:∀ {s:Sy} {i m:Nat},spansF t w s i m=true->i<=m:=fun {s i m} h=>by
   unfold spansF at h
   split at h
   ·simp at h;omega
   ·exact ht _ _ _ h
  rw [List.cons_append];simp only [derivesF,List.any_eq_true,upF_mem,Bool.and_eq_true]
  constructor
  ·rintro ⟨z,h1,h2,h3⟩;obtain ⟨j,h4,h5⟩:=(derivesF_snoc t w ht s r z m).1 h3;exact ⟨j,⟨z,⟨h1.1,hle h4⟩,h2,h4⟩,h5⟩
  ·rintro ⟨j,⟨z,h1,h2,h3⟩,h4⟩;exact ⟨z,⟨h1.1,Nat.le_trans h1.2 (hsp h4)⟩,h2,(derivesF_snoc t w ht s r z m).2 ⟨j,h3,h4⟩⟩
theorem derivesF_le {t:Tbl} {w:List UInt8}:∀ {r:List Sy} {i j:Nat},derivesF t w r i j=true->i<=j
 | [],i,j,h=>by simp [derivesF] at h;omega
 | y::r,i,j,h=>by
  simp only [derivesF,List.any_eq_true,upF_mem,Bool.and_eq_true] at h;obtain ⟨z,h1,_⟩:=h;omega
/-! The table. -/
def setT (t:Tbl) (A:Int) (i j:Nat):Tbl:=fun A' i' j'=>if A'=A /\ i'=i /\ j'=j then true else t A' i' j'
structure Snd (g:Gr) (w:List UInt8) (t:Tbl):Prop where
 der:∀ A i j,t A i j=true->Der g w A i j
 le:∀ A i j,t A i j=true->i<=j /\ j<=w.length
 sort:∀ A i j,t A i j=true->0<=A /\ A<g.sorts.length
theorem Snd.start (g:Gr) (w:List UInt8):Snd g w (fun _ _ _=>false):=⟨fun _ _ _ h=>by simp at h,fun _ _ _ h=>by simp at h,fun _ _ _ h=>by simp at h⟩
theorem Snd.set {g:Gr} {w:List UInt8} {t:Tbl} (h:Snd g w t) (hk:∀ p,∀ s∈rightOf g p,s.kind=0∨s.kind=1) {p:Nat} {q:Pr} (hq:g.prods[p]?=some q) (hr:q.role≠11) (hl:0<=q.left /\ q.left<g.sorts.length) {i j:Nat} (hj:j<=w.length) (hd:derivesF t w q.right i j=true):Snd g w (setT t q.left i j):=by
 have hij:=derivesF_le hd;have hrt:rightOf g p=q.right:=by unfold rightOf;rw [hq];rfl
 refine ⟨fun A i' j' h1=>?_,fun A i' j' h1=>?_,fun A i' j' h1=>?_⟩
 all_goals unfold setT at h1;split at h1
 ·next hc =>
  obtain ⟨rfl,rfl,rfl⟩:=hc;obtain ⟨cs,h2,h3⟩:=(derivesF_iff (fun A i j k=>(h.le A i j k).1) (fun s hs=>hk p s (by rw [hrt];exact hs))).1 hd;rw [<- h3];exact der_closed g w _ p i' cs (by omega) (ofS_iff.2 ⟨q,hq,rfl,hr⟩) (by rw [hrt];exact h2.mono fun A i j k=>h.der A i j k)
 ·exact h.der _ _ _ h1
 ·next hc=>obtain ⟨rfl,rfl,rfl⟩:=hc;exact ⟨hij,hj⟩
 ·exact h.le _ _ _ h1
 ·next hc=>obtain ⟨rfl,rfl,rfl⟩:=hc;exact hl
 ·exact h.sort _ _ _ h1
def boxF (S n:Nat):List (Int × Nat × Nat):=(List.range S).flatMap fun (s:Nat)=>(List.range (n+1)).flatMap fun i=>(List.range (n+1)).map fun j=>((s:Int),i,j)
theorem boxF_mem {S n:Nat} {A:Int} {i j:Nat} (h1:0<=A) (h2:A<S) (h3:i<=n) (h4:j<=n):(A,i,j)∈boxF S n:=by
 obtain ⟨s,rfl⟩:∃ s:Nat,A=s:=⟨A.toNat,by omega⟩;refine List.mem_flatMap.2 ⟨s,by simp;omega,List.mem_flatMap.2 ⟨i,by simp;omega,List.mem_map.2 ⟨j,by simp;omega,rfl⟩⟩⟩
def openN (S n:Nat) (t:Tbl):Nat:=((boxF S n).filter fun x=>!t x.1 x.2.1 x.2.2).length
theorem filter_less {α:Type} (p q:α->Bool) (hpq:∀ x,q x=true->p x=true):∀ (l:List α),(∃ x∈l,p x=true /\ q x=false)->(l.filter q).length<(l.filter p).length
 | [],h=>by obtain ⟨x,hx,_⟩:=h;cases hx
 | a::l,h=>by
  have hle:∀ l:List α,(l.filter q).length<=(l.filter p).length:=fun l=>by
   induction l with
   | nil=>simp
   | cons b l ih =>
    rw [List.filter_cons,List.filter_cons]
    by_cases hb:q b=true
    ·rw [if_pos hb,if_pos (hpq b hb)];simp only [List.length_cons];omega
    ·rw [if_neg hb];split
     ·simp only [List.length_cons];omega
     ·exact ih
  obtain ⟨x,hx,h1,h2⟩:=h;rw [List.filter_cons,List.filter_cons]
  rcases List.mem_cons.1 hx with rfl | hx
  ·rw [if_neg (by rw [h2];decide),if_pos h1];have:=hle l;simp only [List.length_cons];omega
  ·have ih:=filter_less p q hpq l ⟨x,hx,h1,h2⟩
   by_cases hb:q a=true
   ·rw [if_pos hb,if_pos (hpq a hb)];simp only [List.length_cons];omega
   ·rw [if_neg hb];split
    ·simp only [List.length_cons];omega
    ·exact ih
theorem openN_set {S n:Nat} {t:Tbl} {A:Int} {i j:Nat} (h1:0<=A) (h2:A<S) (h3:i<=n) (h4:j<=n) (h5:t A i j=false):openN S n (setT t A i j)<openN S n t:=by
 refine filter_less _ _ (fun x hx=>?_) _ ⟨(A,i,j),boxF_mem h1 h2 h3 h4,by simp [h5],by simp [setT]⟩;unfold setT at hx
 split at hx
 ·cases hx
 ·exact hx
theorem tbl_ok {g:Gr} {w:List UInt8} {t:Tbl} (h:Snd g w t) (hk:∀ p,∀ s∈rightOf g p,s.kind=0∨s.kind=1)
  (hc:∀ (p:Nat) (q:Pr) (i j:Nat),g.prods[p]?=some q->q.role≠11->i<=j->j<=w.length->derivesF t w q.right i j=true->t q.left i j=true):TblOk g w t:=by
 refine ⟨fun A i j k=>(h.le A i j k).1,fun A i j hi=>table_law (fun A i j k=>(h.le A i j k).1) hk h.der (fun A p i j hp hij hj hd=>?_) hi⟩;obtain ⟨q,hq,rfl,hr⟩:=ofS_iff.1 hp;have hrt:rightOf g p=q.right:=by unfold rightOf;rw [hq];rfl
 exact hc p q i j hq hr hij hj (by rw [<- hrt];exact hd)
/-! The starts. -/
abbrev Tba:=Int->Nat->Bool
def setA (a:Tba) (A:Int) (i:Nat):Tba:=fun A' i'=>if A'=A /\ i'=i then true else a A' i'
structure SndA (g:Gr) (w:List UInt8) (a:Tba):Prop where
 at_:∀ A i,a A i=true->At g w A i
 sort:∀ A i,a A i=true->0<=A /\ A<g.sorts.length
 first:a g.start 0=true
theorem SndA.start {g:Gr} {w:List UInt8} (h:0<=g.start /\ g.start<g.sorts.length):SndA g w (setA (fun _ _=>false) g.start 0):=by
 refine ⟨fun A i h1=>?_,fun A i h1=>?_,by simp [setA]⟩
 all_goals unfold setA at h1;split at h1
 ·next hc=>obtain ⟨rfl,rfl⟩:=hc;exact (at_closed g w).1
 ·cases h1
 ·next hc=>obtain ⟨rfl,rfl⟩:=hc;exact h
 ·cases h1
theorem SndA.set {g:Gr} {w:List UInt8} {t:Tbl} {a:Tba} (h:SndA g w a) (ht:TblOk g w t) (hs:∀ A i j,t A i j=true->Der g w A i j) (hk:∀ p,∀ s∈rightOf g p,s.kind=0∨s.kind=1) {p:Nat} {q:Pr} (hq:g.prods[p]?=some q) (hr:q.role≠11) {i j k:Nat} {y:Sy} (ha:a q.left i=true) (hy:q.right[k]?=some y) (hyk:y.kind=1) (hys:0<=y.sort /\ y.sort<g.sorts.length) (hd:derivesF t w (q.right.take k) i j=true):SndA g w (setA a y.sort j):=by
 have hrt:rightOf g p=q.right:=by unfold rightOf;rw [hq];rfl
 refine ⟨fun A i' h1=>?_,fun A i' h1=>?_,?_⟩
 ·unfold setA at h1
  split at h1
  ·next hc =>
   obtain ⟨rfl,rfl⟩:=hc;have hA:=h.at_ _ _ ha;obtain ⟨cs,c1,c2⟩:=(derivesF_iff ht.le (fun s hs=>hk p s (by rw [hrt];exact List.mem_of_mem_take hs))).1 hd;rw [<- c2];exact (at_closed g w).2 _ p i k cs y hA (ofS_iff.2 ⟨q,hq,rfl,hr⟩) (by rw [hrt];exact hy) hyk (by rw [hrt];exact (cuts_iff ht (at_le hA) hs).1 c1)
  ·exact h.at_ _ _ h1
 ·unfold setA at h1
  split at h1
  ·next hc=>obtain ⟨rfl,rfl⟩:=hc;exact hys
  ·exact h.sort _ _ h1
 ·unfold setA
  split
  ·rfl
  ·exact h.first
def boxA (S n:Nat):List (Int × Nat):=(List.range S).flatMap fun (s:Nat)=>(List.range (n+1)).map fun i=>((s:Int),i)
def openA (S n:Nat) (a:Tba):Nat:=((boxA S n).filter fun x=>!a x.1 x.2).length
theorem openA_set {S n:Nat} {a:Tba} {A:Int} {i:Nat} (h1:0<=A) (h2:A<S) (h3:i<=n) (h5:a A i=false):openA S n (setA a A i)<openA S n a:=by
 have hm:(A,i)∈boxA S n:=by
  obtain ⟨s,rfl⟩:∃ s:Nat,A=s:=⟨A.toNat,by omega⟩;exact List.mem_flatMap.2 ⟨s,by simp;omega,List.mem_map.2 ⟨i,by simp;omega,rfl⟩⟩
 refine filter_less _ _ (fun x hx=>?_) _ ⟨(A,i),hm,by simp [h5],by simp [setA]⟩;unfold setA at hx
 split at hx
 ·cases hx
 ·exact hx
theorem ref_ok {g:Gr} {w:List UInt8} {t:Tbl} {a:Tba} (ht:TblOk g w t) (hs:∀ A i j,t A i j=true->Der g w A i j) (hk:∀ p,∀ s∈rightOf g p,s.kind=0∨s.kind=1) (h:SndA g w a)
  (hc:∀ (p:Nat) (q:Pr) (i k j:Nat) (y:Sy),g.prods[p]?=some q->q.role≠11->a q.left i=true->q.right[k]?=some y->y.kind=1->i<=j->j<=w.length->derivesF t w (q.right.take k) i j=true->a y.sort j=true):RefOk g w t a:=by
 refine ⟨ht,hs,fun A i=>starts_law ht hs hk h.at_ h.first (fun A p i k j y h1 h2 h3 h4 h5 h6 h7=>?_),hk⟩;obtain ⟨q,hq,rfl,hr⟩:=ofS_iff.1 h2;have hrt:rightOf g p=q.right:=by unfold rightOf;rw [hq];rfl
 rw [hrt] at h3 h7;exact hc p q i k j y hq hr h1 h3 h4 h5 h6 h7
end Go.Proofs.YthiochcpmfkgcaaGreatDoor.Gl
/-
  PLAIN LAWS of package glr: alternatives in order.
-/
namespace Go.Proofs.YthiochcpmfkgcaaGreatDoor.Gl
end Go.Proofs.YthiochcpmfkgcaaGreatDoor.Gl
/-
  PLAIN LAWS of the document's answer for glr: all ways to cut a span,in order.
-/
namespace Go.Proofs.YthiochcpmfkgcaaGreatDoor.Gl
open Tb (Gr Sy It ofS aheadF rightOf)
end Go.Proofs.YthiochcpmfkgcaaGreatDoor.Gl
/-
  PLAIN LAWS of the document's answer for glr: all alternatives,in order,are the run's.
-/
namespace Go.Proofs.YthiochcpmfkgcaaGreatDoor.Gl
open Tb (Gr Sy It ofS aheadF rightOf)
end Go.Proofs.YthiochcpmfkgcaaGreatDoor.Gl
/-
  PLAIN LAWS of the document's answer for glr: the rounds in which its tables are filled.
-/
namespace Go.Proofs.YthiochcpmfkgcaaGreatDoor.Gl
open Tb (Gr Sy It St Pr ofS aheadF rightOf)
/-! Derives. -/
def bef3 (p i j p' i' j':Nat):Prop:=p'<p∨(p'=p /\ (i'<i∨(i'=i /\ j'<j)))
def ChkT (g:Gr) (w:List UInt8) (t:Tbl) (p i j:Nat):Prop :=
 ∀ (p':Nat) (q:Pr) (i' j':Nat),bef3 p i j p' i' j'->g.prods[p']?=some q->q.role≠11->i'<=j'->j'<=w.length->derivesF t w q.right i' j'=true->t q.left i' j'=true
structure RdT (g:Gr) (w:List UInt8) (t0 t:Tbl) (fr:Bool) (p i j:Nat):Prop where
 same:fr=false->t=t0
 chk:fr=false->ChkT g w t p i j
 less:fr=true->openN g.sorts.length w.length t<openN g.sorts.length w.length t0
theorem RdT.start (g:Gr) (w:List UInt8) (t0:Tbl):RdT g w t0 t0 false 0 0 0 :=
 ⟨fun _=>rfl,fun _ p' q i' j' h=>by unfold bef3 at h;omega,fun h=>by cases h⟩
theorem RdT.seen {g:Gr} {w:List UInt8} {t0 t:Tbl} {fr:Bool} {p i j:Nat} (h:RdT g w t0 t fr p i j) {q:Pr} (hq:g.prods[p]?=some q) (hs:t q.left i j=true∨derivesF t w q.right i j=false):RdT g w t0 t fr p i (j+1):=by
 refine ⟨h.same,fun hf p' q' i' j' hb hq' hr hij hj hd=>?_,h.less⟩
 by_cases he:p'=p /\ i'=i /\ j'=j
 ·obtain ⟨rfl,rfl,rfl⟩:=he;rw [hq] at hq'
  cases hq'
  rcases hs with hs | hs
  ·exact hs
  ·rw [hs] at hd;cases hd
 ·exact h.chk hf p' q' i' j' (by unfold bef3 at hb ⊢;omega) hq' hr hij hj hd
theorem RdT.put {g:Gr} {w:List UInt8} {t0 t:Tbl} {fr:Bool} {p i j:Nat} (h:RdT g w t0 t fr p i j) {A:Int} (h1:0<=A) (h2:A<g.sorts.length) (h3:i<=w.length) (h4:j<=w.length) (h5:t A i j=false) (p' i' j':Nat):RdT g w t0 (setT t A i j) true p' i' j':=by
 refine ⟨fun h=>Bool.noConfusion h,fun h=>Bool.noConfusion h,fun _=>?_⟩;have h6:=openN_set h1 h2 h3 h4 h5
 cases hf:fr with
 | false=>rw [<- h.same hf];exact h6
 | true=>exact Nat.lt_trans h6 (h.less hf)
theorem RdT.row {g:Gr} {w:List UInt8} {t0 t:Tbl} {fr:Bool} {p i:Nat} (h:RdT g w t0 t fr p i (w.length+1)):RdT g w t0 t fr p (i+1) (i+1) :=
 ⟨h.same,fun hf p' q' i' j' hb hq' hr hij hj hd=>h.chk hf p' q' i' j' (by unfold bef3 at hb ⊢;omega) hq' hr hij hj hd,h.less⟩
theorem RdT.prod {g:Gr} {w:List UInt8} {t0 t:Tbl} {fr:Bool} {p j:Nat} (h:RdT g w t0 t fr p (w.length+1) j):RdT g w t0 t fr (p+1) 0 0 :=
 ⟨h.same,fun hf p' q' i' j' hb hq' hr hij hj hd=>h.chk hf p' q' i' j' (by unfold bef3 at hb ⊢;omega) hq' hr hij hj hd,h.less⟩
theorem RdT.skip {g:Gr} {w:List UInt8} {t0 t:Tbl} {fr:Bool} {p:Nat} (h:RdT g w t0 t fr p 0 0) {q:Pr} (hq:g.prods[p]?=some q) (hr:q.role=11):RdT g w t0 t fr (p+1) 0 0:=by
 refine ⟨h.same,fun hf p' q' i' j' hb hq' hr' hij hj hd=>?_,h.less⟩
 by_cases he:p'=p
 ·subst he;rw [hq] at hq'
  cases hq'
  exact absurd hr hr'
 ·exact h.chk hf p' q' i' j' (by unfold bef3 at hb ⊢;omega) hq' hr' hij hj hd
theorem RdT.done {g:Gr} {w:List UInt8} {t0 t:Tbl} {p:Nat} (h:RdT g w t0 t false p 0 0) (hp:g.prods.length<=p) (hs:Snd g w t) (hk:∀ p,∀ s∈rightOf g p,s.kind=0∨s.kind=1):TblOk g w t :=
 tbl_ok hs hk fun p' q i j hq hr hij hj hd=>h.chk rfl p' q i j (by have:=(gS.1 hq).1;unfold bef3;omega) hq hr hij hj hd
/-! starts. -/
def bef4 (p i k j p' i' k' j':Nat):Prop:=p'<p∨(p'=p /\ (i'<i∨(i'=i /\ (k'<k∨(k'=k /\ j'<j)))))
def ChkA (g:Gr) (w:List UInt8) (t:Tbl) (a:Tba) (p i k j:Nat):Prop :=
 ∀ (p':Nat) (q:Pr) (i' k' j':Nat) (y:Sy),bef4 p i k j p' i' k' j'->g.prods[p']?=some q->q.role≠11->a q.left i'=true->q.right[k']?=some y->y.kind=1->i'<=j'->j'<=w.length->derivesF t w (q.right.take k') i' j'=true->a y.sort j'=true
structure RdA (g:Gr) (w:List UInt8) (t:Tbl) (a0 a:Tba) (fr:Bool) (p i k j:Nat):Prop where
 same:fr=false->a=a0
 chk:fr=false->ChkA g w t a p i k j
 less:fr=true->openA g.sorts.length w.length a<openA g.sorts.length w.length a0
theorem RdA.start (g:Gr) (w:List UInt8) (t:Tbl) (a0:Tba):RdA g w t a0 a0 false 0 0 0 0 :=
 ⟨fun _=>rfl,fun _ p' q i' k' j' y h=>by unfold bef4 at h;omega,fun h=>by cases h⟩
theorem RdA.seen {g:Gr} {w:List UInt8} {t:Tbl} {a0 a:Tba} {fr:Bool} {p i k j:Nat} (h:RdA g w t a0 a fr p i k j) {q:Pr} (hq:g.prods[p]?=some q) {y:Sy} (hy:q.right[k]?=some y) (hs:derivesF t w (q.right.take k) i j=false∨y.kind≠1∨a y.sort j=true):RdA g w t a0 a fr p i k (j+1):=by
 refine ⟨h.same,fun hf p' q' i' k' j' y' hb hq' hr ha hy' hk hij hj hd=>?_,h.less⟩
 by_cases he:p'=p /\ i'=i /\ k'=k /\ j'=j
 ·obtain ⟨rfl,rfl,rfl,rfl⟩:=he;rw [hq] at hq'
  cases hq'
  rw [hy] at hy'
  cases hy'
  rcases hs with hs | hs | hs
  ·rw [hs] at hd;cases hd
  ·exact absurd hk hs
  ·exact hs
 ·exact h.chk hf p' q' i' k' j' y' (by unfold bef4 at hb ⊢;omega) hq' hr ha hy' hk hij hj hd
theorem RdA.put {g:Gr} {w:List UInt8} {t:Tbl} {a0 a:Tba} {fr:Bool} {p i k j:Nat} (h:RdA g w t a0 a fr p i k j) {A:Int} (h1:0<=A) (h2:A<g.sorts.length) (h3:j<=w.length) (h5:a A j=false) (p' i' k' j':Nat):RdA g w t a0 (setA a A j) true p' i' k' j':=by
 refine ⟨fun h=>Bool.noConfusion h,fun h=>Bool.noConfusion h,fun _=>?_⟩;have h6:=openA_set h1 h2 h3 h5
 cases hf:fr with
 | false=>rw [<- h.same hf];exact h6
 | true=>exact Nat.lt_trans h6 (h.less hf)
theorem RdA.sym {g:Gr} {w:List UInt8} {t:Tbl} {a0 a:Tba} {fr:Bool} {p i k:Nat} (h:RdA g w t a0 a fr p i k (w.length+1)):RdA g w t a0 a fr p i (k+1) i :=
 ⟨h.same,fun hf p' q' i' k' j' y' hb hq' hr ha hy' hk hij hj hd=>h.chk hf p' q' i' k' j' y' (by unfold bef4 at hb ⊢;omega) hq' hr ha hy' hk hij hj hd,h.less⟩
theorem RdA.begin_ {g:Gr} {w:List UInt8} {t:Tbl} {a0 a:Tba} {fr:Bool} {p i:Nat} (h:RdA g w t a0 a fr p i 0 0):RdA g w t a0 a fr p i 0 i :=
 ⟨h.same,fun hf p' q' i' k' j' y' hb hq' hr ha hy' hk hij hj hd=>h.chk hf p' q' i' k' j' y' (by unfold bef4 at hb ⊢;omega) hq' hr ha hy' hk hij hj hd,h.less⟩
theorem RdA.row {g:Gr} {w:List UInt8} {t:Tbl} {a0 a:Tba} {fr:Bool} {p i k j:Nat} (h:RdA g w t a0 a fr p i k j) {q:Pr} (hq:g.prods[p]?=some q) (hk:q.right.length<=k):RdA g w t a0 a fr p (i+1) 0 0:=by
 refine ⟨h.same,fun hf p' q' i' k' j' y' hb hq' hr ha hy' hk1 hij hj hd=>?_,h.less⟩
 by_cases he:p'=p
 ·subst he;rw [hq] at hq'
  cases hq'
  have:=(gS.1 hy').1;exact h.chk hf p' q i' k' j' y' (by unfold bef4 at hb ⊢;omega) hq hr ha hy' hk1 hij hj hd
 ·exact h.chk hf p' q' i' k' j' y' (by unfold bef4 at hb ⊢;omega) hq' hr ha hy' hk1 hij hj hd
theorem RdA.pass {g:Gr} {w:List UInt8} {t:Tbl} {a0 a:Tba} {fr:Bool} {p i:Nat} (h:RdA g w t a0 a fr p i 0 0) {q:Pr} (hq:g.prods[p]?=some q) (hk:a q.left i=false):RdA g w t a0 a fr p (i+1) 0 0:=by
 refine ⟨h.same,fun hf p' q' i' k' j' y' hb hq' hr ha hy' hk1 hij hj hd=>?_,h.less⟩
 by_cases he:p'=p /\ i'=i
 ·obtain ⟨rfl,rfl⟩:=he;rw [hq] at hq'
  cases hq'
  rw [hk] at ha
  cases ha
 ·exact h.chk hf p' q' i' k' j' y' (by unfold bef4 at hb ⊢;omega) hq' hr ha hy' hk1 hij hj hd
theorem RdA.prod {g:Gr} {w:List UInt8} {t:Tbl} {a0 a:Tba} {fr:Bool} {p k j:Nat} (h:RdA g w t a0 a fr p (w.length+1) k j):RdA g w t a0 a fr (p+1) 0 0 0 :=
 ⟨h.same,fun hf p' q' i' k' j' y' hb hq' hr ha hy' hk hij hj hd=>h.chk hf p' q' i' k' j' y' (by unfold bef4 at hb ⊢;omega) hq' hr ha hy' hk hij hj hd,h.less⟩
theorem RdA.skip {g:Gr} {w:List UInt8} {t:Tbl} {a0 a:Tba} {fr:Bool} {p:Nat} (h:RdA g w t a0 a fr p 0 0 0) {q:Pr} (hq:g.prods[p]?=some q) (hr:q.role=11):RdA g w t a0 a fr (p+1) 0 0 0:=by
 refine ⟨h.same,fun hf p' q' i' k' j' y' hb hq' hr' ha hy' hk hij hj hd=>?_,h.less⟩
 by_cases he:p'=p
 ·subst he;rw [hq] at hq'
  cases hq'
  exact absurd hr hr'
 ·exact h.chk hf p' q' i' k' j' y' (by unfold bef4 at hb ⊢;omega) hq' hr' ha hy' hk hij hj hd
theorem RdA.done {g:Gr} {w:List UInt8} {t:Tbl} {a0 a:Tba} {p:Nat} (h:RdA g w t a0 a false p 0 0 0) (hp:g.prods.length<=p) (ht:TblOk g w t) (hs:∀ A i j,t A i j=true->Der g w A i j) (hk:∀ p,∀ s∈rightOf g p,s.kind=0∨s.kind=1) (ha:SndA g w a):RefOk g w t a :=
 ref_ok ht hs hk ha fun p' q i k j y hq hr h1 h2 h3 h4 h5 h6=>h.chk rfl p' q i k j y (by have:=(gS.1 hq).1;unfold bef4;omega) hq hr h1 h2 h3 h4 h5 h6
/-! One symbol more. -/
def NxP (t:Tbl) (w:List UInt8) (s:Sy) (here:Nat->Bool) (i j m x:Nat):Prop:=(∃ j',i<=j' /\ j'<j /\ here j'=true /\ spansF t w s j' x=true)∨(here j=true /\ j<=x /\ x<m /\ spansF t w s j x=true)
theorem spansF_le {t:Tbl} {w:List UInt8} (ht:∀ A i j,t A i j=true->i<=j) {s:Sy} {i m:Nat} (h:spansF t w s i m=true):i<=m:=by
 unfold spansF at h
 split at h
 ·simp at h;omega
 ·exact ht _ _ _ h
theorem nxP_start (t:Tbl) (w:List UInt8) (s:Sy) (here:Nat->Bool) (i x:Nat):¬ NxP t w s here i i i x:=by
 rintro (⟨j',h1,h2,_⟩ | ⟨_,h1,h2,_⟩) <;> omega
theorem nxP_step {t:Tbl} {w:List UInt8} {s:Sy} {here:Nat->Bool} {i j m x:Nat} (hj:here j=true) (hm:j<=m):NxP t w s here i j (m+1) x↔NxP t w s here i j m x∨(x=m /\ spansF t w s j m=true):=by
 constructor
 ·rintro (h | ⟨h1,h2,h3,h4⟩)
  ·exact .inl (.inl h)
  ·by_cases hx:x=m
   ·exact .inr ⟨hx,by rw [<- hx];exact h4⟩
   ·exact .inl (.inr ⟨h1,h2,by omega,h4⟩)
 ·rintro ((h | ⟨h1,h2,h3,h4⟩) | ⟨h1,h2⟩)
  ·exact .inl h
  ·exact .inr ⟨h1,h2,by omega,h4⟩
  ·exact .inr ⟨hj,by omega,by omega,by rw [h1];exact h2⟩
theorem nxP_end {t:Tbl} {w:List UInt8} (ht:∀ A i j,t A i j=true->i<=j) {s:Sy} {here:Nat->Bool} {i j x n:Nat} (hi:i<=j) (hx:x<=n) (hj:here j=true):NxP t w s here i j (n+1) x↔NxP t w s here i (j+1) (j+1) x:=by
 constructor
 ·rintro (⟨j',h1,h2,h3,h4⟩ | ⟨h1,h2,h3,h4⟩)
  ·exact .inl ⟨j',h1,by omega,h3,h4⟩
  ·exact .inl ⟨j,hi,by omega,h1,h4⟩
 ·rintro (⟨j',h1,h2,h3,h4⟩ | ⟨h1,h2,h3,h4⟩)
  ·by_cases hjj:j'=j
   ·subst hjj;exact .inr ⟨hj,spansF_le ht h4,by omega,h4⟩
   ·exact .inl ⟨j',h1,by omega,h3,h4⟩
  ·omega
theorem nxP_skip {t:Tbl} {w:List UInt8} {s:Sy} {here:Nat->Bool} {i j x:Nat} (hj:here j=false):NxP t w s here i j j x↔NxP t w s here i (j+1) (j+1) x:=by
 constructor
 ·rintro (⟨j',h1,h2,h3,h4⟩ | ⟨h1,h2,h3,h4⟩)
  ·exact .inl ⟨j',h1,by omega,h3,h4⟩
  ·omega
 ·rintro (⟨j',h1,h2,h3,h4⟩ | ⟨h1,h2,h3,h4⟩)
  ·by_cases hjj:j'=j
   ·subst hjj;rw [hj] at h3
    cases h3
   ·exact .inl ⟨j',h1,by omega,h3,h4⟩
  ·omega
theorem nxP_done {t:Tbl} {w:List UInt8} (ht:∀ A i j,t A i j=true->i<=j) {R:List Sy} {s:Sy} {k i n x:Nat} (hs:R[k]?=some s) {here:Nat->Bool} (hh:∀ x,x<=n->here x=derivesF t w (R.take k) i x) (hx:x<=n):NxP t w s here i (n+1) (n+1) x↔derivesF t w (R.take (k+1)) i x=true:=by
 rw [List.take_add_one,hs];show _↔derivesF t w (R.take k++[s]) i x=true;rw [derivesF_snoc t w ht]
 constructor
 ·rintro (⟨j',h1,h2,h3,h4⟩ | ⟨h1,h2,h3,h4⟩)
  ·exact ⟨j',by rw [<- hh j' (by omega)];exact h3,h4⟩
  ·omega
 ·rintro ⟨j',h1,h2⟩;have:=spansF_le ht h2;exact .inl ⟨j',derivesF_le h1,by omega,by rw [hh j' (by omega)];exact h1,h2⟩
/-! May: nothing so far. -/
def NoMay (g:Gr) (w:List UInt8) (t:Tbl) (a:Tba) (A:Int) (p i k:Nat):Prop :=
  ∀ (p':Nat) (q:Pr) (i' k':Nat) (y:Sy),bef3 p i k p' i' k'->g.prods[p']?=some q->q.role≠11->i'<=w.length->a q.left i'=true->q.right[k']?=some y->y.kind=1->y.sort=A->derivesF t w (q.right.take k') i' w.length=false
theorem NoMay.start (g:Gr) (w:List UInt8) (t:Tbl) (a:Tba) (A:Int):NoMay g w t a A 0 0 0:=fun p' q i' k' y h=>by unfold bef3 at h;omega
theorem NoMay.seen {g:Gr} {w:List UInt8} {t:Tbl} {a:Tba} {A:Int} {p i k:Nat} (h:NoMay g w t a A p i k) {q:Pr} (hq:g.prods[p]?=some q) {y:Sy} (hy:q.right[k]?=some y) (hn:y.kind=1->y.sort=A->derivesF t w (q.right.take k) i w.length=false):NoMay g w t a A p i (k+1):=by
 intro p' q' i' k' y' hb hq' hr hi ha hy' h1 h2
 by_cases he:p'=p /\ i'=i /\ k'=k
 ·obtain ⟨rfl,rfl,rfl⟩:=he;rw [hq] at hq'
  cases hq'
  rw [hy] at hy'
  cases hy'
  exact hn h1 h2
 ·exact h p' q' i' k' y' (by unfold bef3 at hb ⊢;omega) hq' hr hi ha hy' h1 h2
theorem NoMay.row {g:Gr} {w:List UInt8} {t:Tbl} {a:Tba} {A:Int} {p i k:Nat} (h:NoMay g w t a A p i k) {q:Pr} (hq:g.prods[p]?=some q) (hk:q.right.length<=k):NoMay g w t a A p (i+1) 0:=by
 intro p' q' i' k' y' hb hq' hr hi ha hy' h1 h2
 by_cases he:p'=p
 ·subst he;rw [hq] at hq'
  cases hq'
  have:=(gS.1 hy').1;exact h p' q i' k' y' (by unfold bef3 at hb ⊢;omega) hq hr hi ha hy' h1 h2
 ·exact h p' q' i' k' y' (by unfold bef3 at hb ⊢;omega) hq' hr hi ha hy' h1 h2
theorem NoMay.pass {g:Gr} {w:List UInt8} {t:Tbl} {a:Tba} {A:Int} {p i:Nat} (h:NoMay g w t a A p i 0) {q:Pr} (hq:g.prods[p]?=some q) (hk:a q.left i=false):NoMay g w t a A p (i+1) 0:=by
 intro p' q' i' k' y' hb hq' hr hi ha hy' h1 h2
 by_cases he:p'=p /\ i'=i
 ·obtain ⟨rfl,rfl⟩:=he;rw [hq] at hq'
  cases hq'
  rw [hk] at ha
  cases ha
 ·exact h p' q' i' k' y' (by unfold bef3 at hb ⊢;omega) hq' hr hi ha hy' h1 h2
theorem NoMay.prod {g:Gr} {w:List UInt8} {t:Tbl} {a:Tba} {A:Int} {p k:Nat} (h:NoMay g w t a A p (w.length+1) k):NoMay g w t a A (p+1) 0 0 :=
 fun p' q' i' k' y' hb hq' hr hi ha hy' h1 h2=>h p' q' i' k' y' (by unfold bef3 at hb ⊢;omega) hq' hr hi ha hy' h1 h2
theorem NoMay.skip {g:Gr} {w:List UInt8} {t:Tbl} {a:Tba} {A:Int} {p:Nat} (h:NoMay g w t a A p 0 0) {q:Pr} (hq:g.prods[p]?=some q) (hr:q.role=11):NoMay g w t a A (p+1) 0 0:=by
 intro p' q' i' k' y' hb hq' hr' hi ha hy' h1 h2
 by_cases he:p'=p
 ·subst he;rw [hq] at hq'
  cases hq'
  exact absurd hr hr'
 ·exact h p' q' i' k' y' (by unfold bef3 at hb ⊢;omega) hq' hr' hi ha hy' h1 h2
theorem mayR_iff {g:Gr} {w:List UInt8} {t:Tbl} {a:Tba} {A:Int}:mayR g w t a A=true↔∃ (p:Nat) (q:Pr) (i k:Nat) (y:Sy),g.prods[p]?=some q /\ q.role≠11 /\ i<=w.length /\ a q.left i=true /\ q.right[k]?=some y /\ y.kind=1 /\ y.sort=A /\ derivesF t w (q.right.take k) i w.length=true:=by
 have hah:∀ {p k:Nat} {q:Pr},g.prods[p]?=some q->aheadF g (p,k)=q.right[k]?:=fun {p k q} hq=>by
  unfold aheadF rightOf;simp [hq]
 unfold mayR hitsF;rw [List.any_eq_true]
 constructor
 ·rintro ⟨x,hx,hy⟩;obtain ⟨p,_,h2⟩:=List.mem_flatMap.1 hx
  cases hq:g.prods[p]? with
  | none=>rw [hq] at h2;cases h2
  | some q =>
   rw [hq] at h2;dsimp only at h2;unfold hitsP at h2
   split at h2
   ·cases h2
   ·next hr =>
    obtain ⟨i,h3,h4⟩:=List.mem_flatMap.1 h2
    split at h4
    ·next ha =>
     obtain ⟨k,h5,rfl⟩:=List.mem_map.1 h4;obtain ⟨h7,h8⟩:=List.mem_filter.1 h5;rw [hah hq] at hy
     cases hk:q.right[k]? with
     | none=>rw [hk] at hy;cases hy
     | some y =>
      rw [hk] at hy;simp at hy;exact ⟨p,q,i,k,y,hq,hr,by simp at h3;omega,ha,hk,hy.1,hy.2,h8⟩
    ·cases h4
 ·rintro ⟨p,q,i,k,y,hq,hr,hi,ha,hy,h1,h2,hd⟩;refine ⟨(p,k),List.mem_flatMap.2 ⟨p,by simp;exact (gS.1 hq).1,?_⟩,?_⟩
  ·rw [hq];dsimp only;unfold hitsP;rw [if_neg hr];refine List.mem_flatMap.2 ⟨i,by simp;omega,?_⟩;rw [if_pos ha];have:=(gS.1 hy).1;exact List.mem_map.2 ⟨k,List.mem_filter.2 ⟨by simp;omega,hd⟩,rfl⟩
  ·rw [hah hq,hy];simp [h1,h2]
theorem NoMay.done {g:Gr} {w:List UInt8} {t:Tbl} {a:Tba} {A:Int} {p:Nat} (h:NoMay g w t a A p 0 0) (hp:g.prods.length<=p):mayR g w t a A=false:=by
 rw [Bool.eq_false_iff];intro hm;obtain ⟨p',q,i,k,y,hq,hr,hi,ha,hy,h1,h2,hd⟩:=mayR_iff.1 hm;rw [h p' q i k y (by have:=(gS.1 hq).1;unfold bef3;omega) hq hr hi ha hy h1 h2] at hd
 cases hd
end Go.Proofs.YthiochcpmfkgcaaGreatDoor.Gl
namespace Go.Proofs.YthiochcpmfkgcaaGreatDoor.Gl
open Go Go.RowKit Go.Proofs Go.Maps Go.WideMaps Mx Tb
theorem whole_bad {g:Gr} {txt:List UInt8} {bud:Int} (hc:chkN g=160):wholeF g txt bud=(160,none):=by
 unfold wholeF askF;rw [if_neg (by rw [hc];decide)]
theorem row_led {g:Gr} {l:List St} {txt:List UInt8} {B:Nat} {r:Rn} (h:goneF (tabF g l) txt B=.ok r) (s:Nat):s∈rowF r txt.length↔LN (tabF g l) txt (s,txt.length) :=
 rowF_mem.trans ((ended h).1.nodes _)
theorem sorts_law {g:Gr} {txt:List UInt8} (hG:chkN g=0->Tb.Good g) (hl:txt.length<=4096) {bud:Int} (hb:0<=bud) :
  (chkN g=160 /\ sortsF g txt bud=(160,[])) ∨
  (chkN g=0 /\ (makeF g).isNone=true /\ sortsF g txt bud=(3,[])) ∨
  (chkN g=0 /\ (makeF g).isNone=false /\ sortsF g txt bud=(200,[])) ∨
  (chkN g=0 /\ (makeF g).isNone=false /\ ∃ f:Nat->Bool,sortsF g txt bud=(0,(List.range g.sorts.length).filter f) /\ ∀ (t:Tbl) (a:Tba),RefOk g txt t a->∀ s:Nat,mayR g txt t a (s:Int)=f s):=by
 rcases Or.symm (chk_two g) with hc | hc
 ·exact .inl ⟨hc,by unfold sortsF;rw [whole_bad hc]⟩
 rcases whole_made (txt:=txt) hc hl hb with ⟨h1,h2⟩ | ⟨l,h1,h2 | ⟨r,h2⟩⟩
 ·exact .inr (.inl ⟨hc,by rw [h1];rfl,by unfold sortsF;rw [h2]⟩)
 ·exact .inr (.inr (.inl ⟨hc,by rw [h1];rfl,by unfold sortsF;rw [h2]⟩))
 ·refine .inr (.inr (.inr ⟨hc,by rw [h1];rfl,fun s=>(rowF r txt.length).any fun n=>((tabF g l).goto_ n (s:Int)).isSome,by unfold sortsF;rw [h2],fun t a h s=>?_⟩));obtain ⟨_,_,_,hmk,_,hgo⟩:=whole_ok h2;exact may_ref (gsets (hG hc)).1 (Tb.makeF_law hmk) h (row_led hgo) _
def fewB (g:Gr) (n:Nat):Bool :=
 decide (g.sorts.length<=12)&&decide (g.prods.length<=25)&&decide (n<=8)&&decide (g.forbid.length<=30)&&decide (g.follow.length<=12)&&g.prods.all (fun p=>decide (p.right.length<=5))
structure FewG (g:Gr):Prop where
 sorts:g.sorts.length<=12
 prods:g.prods.length<=25
 forbid:g.forbid.length<=30
 follow:g.follow.length<=12
 right:∀ p∈g.prods,p.right.length<=5
theorem few_iff {g:Gr} {n:Nat}:fewB g n=true↔FewG g /\ n<=8:=by
 unfold fewB;simp only [Bool.and_eq_true,decide_eq_true_eq,List.all_eq_true]
 constructor
 ·rintro ⟨⟨⟨⟨⟨h1,h2⟩,h3⟩,h4⟩,h5⟩,h6⟩;exact ⟨⟨h1,h2,h4,h5,h6⟩,h3⟩
 ·rintro ⟨⟨h1,h2,h4,h5,h6⟩,h3⟩;exact ⟨⟨⟨⟨⟨h1,h2⟩,h3⟩,h4⟩,h5⟩,h6⟩
theorem few_no {g:Gr} {n:Nat} (h:12<g.sorts.length∨25<g.prods.length∨8<n∨30<g.forbid.length∨12<g.follow.length∨∃ p∈g.prods,5<p.right.length):false=fewB g n:=by
 cases hf:fewB g n with
 | false=>rfl
 | true =>
  obtain ⟨h1,h2⟩:=few_iff.1 hf;have:=h1.sorts;have:=h1.prods;have:=h1.forbid;have:=h1.follow
  rcases h with h | h | h | h | h | ⟨p,hp,h⟩
  ·omega
  ·omega
  ·omega
  ·omega
  ·omega
  ·have:=h1.right p hp;omega
theorem few_any (g:Gr) (N:Nat) (hN:N<=2000000) (w:World) (sv pv fv lv:Value) (hG:GramAt w N g sv pv fv lv) (tb:ByteArray) (htb:tb.size<=2000000) :
  Calls Tryz.prog 9 #[.agg #[sv,pv,.int .i64 g.start,fv,lv],.string tb] w fun e w'=>e=.returned (.bool (fewB g tb.size)) /\ Below w.heap.size w w':=by
 obtain ⟨sa,sc,rfl⟩:=slice_shape hG.sorts;obtain ⟨pa,pc,rfl⟩:=prodsAt_shape hG.prodsAt;obtain ⟨fa,fc,rfl⟩:=slice_shape hG.forbid;obtain ⟨la,lc,rfl⟩:=slice_shape hG.follow;have n1:=hG.nsorts;have n2:=hG.nprods;have n3:=hG.nforbid;have n4:=hG.nfollow;have H:=Z2.mk hG.prodsAt hG.ok;clear hG;go_enter Tryz.func9,Tryz.ntmps9;have hbl:=(bR w.heap.size w).alloc (nR _) (.cells #[.slice sa g.sorts.length sc,.slice pa g.prods.length pc,.int .i64 g.start,.slice fa g.forbid.length fc,.slice la g.follow.length lc] 27);have HB:=Hd hbl
 by_cases c1:12<g.sorts.length
 ·have d1:(12:Int)<g.sorts.length:=by omega
  have HV:=Hd (few_no (n:=tb.size) (.inl c1));clear c1 hbl;go_wp2_with fail
  go_ret;exact ⟨ret_bool HV.out,HB.out⟩
 have d1:¬ (12:Int)<g.sorts.length:=by omega
 by_cases c2:25<g.prods.length
 ·have d2:(25:Int)<g.prods.length:=by omega
  have HV:=Hd (few_no (n:=tb.size) (.inr (.inl c2)));clear c1 c2 hbl;go_wp2_with fail
  go_ret;exact ⟨ret_bool HV.out,HB.out⟩
 have d2:¬ (25:Int)<g.prods.length:=by omega
 by_cases c5:8<tb.size
 ·have d5:(8:Int)<tb.size:=by omega
  have HV:=Hd (few_no (g:=g) (.inr (.inr (.inl c5))));clear c1 c2 c5 hbl;go_wp2_with fail
  go_ret;exact ⟨ret_bool HV.out,HB.out⟩
 have d5:¬ (8:Int)<tb.size:=by omega
 by_cases c3:30<g.forbid.length
 ·have d3:(30:Int)<g.forbid.length:=by omega
  have HV:=Hd (few_no (n:=tb.size) (.inr (.inr (.inr (.inl c3)))));clear c1 c2 c3 c5 hbl;go_wp2_with fail
  go_ret;exact ⟨ret_bool HV.out,HB.out⟩
 have d3:¬ (30:Int)<g.forbid.length:=by omega
 by_cases c4:12<g.follow.length
 ·have d4:(12:Int)<g.follow.length:=by omega
  have HV:=Hd (few_no (n:=tb.size) (.inr (.inr (.inr (.inr (.inl c4))))));clear c1 c2 c3 c4 c5 hbl;go_wp2_with fail
  go_ret;exact ⟨ret_bool HV.out,HB.out⟩
 have d4:¬ (12:Int)<g.follow.length:=by omega
 have HC:=Z5.mk c1 c2 c3 c4 c5;have hp25:g.prods.length<=25:=by omega
 clear c1 c2 c3 c4 c5;go_wp2_with fail
 clear d1 d2 d3 d4 d5 n1 n3 n4;have hB1:Blk (w.alloc (.cells #[.slice sa g.sorts.length sc,.slice pa g.prods.length pc,.int .i64 g.start,.slice fa g.forbid.length fc,.slice la g.follow.length lc] 27)) w.heap.size 27 #[.slice sa g.sorts.length sc,.slice pa g.prods.length pc,.int .i64 g.start,.slice fa g.forbid.length fc,.slice la g.follow.length lc]:=Blk.new _ _ _;generalize (w.alloc (.cells #[.slice sa g.sorts.length sc,.slice pa g.prods.length pc,.int .i64 g.start,.slice fa g.forbid.length fc,.slice la g.follow.length lc] 27))=W1 at hB1 hbl HB ⊢;clear hbl;have q1:=hB1.cell 1;simp at q1
 go_loopg [5] g.prods.length (fun m v5 wr=>∃ i:Nat,i<=g.prods.length /\ m=g.prods.length - i /\ v5=.int .i64 i /\ (∀ p∈g.prods.take i,p.right.length<=5) /\ wr=W1)
 case atStart=>exact ⟨0,Nat.zero_le _,rfl,rfl,by simp,rfl⟩
 case round =>
  obtain ⟨i,hi,hm,rfl,hcons,rfl⟩:=hrel
  by_cases hlt:i<g.prods.length
  ·obtain ⟨p,hp⟩:∃ p,g.prods[i]?=some p:=⟨_,gE hlt⟩;obtain ⟨cap,b,o,vr,epv,hbl,hvr,hpc⟩:=H.o1.at_ hp;injection epv with e1 e2 e3;subst e1;subst e3;obtain ⟨ra,rc,rfl,_,_,_⟩:=hvr;have f1:=(wB (HB.out.block b hbl)).trans (hpc 1 _ rfl);have hok:=H.o2 p (gM hp);have hr:=hok.1;have hi0:(0:Int)<=i:=by omega
   have hi1:(i:Int)<g.prods.length:=by omega
   have HS:=Z3.mk hp hcons hm;clear hp hok hpc hcons hm
   by_cases hc:5<p.right.length
   ·have hd:(5:Int)<p.right.length:=by omega
    have HV:=Hd (few_no (g:=g) (n:=tb.size) (.inr (.inr (.inr (.inr (.inr ⟨p,gM HS.o1,hc⟩))))));clear hc;go_wp2_with fail
    go_ret;exact ⟨ret_bool HV.out,HB.out⟩
   ·have hd:¬ (5:Int)<p.right.length:=by omega
    have HD:=Hd hc;clear hc;go_wp2_with fail
    go_roundg (g.prods.length - (i+1))
    case measure=>have:=HS.o3;omega
    case rel =>
     refine ⟨i+1,by omega,rfl,rfl,?_,rfl⟩;intro x hx;rw [List.take_add_one,HS.o1] at hx
     rcases List.mem_append.1 hx with hx | hx
     ·exact HS.o2 x hx
     ·simp at hx;subst hx;have:=HD.out;omega
  ·obtain rfl:i=g.prods.length:=by omega
   rw [List.take_length] at hcons;have hV:true=fewB g tb.size:=by
    symm;have:=(A5 HC.o1 HC.o2 HC.o3 HC.o4 HC.o5);exact few_iff.2 ⟨⟨by omega,by omega,by omega,by omega,hcons⟩,by omega⟩
   have HV:=Hd hV;clear hV hcons hm;go_wp2_with fail
   go_ret;exact ⟨ret_bool HV.out,HB.out⟩
theorem good_few {g:Gr} {w:World} {N:Nat} {sv pv fv lv:Value} (hG:GramAt w N g sv pv fv lv) (hv:g.prods.length<=25) (hc:chkN g=0):Tb.Good g:=by
 have hck:checkB g=true:=by
  unfold chkN at hc
  split at hc
  ·assumption
  ·exact absurd hc (by decide)
 unfold checkB at hck;simp only [Bool.and_eq_true] at hck;obtain ⟨⟨⟨h1,h2⟩,h3⟩,h4⟩:=hck;have hs:=(sortsB_iff g).1 h1;unfold prodsB at h2;simp only [Bool.and_eq_true,List.all_eq_true] at h2;have hpr:∀ p∈g.prods,headB g p=true /\ ∀ s∈p.right,symB g p.role s=true:=fun p hp=>by
  have:=h2.1 p hp;unfold prodB at this;simp only [Bool.and_eq_true,List.all_eq_true] at this;exact this
 refine ⟨by omega,hs.many,hs.start,fun p hp=>?_,fun p hp=>?_,fun p hp s hsm=>?_⟩
 ·have h:=(hpr p hp).1;unfold headB inB at h;simp at h;exact h.1.1.1.1.1.1.1
 ·have h:=(hpr p hp).1;unfold headB inB at h;simp at h;have:=h.1.1.1.1.1.1.2;omega
 ·have h:=(hpr p hp).2 s hsm;have hok:=((hG.ok p hp).2.2.1 s hsm)
  rcases sym_arms g p.role s with ⟨hh,_⟩ | ⟨hh,_⟩ | ⟨hh,a,b,c⟩ | ⟨hh,_⟩ | ⟨hh,_⟩ | ⟨hh,_⟩ | ⟨hh,a,b,c,d⟩ | ⟨hh,_⟩
  all_goals first | (rw [h] at hh;cases hh;done) | skip
  ·exact .inl ⟨a,c,b,hok.1⟩
  ·unfold inB at c;simp at c;exact .inr ⟨a,b,c.1,c.2⟩
theorem grw_few {g:Gr} {w:World} {N:Nat} {sv pv fv lv:Value} (hN:N<=2000000) (hG:GramAt w N g sv pv fv lv) (hv:g.prods.length<=25) (he:EnvG w) (txt:List UInt8) (ht:txt.length<=100000) :
  GrW g ⟨sv,pv,g.start,fv,lv,.pointer none,txt⟩ w:=by
 obtain ⟨fa,fc,rfl⟩:=slice_shape hG.forbid;obtain ⟨la,lc,rfl⟩:=slice_shape hG.follow;exact ⟨rfl,hG.sorts,hG.prodsAt,⟨_,_,_,rfl⟩,⟨_,_,_,rfl⟩,fun hc=>good_few hG hv hc,he,fun W hW=>check_any g N hN W sv pv _ _ (hG.keep hW),ht⟩
theorem lim_small {g:Gr} (hF:FewG g) {txt:List UInt8} {bud:Int} (ht:txt.length<=20) (hb:bud<=20000):Lim g txt bud:=lim_few hF.prods hF.right ht hb
theorem many_any (g:Gr) (p:RP) (w:World) (h:GrW g p w) (hc:chkN g=0) :
  Calls Tryz.prog 13 #[.agg #[p.sv,p.pv,.int .i64 p.st,p.fv,p.lv]] w fun e w'=>e=.returned (.bool (makeF g).isNone) /\ Below w.heap.size w w':=by
 obtain ⟨fa,fn,fc,hf⟩:=h.fv;obtain ⟨la,ln,lc,hl⟩:=h.lv;have hck:=h.chk;have hst:=h.start;rw [hst,hf,hl] at hck ⊢;have hb0:=(bR w.heap.size w).alloc (nR _) (.cells #[p.sv,p.pv,.int .i64 g.start,.slice fa fn fc,.slice la ln lc] 27);have HH:=Z4.mk h hck hb0 hc;clear h hck hf hl hst hb0 hc;go_enter Tryz.func13,Tryz.ntmps13;go_wp2_with fail
 have hw1:=HH.o1.below HH.o3;refine (make_any (fun _=>True) g (HH.o1.good HH.o4) _ p.sv p.pv fa la fn fc ln lc hw1.sorts hw1.prods (fun W hW=>by
  have h1:=HH.o2 W (HH.o3.trans (hW.mono HH.o3.size));rw [HH.o4] at h1;exact h1) hw1.env.bru (Nat.le_trans (by decide) hw1.env.big)).mono ?_
 rintro e w2 hT;clear hw1
 rcases hT with ⟨tb',B,sm,hmk,rfl,hTW,hnx,hb3⟩ | ⟨hmk,rfl,hb3⟩
 ·have HF:=Z2.mk hb3 hmk;clear hTW hnx hb3 hmk;go_wp2_with fail
  go_ret;exact ⟨by rw [HF.o2];rfl,HH.o3.trans (HF.o1.mono HH.o3.size)⟩
 ·have HF:=Z2.mk hb3 hmk;clear hb3 hmk;go_wp2_with fail
  go_ret;exact ⟨by rw [HF.o2];rfl,HH.o3.trans (HF.o1.mono HH.o3.size)⟩
def arrF (f:Nat->Value) (n:Nat):Array Value:=((List.range n).map f).toArray
theorem arrF_get (f:Nat->Value) (n i:Nat):(arrF f n)[i]?=if i<n then some (f i) else none:=by
 unfold arrF;simp only [List.getElem?_toArray,List.getElem?_map]
 split
 ·next h=>rw [List.getElem?_range h];rfl
 ·next h=>rw [List.getElem?_eq_none (by simp;omega)];rfl
theorem arrF_size (f:Nat->Value) (n:Nat):(arrF f n).size=n:=by simp [arrF]
theorem arrF_ext {f h:Nat->Value} {n:Nat} (e:∀ i,i<n->f i=h i):arrF f n=arrF h n:=by
 unfold arrF;congr 1;exact List.map_congr_left fun i hi=>e i (by simpa using hi)
theorem arrF_set (f:Nat->Value) (n i:Nat) (v:Value):(arrF f n).setIfInBounds i v=arrF (fun j=>if j=i then v else f j) n:=by
 apply Array.ext_getElem?;intro j;rw [Array.getElem?_setIfInBounds,arrF_get,arrF_get,arrF_size]
 by_cases hj:j=i
 ·subst hj;split <;> simp
 ·rw [if_neg (fun h=>hj h.symm),if_neg hj]
theorem arrF_const (z:Value) (hz:z.cells=#[z]) (n:Nat):madeCells z.cells n=arrF (fun _=>z) n:=by
 rw [hz];apply Array.ext_getElem?;intro j;rw [arrF_get]
 by_cases hj:j<n
 ·rw [if_pos hj];simp [madeCells,hj,Nat.mod_one]
 ·rw [if_neg hj];simp [madeCells,hj]
theorem make_arr (ts te:TypeId) (z:Value) (k:Nat) (hu:Tryz.prog.underlying ts=some (.slice te)) (hi:(Tryz.prog.info? te).map (fun i=>(i.zero,i.size,i.bytes))=some (some z,1,k)) (hz:z.cells=#[z]) (hk:k<=100) (n:Nat) (hn:n<=1000000000) (w:World):(Instr.makeSlice ts (.int .i64 n) (.int .i64 n)).run Tryz.prog w=.ok (.slice (some ⟨w.heap.size,0,none⟩) n n) (w.alloc (.cells (arrF (fun _=>z) n) te)):=by
 obtain ⟨i0,hi,hz0,hz1,hz2⟩:=info_parts hi;have h:=run_make (P:=Tryz.prog) w ts te i0 _ hu hi hz0 .i64 .i64 (n:Int) (n:Int) (by omega) (by omega) (by rw [hz2,<- Int.natCast_mul];have:=Nat.mul_le_mul hk hn;omega) (by omega);rw [hz1,Int.toNat_natCast,Nat.mul_one,arrF_const _ hz] at h;exact h
def RowB (w:World) (g:Nat) (t:TypeId) (f:Nat->Value) (n:Nat):Prop:=Blk w g t (arrF f n)
theorem RowB.cell {w:World} {g n:Nat} {t:TypeId} {f:Nat->Value} (h:RowB w g t f n) {i:Nat} (hi:i<n):w.cell? ⟨g,i,none⟩=some (f i):=by
 have:=Blk.cell h i;rw [this,arrF_get,if_pos hi]
theorem RowB.set_ {w:World} {g n:Nat} {t:TypeId} {f:Nat->Value} (h:RowB w g t f n) (i:Nat) (v:Value):RowB (w.setCell ⟨g,i,none⟩ v) g t (fun j=>if j=i then v else f j) n:=by
 have:=Blk.set_ h i v;rw [arrF_set] at this;exact this
theorem RowB.ext {w:World} {g n:Nat} {t:TypeId} {f f':Nat->Value} (h:RowB w g t f n) (e:∀ i,i<n->f i=f' i):RowB w g t f' n:=by
 unfold RowB at h ⊢;rw [<- arrF_ext e];exact h
theorem r6has_any (M b:Nat) (hb:b<256) (w:World) :
  Calls Tryz.prog 89 #[.agg #[.int .u64 (wd M 0),.int .u64 (wd M 1),.int .u64 (wd M 2),.int .u64 (wd M 3)],.int .u8 (b:Int)] w fun e w'=>e=.returned (.bool (M.testBit b)) /\ Below w.heap.size w w':=by
 have hb0:(0:Int)<=b:=by omega
 obtain ⟨m,hm⟩:∃ m:Nat,b % 64=m:=⟨_,rfl⟩;have hm':(b:Int) % 64=(m:Int):=by omega
 have hm64:(m:Int)<64:=by omega
 have hm0:(0:Int)<=m:=by omega
 have w0:=wd_range M 0;have w1:=wd_range M 1;have w2:=wd_range M 2;have w3:=wd_range M 3
 rcases (show b / 64=0∨b / 64=1∨b / 64=2∨b / 64=3 by omega) with hq | hq | hq | hq
 ·have hq':(b:Int) / 64=0:=by omega
  have HX:=Hd (wd_test M b 0 m hq hm);clear hm hq;go_enter Tryz.func89,Tryz.ntmps89;go_wp2_with fail
  go_ret;exact ⟨ret_bool HX.out,(bR _ w).alloc (nR _) _⟩
 ·have hq':(b:Int) / 64=1:=by omega
  have HX:=Hd (wd_test M b 1 m hq hm);clear hm hq;go_enter Tryz.func89,Tryz.ntmps89;go_wp2_with fail
  go_ret;exact ⟨ret_bool HX.out,(bR _ w).alloc (nR _) _⟩
 ·have hq':(b:Int) / 64=2:=by omega
  have HX:=Hd (wd_test M b 2 m hq hm);clear hm hq;go_enter Tryz.func89,Tryz.ntmps89;go_wp2_with fail
  go_ret;exact ⟨ret_bool HX.out,(bR _ w).alloc (nR _) _⟩
 ·have hq':(b:Int) / 64=3:=by omega
  have HX:=Hd (wd_test M b 3 m hq hm);clear hm hq;go_enter Tryz.func89,Tryz.ntmps89;go_wp2_with fail
  go_ret;exact ⟨ret_bool HX.out,(bR _ w).alloc (nR _) _⟩
def spT (nb i jj M:Nat) (tb:ByteArray) (c:Nat) (br:Bool) (j:Nat) (v:Value) (W:World):Prop :=
 match j with
 | 0=>v=.int .i64 ((i:Int)+1)
 | 1=>v=.int .i64 i
 | 2=>v=.int .i64 ((i:Int)+1)
 | 3=>v=.bool true
 | 4=>v=.bool true
 | 5=>v=.pointer (some ⟨nb,1,none⟩)
 | 6=>v=.agg #[.int .u64 (wd M 0),.int .u64 (wd M 1),.int .u64 (wd M 2),.int .u64 (wd M 3)]
 | 7=>v=.string tb
 | 8=>v=.int .i64 i
 | 9=>v=.int .u8 (c:Int)
 | 10=>v=.bool br
 | 11=>v=.bool (br)
 | _=>True
def spF (nb i jj M:Nat) (tb:ByteArray) (c:Nat) (br:Bool) (j:Nat) (v:Value) (W:World):Prop :=
 match j with
 | 0=>v=.int .i64 jj
 | 1=>v=.int .i64 i
 | 2=>v=.int .i64 ((i:Int)+1)
 | 3=>v=.bool false
 | 4=>v=.bool false
 | 5=>True
 | 6=>True
 | 7=>True
 | 8=>True
 | 9=>True
 | 10=>True
 | 11=>v=.bool false
 | _=>True
structure TblM (S n:Nat) (t:Tbl) (ta:Nat) (mid:Nat->Nat) (row:Nat->Nat->Nat) (W:World):Prop where
 top:RowB W ta 104 (fun s=>.slice (some ⟨mid s,0,none⟩) (n+1) (n+1)) S
 mids:∀ s,s<S->RowB W (mid s) 106 (fun i=>.slice (some ⟨row s i,0,none⟩) (n+1) (n+1)) (n+1)
 rows:∀ s i,s<S->i<=n->RowB W (row s i) 4 (fun j=>.bool (t (s:Int) i j)) (n+1)
theorem TblM.below {S n:Nat} {t:Tbl} {ta:Nat} {mid:Nat->Nat} {row:Nat->Nat->Nat} {W W':World} (h:TblM S n t ta mid row W) (hb:Below W.heap.size W W'):TblM S n t ta mid row W' :=
 ⟨Blk.below h.top hb (Blk.lt h.top),fun s hs=>Blk.below (h.mids s hs) hb (Blk.lt (h.mids s hs)),fun s i hs hi=>Blk.below (h.rows s i hs hi) hb (Blk.lt (h.rows s i hs hi))⟩
def syC (s:Sy):Array Value:=#[.int .i64 s.kind,.int .u64 (wd s.set 0),.int .u64 (wd s.set 1),.int .u64 (wd s.set 2),.int .u64 (wd s.set 3),.int .i64 s.sort]
theorem spans_any (txt:List UInt8) (hn:txt.length<=100000) (S:Nat) (hS:S<=100000) (t:Tbl) (ta:Nat) (mid:Nat->Nat) (row:Nat->Nat->Nat) (w:World) (hT:TblM S txt.length t ta mid row w) (s:Sy) (hk:s.kind=0∨(s.kind=1 /\ 0<=s.sort /\ s.sort<S)) (i j:Nat) (hi:i<=txt.length) (hj:j<=txt.length) :
  Calls Tryz.prog 65 #[.slice (some ⟨ta,0,none⟩) S S,.string ⟨txt.toArray⟩,.agg (syC s),.int .i64 i,.int .i64 j] w fun e w'=>e=.returned (.bool (spansF t txt s i j)) /\ Below w.heap.size w w':=by
 obtain ⟨k,M,so⟩:=s;simp only at hk;unfold syC;simp only;obtain ⟨tb,htb⟩:∃ tb:ByteArray,(⟨txt.toArray⟩:ByteArray)=tb:=⟨_,rfl⟩;have hts:tb.size=txt.length:=by rw [<- htb,ba_len]
 rw [htb];have hbw:=(bR w.heap.size w).alloc (nR _) (.cells #[.int .i64 k,.int .u64 (wd M 0),.int .u64 (wd M 1),.int .u64 (wd M 2),.int .u64 (wd M 3),.int .i64 so] 49)
 rcases hk with rfl | ⟨rfl,h0,h1⟩
 ·have hX:=Blk.new w 49 #[.int .i64 0,.int .u64 (wd M 0),.int .u64 (wd M 1),.int .u64 (wd M 2),.int .u64 (wd M 3),.int .i64 so];have HB:=Z2.mk hbw hX;clear hbw hX;go_enter Tryz.func65,Tryz.ntmps65
  by_cases hij:j=i+1
  ·have hil:i<txt.length:=by omega
   obtain ⟨b,hb⟩:∃ b,txt[i]?=some b:=⟨_,gE hil⟩;have hv:M.testBit b.toNat=spansF t txt ⟨0,M,so⟩ i j:=by
    unfold spansF;rw [if_pos rfl,hb,decide_eq_true hij]
    rfl
   have hbt:b.toNat<256:=b.toNat_lt;obtain ⟨c,hc⟩:=eX b.toNat;have hti:i<tb.size:=by omega
   have htc:tb[i].toNat=c:=by
    rw [<- hc];have h1:tb.data.toList[i]?=some b:=by rw [<- htb];simpa using hb
    have h2:tb[i]=b:=by
     have h3:tb.data.toList[i]?=some tb[i]:=by
      rw [gE (by rw [Array.length_toList];exact hti)]
      rfl
     rw [h1] at h3;exact (Option.some.inj h3).symm
    rw [h2]
   rw [hc] at hv hbt;obtain ⟨br,hbr⟩:=eX (M.testBit c);have HHS:=Hd (show ∀ W,True->Calls Tryz.prog 89 #[.agg #[.int .u64 (wd M 0),.int .u64 (wd M 1),.int .u64 (wd M 2),.int .u64 (wd M 3)],.int .u8 (c:Int)] W fun e w'=>e=.returned (.bool br) /\ Below W.heap.size W w' from fun W _=>by
    have h:=r6has_any M c hbt W;rw [hbr] at h;exact h)
   rw [hbr] at hv;have HV:=Hd hv;have hi0:(0:Int)<=i:=by omega
   have hi1:(i:Int)<tb.size:=by omega
   have dij:(j:Int)=(i:Int)+1:=by omega
   clear hv hbr hb hc hij hts htb;go_upto_region 2 with fail
   have hX1:=HB.o2;have hb1:=HB.o1;generalize (w.alloc (.cells #[.int .i64 0,.int .u64 (wd M 0),.int .u64 (wd M 1),.int .u64 (wd M 2),.int .u64 (wd M 3),.int .i64 so] 49))=w1 at hX1 hb1 ⊢;obtain ⟨nb,hnb⟩:=eX w.heap.size;rw [hnb] at hX1;rw [show (⟨w.heap.size,0,none⟩:Addr)=⟨nb,0,none⟩ by rw [hnb]]
   have HC:=Hd (show ∀ W,Below w1.drew.heap.size w1.drew W->W.cell? ⟨nb,1,none⟩=some (.int .u64 (wd M 0)) /\ W.cell? ⟨nb,2,none⟩=some (.int .u64 (wd M 1)) /\ W.cell? ⟨nb,3,none⟩=some (.int .u64 (wd M 2)) /\ W.cell? ⟨nb,4,none⟩=some (.int .u64 (wd M 3)) from fun W h=>by
    have a1:=hX1.drew.below h hX1.lt;exact ⟨a1.cell 1,a1.cell 2,a1.cell 3,a1.cell 4⟩)
   have HB1:=Hd hb1;clear hX1 hb1 hnb HB;refine wp_region_concG 12 (spT nb i j M tb c br) (fun A W=>Below A.heap.size A W) (fun _ _=>True) [4] (fun j=>match j with | _=>true) (by kernel_rfl) (by kernel_rfl) (by kernel_rfl) (by kernel_rfl) (bR _ _) trivial (fun h k=>h.trans (k.mono h.size)) ⟨fun v w h=>h,trivial⟩ ?_ ?_
   ·simp only [List.take_succ_cons,List.take_zero];refine ⟨?_,?_,?_,?_,?_,?_,?_,?_,?_,?_,?_,?_,trivial⟩
    all_goals try (refine ⟨fun _=>?_,fun h=>absurd h (by decide)⟩;intro L T W hG hJ hLs hLi dq fq vq K hK)
    all_goals try have zk:=fun v=>hK v W (bR _ W) (fun j u _ _ _ h=>h) trivial
    all_goals try have zv:=fun i h=>vq ⟨i,.data⟩ h rfl
    ·have h1:=fq 4 (by decide);simp at h1;go_simp;exact zk _ rfl
    ·have h1:=fq 3 (by decide);simp at h1;go_simp;exact zk _ rfl
    ·have h1:=zv 1 (by simp) 15 rfl;simp [spT] at h1;have hwi:IntKind.i64.wrap ((i:Int)+1)=(i:Int)+1:=IntWalk.i64_in _ (by omega);go_simp;exact zk _ rfl
    ·have h1:=zv 0 (by simp) 14 rfl;have h2:=zv 2 (by simp) 16 rfl;simp [spT] at h1 h2;go_simp;exact zk _ rfl
    ·have h1:=zv 3 (by simp) 17 rfl;simp [spT] at h1;go_simp;exact zk _ rfl
    ·have h1:=fq 7 (by decide);simp at h1;go_simp;exact zk _ rfl
    ·have h1:=zv 5 (by simp) 19 rfl;simp [spT] at h1;obtain ⟨c0,c1,c2,c3⟩:=HC.out W hG;go_simp;exact zk _ rfl
    ·have h1:=fq 1 (by decide);simp at h1;go_simp;exact zk _ rfl
    ·have h1:=fq 3 (by decide);simp at h1;go_simp;exact zk _ rfl
    ·have h1:=zv 7 (by simp) 21 rfl;have h2:=zv 8 (by simp) 22 rfl;simp [spT] at h1 h2;go_simp;exact zk _ rfl
    ·have h1:=zv 6 (by simp) 20 rfl;have h2:=zv 9 (by simp) 23 rfl;simp [spT] at h1 h2;go_simp;refine (HHS.out W trivial).mono ?_;rintro e W2 ⟨rfl,hb2⟩;exact hK _ _ hb2 (fun j u _ _ _ h=>h) trivial rfl
    ·have h1:=zv 4 (by simp) 18 rfl;have h2:=zv 10 (by simp) 24 rfl;simp [spT] at h1 h2;go_simp;exact zk _ rfl
   ·intro f9 w9 hG hJe hR;have e11:=hR 11 25 (by decide) rfl;simp only [concDsts,qZ];simp only [spT] at e11;rw [e11];clear e11 hR;generalize f9 14=v14;generalize f9 15=v15;generalize f9 16=v16;generalize f9 17=v17;generalize f9 18=v18;generalize f9 19=v19;generalize f9 20=v20;generalize f9 21=v21;generalize f9 22=v22;generalize f9 23=v23;generalize f9 24=v24;clear f9;have hb9:=HB1.out.trans (((show Below w1.heap.size w1 w1.drew from (bR _ _).drew).trans hG).mono HB1.out.size);clear hG hJe HC;go_wp2_with fail
    go_ret;exact ⟨ret_bool HV.out,hb9⟩
  ·have hv:false=spansF t txt ⟨0,M,so⟩ i j:=by
    unfold spansF;rw [if_pos rfl,decide_eq_false hij]
    rfl
   have HV:=Hd hv;have dij:((j:Int)==(i:Int)+1)=false:=beq_eq_false_iff_ne.2 (by omega);clear hv hij hts htb;go_upto_region 2 with fail
   have hX1:=HB.o2;have hb1:=HB.o1;generalize (w.alloc (.cells #[.int .i64 0,.int .u64 (wd M 0),.int .u64 (wd M 1),.int .u64 (wd M 2),.int .u64 (wd M 3),.int .i64 so] 49))=w1 at hX1 hb1 ⊢;obtain ⟨nb,hnb⟩:=eX w.heap.size;rw [hnb] at hX1;rw [show (⟨w.heap.size,0,none⟩:Addr)=⟨nb,0,none⟩ by rw [hnb]]
   have HC:=Hd (show ∀ W,Below w1.drew.heap.size w1.drew W->W.cell? ⟨nb,1,none⟩=some (.int .u64 (wd M 0)) /\ W.cell? ⟨nb,2,none⟩=some (.int .u64 (wd M 1)) /\ W.cell? ⟨nb,3,none⟩=some (.int .u64 (wd M 2)) /\ W.cell? ⟨nb,4,none⟩=some (.int .u64 (wd M 3)) from fun W h=>by
    have a1:=hX1.drew.below h hX1.lt;exact ⟨a1.cell 1,a1.cell 2,a1.cell 3,a1.cell 4⟩)
   have HB1:=Hd hb1;clear hX1 hb1 hnb HB;refine wp_region_concG 12 (spF nb i j M tb 0 false) (fun A W=>Below A.heap.size A W) (fun _ _=>True) [4] (fun j=>match j with | _=>false) (by kernel_rfl) (by kernel_rfl) (by kernel_rfl) (by kernel_rfl) (bR _ _) trivial (fun h k=>h.trans (k.mono h.size)) ⟨fun v w h=>h,trivial⟩ ?_ ?_
   ·simp only [List.take_succ_cons,List.take_zero];refine ⟨?_,?_,?_,?_,?_,?_,?_,?_,?_,?_,?_,?_,trivial⟩
    all_goals try (refine ⟨fun _=>?_,fun h=>absurd h (by decide)⟩;intro L T W hG hJ hLs hLi dq fq vq K hK)
    all_goals try have zk:=fun v=>hK v W (bR _ W) (fun j u _ _ _ h=>h) trivial
    all_goals try have zv:=fun i h=>vq ⟨i,.data⟩ h rfl
    ·have h1:=fq 4 (by decide);simp at h1;go_simp;exact zk _ rfl
    ·have h1:=fq 3 (by decide);simp at h1;go_simp;exact zk _ rfl
    ·have h1:=zv 1 (by simp) 15 rfl;simp [spF] at h1;have hwi:IntKind.i64.wrap ((i:Int)+1)=(i:Int)+1:=IntWalk.i64_in _ (by omega);go_simp;exact zk _ rfl
    ·have h1:=zv 0 (by simp) 14 rfl;have h2:=zv 2 (by simp) 16 rfl;simp [spF] at h1 h2;go_simp;exact zk _ rfl
    ·have h1:=zv 3 (by simp) 17 rfl;simp [spF] at h1;go_simp;exact zk _ rfl
    ·exact ⟨fun h=>absurd h (by decide),fun _ L W hG hJ=>⟨(bR _ W),trivial,trivial⟩⟩
    ·exact ⟨fun h=>absurd h (by decide),fun _ L W hG hJ=>⟨(bR _ W),trivial,trivial⟩⟩
    ·exact ⟨fun h=>absurd h (by decide),fun _ L W hG hJ=>⟨(bR _ W),trivial,trivial⟩⟩
    ·exact ⟨fun h=>absurd h (by decide),fun _ L W hG hJ=>⟨(bR _ W),trivial,trivial⟩⟩
    ·exact ⟨fun h=>absurd h (by decide),fun _ L W hG hJ=>⟨(bR _ W),trivial,trivial⟩⟩
    ·exact ⟨fun h=>absurd h (by decide),fun _ L W hG hJ=>⟨(bR _ W),trivial,trivial⟩⟩
    ·have h1:=zv 4 (by simp) 18 rfl;simp [spF] at h1;go_simp;exact zk _ rfl
   ·intro f9 w9 hG hJe hR;have e11:=hR 11 25 (by decide) rfl;simp only [concDsts,qZ];simp only [spF] at e11;rw [e11];clear e11 hR;generalize f9 14=v14;generalize f9 15=v15;generalize f9 16=v16;generalize f9 17=v17;generalize f9 18=v18;generalize f9 19=v19;generalize f9 20=v20;generalize f9 21=v21;generalize f9 22=v22;generalize f9 23=v23;generalize f9 24=v24;clear f9;have hb9:=HB1.out.trans (((show Below w1.heap.size w1 w1.drew from (bR _ _).drew).trans hG).mono HB1.out.size);clear hG hJe HC;go_wp2_with fail
    go_ret;exact ⟨ret_bool HV.out,hb9⟩
 ·obtain ⟨sn,rfl⟩:∃ sn:Nat,so=sn:=⟨so.toNat,by omega⟩;have hTB:=hT.below hbw;have c1:=hTB.top.cell (i:=sn) (by omega);have c2:=(hTB.mids sn (by omega)).cell (i:=i) (by omega);have c3:=(hTB.rows sn i (by omega) hi).cell (i:=j) (by omega)
  have hv:t (sn:Int) i j=spansF t txt ⟨1,M,(sn:Int)⟩ i j:=by
   unfold spansF;rw [if_neg (show ¬ (1:Int)=0 by decide)]
  have hi0:(0:Int)<=i:=by omega
  have hi1:(i:Int)<txt.length+1:=by omega
  have hj0:(0:Int)<=j:=by omega
  have hj1:(j:Int)<txt.length+1:=by omega
  obtain ⟨br,hbr⟩:=eX (t (sn:Int) i j);rw [hbr] at hv c3;have HV:=Z2.mk hv hbw;clear hv hbr hbw hTB hT hts htb;go_enter Tryz.func65,Tryz.ntmps65;go_wp2_with fail
  go_ret;exact ⟨ret_bool HV.o1,HV.o2⟩
end Go.Proofs.YthiochcpmfkgcaaGreatDoor.Gl
