/- Walks and plain laws that the last text stands on: GlRefF, GlMay, GlNextR. -/
import Derived.Test.YthiochcpmfkgcaaGreatDoorPx24
set_option linter.unusedVariables false
set_option linter.unusedSimpArgs false
set_option maxRecDepth 100000
set_option maxHeartbeats 16000000
namespace Go.Proofs.YthiochcpmfkgcaaGreatDoor.Gl
open Go Go.RowKit Go.Proofs Go.Maps Mx Tb
structure MkA (nb S n s ta:Nat) (mid:Nat->Nat) (W:World):Prop where
 top:RowB W ta 106 (fun x=>if x<s then .slice (some ⟨mid x,0,none⟩) (n+1) (n+1) else .slice none 0 0) S
 rows:∀ x,x<s->RowB W (mid x) 4 (fun _=>.bool false) (n+1)
 inj:∀ x x',x<s->x'<s->mid x=mid x'->x=x'
 lowt:nb<=ta
 lowm:∀ x,x<s->nb<=mid x
theorem MkA.below {nb S n s ta:Nat} {mid:Nat->Nat} {W W':World} (h:MkA nb S n s ta mid W) (hb:Below W.heap.size W W'):MkA nb S n s ta mid W' :=
 ⟨Blk.below h.top hb (Blk.lt h.top),fun s hs=>Blk.below (h.rows s hs) hb (Blk.lt (h.rows s hs)),h.inj,h.lowt,h.lowm⟩
theorem MkA.first {nb S n:Nat} {ta:Nat} {W:World} (h:RowB W ta 106 (fun _=>.slice none 0 0) S) (hl:nb<=ta):MkA nb S n 0 ta (fun _=>0) W :=
 ⟨h.ext fun x _=>by rw [if_neg (by omega)],fun x hx=>by omega,fun x x' hx=>by omega,hl,fun x hx=>by omega⟩
theorem MkA.mid {nb S n s ta m:Nat} {mid:Nat->Nat} {W:World} (h:MkA nb S n s ta mid W) (hm:RowB W m 4 (fun _=>.bool false) (n+1)) (hl:nb<=m) (hf:∀ x,x<s->mid x≠m) :
  MkA nb S n (s+1) ta (fun x=>if x=s then m else mid x) (W.setCell ⟨ta,s,none⟩ (.slice (some ⟨m,0,none⟩) (n+1) (n+1))):=by
 refine ⟨?_,fun x hx=>?_,fun x x' hx hx' e=>?_,h.lowt,fun x hx=>?_⟩
 ·refine (h.top.set_ s _).ext fun x hx=>?_
  by_cases hxs:x=s
  ·rw [if_pos hxs,if_pos (by omega),if_pos hxs]
  ·rw [if_neg hxs]
   by_cases hlt:x<s
   ·rw [if_pos hlt,if_pos (by omega),if_neg hxs]
   ·rw [if_neg hlt,if_neg (by omega)]
 ·by_cases hxs:x=s
  ·rw [if_pos hxs];exact Blk.far hm (p:=⟨ta,s,none⟩) (blk_types hm h.top (by decide)) _
  ·rw [if_neg hxs];have h0:=h.rows x (by omega);exact Blk.far h0 (p:=⟨ta,s,none⟩) (blk_types h0 h.top (by decide)) _
 ·have e:=e
  by_cases h1:x=s
  ·by_cases h2:x'=s
   ·omega
   ·rw [if_pos h1,if_neg h2] at e;exact absurd e.symm (hf x' (by omega))
  ·by_cases h2:x'=s
   ·rw [if_neg h1,if_pos h2] at e;exact absurd e (hf x (by omega))
   ·rw [if_neg h1,if_neg h2] at e;exact h.inj x x' (by omega) (by omega) e
 ·skip
  split
  ·exact hl
  ·exact h.lowm x (by omega)
theorem MkA.whole {nb S n ta:Nat} {mid:Nat->Nat} {W:World} (h:MkA nb S n S ta mid W):TbaM S n (fun _ _=>false) ta mid W /\ MidInj S mid /\ ∀ s,s<S->nb<=mid s :=
 ⟨⟨h.top.ext fun x hx=>by rw [if_pos hx],h.rows⟩,h.inj,h.lowm⟩
structure SvI (w:World) (nb S n ta:Nat) (mid:Nat->Nat) (cs:Array Value) (a:Tba) (W:World):Prop where
 gr:Blk W nb 27 cs
 tab:TbaM S n a ta mid W
 low:Below nb w W
theorem SvI.below {w:World} {nb S n ta:Nat} {mid:Nat->Nat} {cs:Array Value} {a:Tba} {W W':World} (h:SvI w nb S n ta mid cs a W) (hn:nb<=w.heap.size) (hb:Below W.heap.size W W'):SvI w nb S n ta mid cs a W' :=
 ⟨h.gr.below hb h.gr.lt,h.tab.below hb,h.low.trans (hb.mono (Nat.le_trans hn h.low.size))⟩
theorem SvI.set {w:World} {nb S n ta:Nat} {mid:Nat->Nat} {cs:Array Value} {a:Tba} {W:World} (h:SvI w nb S n ta mid cs a W) (hinj:MidInj S mid) (hl:∀ s,s<S->nb<=mid s) {s i:Nat} (hs:s<S) (hi:i<=n):SvI w nb S n ta mid cs (setA a (s:Int) i) (W.setCell ⟨mid s,i,none⟩ (.bool true)) :=
 ⟨Blk.far h.gr (p:=⟨mid s,i,none⟩) (blk_types h.gr (h.tab.rows s hs) (by decide)) _,h.tab.set hinj hs hi,h.low.setCell (p:=⟨mid s,i,none⟩) (hl s hs) _⟩
theorem SvI.far {w:World} {nb S n ta:Nat} {mid:Nat->Nat} {cs:Array Value} {a:Tba} {W:World} (h:SvI w nb S n ta mid cs a W) {xb:Nat} {f:Nat->Value} {k:Nat} (hx:RowB W xb 4 f k) (hne:∀ s,s<S->mid s≠xb) (hl:nb<=xb) (i:Nat) (u:Value):SvI w nb S n ta mid cs a (W.setCell ⟨xb,i,none⟩ u) :=
 ⟨Blk.far h.gr (p:=⟨xb,i,none⟩) (blk_types h.gr hx (by decide)) _,⟨Blk.far h.tab.top (p:=⟨xb,i,none⟩) (blk_types h.tab.top hx (by decide)) _,fun s hs=>Blk.far (h.tab.rows s hs) (p:=⟨xb,i,none⟩) (hne s hs) _⟩,h.low.setCell (p:=⟨xb,i,none⟩) hl _⟩
theorem SvI.cells {w:World} {nb S n ta:Nat} {mid:Nat->Nat} {cs:Array Value} {a:Tba} {W:World} (h:SvI w nb S n ta mid cs a W) {s i:Nat} (hs:s<S) (hi:i<=n):W.cell? ⟨ta,s,none⟩=some (.slice (some ⟨mid s,0,none⟩) (n+1) (n+1)) /\ W.cell? ⟨mid s,i,none⟩=some (.bool (a (s:Int) i)) /\ W.frozen? ⟨mid s,i,none⟩=false :=
 ⟨h.tab.top.cell hs,(h.tab.rows s hs).cell (by omega),Blk.frozen (h.tab.rows s hs) _⟩
structure SxI (w:World) (nb S n ta:Nat) (mid:Nat->Nat) (cs:Array Value) (hb xb pb sb:Nat) (pcs scs:Array Value) (here:Nat->Bool) (a:Tba) (next:Nat->Bool) (W:World):Prop where
 st:SvI w nb S n ta mid cs a W
 he:RowB W hb 4 (fun x=>.bool (here x)) (n+1)
 nx:RowB W xb 4 (fun x=>.bool (next x)) (n+1)
 pr:Blk W pb 53 pcs
 sy:Blk W sb 49 scs
section
variable {w:World} {nb S n ta:Nat} {mid:Nat → Nat} {cs:Array Value} {hb xb pb sb:Nat} {pcs scs:Array Value} {here:Nat → Bool} {a:Tba} {next:Nat → Bool} {W W':World}
theorem SxI.below (h:SxI w nb S n ta mid cs hb xb pb sb pcs scs here a next W) (hn:nb<=w.heap.size) (k:Below W.heap.size W W'):SxI w nb S n ta mid cs hb xb pb sb pcs scs here a next W' :=
 ⟨h.st.below hn k,Blk.below h.he k (Blk.lt h.he),Blk.below h.nx k (Blk.lt h.nx),h.pr.below k h.pr.lt,h.sy.below k h.sy.lt⟩
theorem SxI.setA_ (h:SxI w nb S n ta mid cs hb xb pb sb pcs scs here a next W) (hinj:MidInj S mid) (hl:∀ s,s<S->nb<=mid s) (hh:∀ s,s<S->mid s≠hb) (hx:∀ s,s<S->mid s≠xb) {s i:Nat} (hs:s<S) (hi:i<=n):SxI w nb S n ta mid cs hb xb pb sb pcs scs here (setA a (s:Int) i) next (W.setCell ⟨mid s,i,none⟩ (.bool true)) :=
 ⟨h.st.set hinj hl hs hi,Blk.far h.he (p:=⟨mid s,i,none⟩) (hh s hs).symm _,Blk.far h.nx (p:=⟨mid s,i,none⟩) (hx s hs).symm _,Blk.far h.pr (p:=⟨mid s,i,none⟩) (blk_types h.pr (h.st.tab.rows s hs) (by decide)) _,Blk.far h.sy (p:=⟨mid s,i,none⟩) (blk_types h.sy (h.st.tab.rows s hs) (by decide)) _⟩
theorem SxI.setN (h:SxI w nb S n ta mid cs hb xb pb sb pcs scs here a next W) (hx:∀ s,s<S->mid s≠xb) (hhx:hb≠xb) (hl:nb<=xb) (m:Nat):SxI w nb S n ta mid cs hb xb pb sb pcs scs here a (fun x=>if x=m then true else next x) (W.setCell ⟨xb,m,none⟩ (.bool true)) :=
 ⟨h.st.far h.nx hx hl m _,Blk.far h.he (p:=⟨xb,m,none⟩) hhx _,(h.nx.set_ m _).ext fun x _=>by split <;> rfl,Blk.far h.pr (p:=⟨xb,m,none⟩) (blk_types h.pr h.nx (by decide)) _,Blk.far h.sy (p:=⟨xb,m,none⟩) (blk_types h.sy h.nx (by decide)) _⟩
end
theorem make_bools2 (n:Nat) (hn:n<=1000000000) (w:World):(Instr.makeSlice 104 (.int .i64 n) (.int .i64 n)).run Tryz.prog w=.ok (.slice (some ⟨w.heap.size,0,none⟩) n n) (w.alloc (.cells (arrF (fun _=>.slice none 0 0) n) 106)):=make_boolss n hn w
theorem setA_keep {a:Tba} {A B:Int} {i j:Nat} (h:a A i=true):setA a B j A i=true:=by
 unfold setA
 split
 ·rfl
 ·exact h
theorem starts_any (g:Gr) (hg:Tb.Good g) (txt:List UInt8) (hn:txt.length<=100000) (sv pv fv lv:Value) (w:World) (hsv:SliceK (fun _=>True) Tb.encS 1 w sv g.sorts) (hpv:ProdsAt (fun _=>True) w pv g.prods) (t:Tbl) (tt:Nat) (tmid:Nat->Nat) (trow:Nat->Nat->Nat) (hT:TblM g.sorts.length txt.length t tt tmid trow w) (hok:TblOk g txt t) (hsn:Snd g txt t) :
  Calls Tryz.prog 40 #[.agg #[sv,pv,.int .i64 g.start,fv,lv],.string ⟨txt.toArray⟩,.slice (some ⟨tt,0,none⟩) g.sorts.length g.sorts.length] w fun e w'=>∃ (a:Tba) (ta:Nat) (mid:Nat->Nat),e=.returned (.slice (some ⟨ta,0,none⟩) g.sorts.length g.sorts.length) /\ RefOk g txt t a /\ TbaM g.sorts.length txt.length a ta mid w' /\ Below w.heap.size w w':=by
 obtain ⟨sa,sc,rfl⟩:=slice_shape hsv;obtain ⟨pa,pc,rfl⟩:=prodsAt_shape hpv;obtain ⟨tb,htb⟩:∃ tb:ByteArray,(⟨txt.toArray⟩:ByteArray)=tb:=⟨_,rfl⟩;have htz:txt.length=tb.size:=by rw [<- htb,ba_len]
 rw [htb];have hnz:tb.size<=100000:=by rw [<- htz];exact hn
 have hkd:∀ p,∀ s∈rightOf g p,s.kind=0∨s.kind=1:=fun p s hs=>by
  unfold rightOf at hs
  cases hp:g.prods[p]? with
  | none=>rw [hp] at hs;cases hs
  | some q=>rw [hp] at hs;rcases hg.sym q (gM hp) s hs with h | h;exact .inl h.1;exact .inr h.1
 have HH:=Z9.mk hg hpv htz htb hn hT hok hsn hkd;have hS:=hg.sorts;obtain ⟨S,hSd⟩:=eX g.sorts.length;obtain ⟨gs,hgs⟩:∃ gs:Nat,g.start=gs:=⟨g.start.toNat,by have:=hg.start;omega⟩;have hgS:gs<S:=by have:=hg.start;omega
 have HSd:=Z2.mk hSd hgs;rw [hSd] at hS ⊢;have hmt:=fun w=>make_bools2 S (by omega) w;have hmm:=fun w=>make_bools (tb.size+1) (by omega) w;simp only [Int.natCast_add,Int.cast_ofNat_Int] at hmm;obtain ⟨NP,hNP⟩:=eX g.prods.length;have HNP:=Hd hNP;have hNPl:=hg.prods;rw [hNP] at hNPl ⊢;rw [hgs];clear hg hsv hpv htz htb hSd hgs hNP hn hT hok hsn hkd;go_enter Tryz.func40,Tryz.ntmps40;go_upto_region 1 with fail
 have hGB:Blk (w.alloc (.cells #[.slice sa S sc,.slice pa NP pc,.int .i64 gs,fv,lv] 27)) w.heap.size 27 #[.slice sa S sc,.slice pa NP pc,.int .i64 gs,fv,lv]:=Blk.new _ _ _;have hb0:Below w.heap.size w (w.alloc (.cells #[.slice sa S sc,.slice pa NP pc,.int .i64 gs,fv,lv] 27)):=(bR _ _).alloc (nR _) _;generalize (w.alloc (.cells #[.slice sa S sc,.slice pa NP pc,.int .i64 gs,fv,lv] 27))=w1 at hGB hb0 ⊢;obtain ⟨nb,hnb⟩:=eX w.heap.size;rw [hnb] at hGB hb0 ⊢;obtain ⟨z0,z1,z2,z3,z4,zf⟩:=gfacts5 hGB;have H1:=Z3.mk hGB hb0 hnb;clear hGB hb0 hnb;go_upto_region 3 with fail
 have hT0:RowB (w1.alloc (.cells (arrF (fun _=>.slice none 0 0) S) 106)) w1.heap.size 106 (fun _=>.slice none 0 0) S:=Blk.new _ _ _;have hsz1:nb<=w1.heap.size:=by rw [<- H1.o3];exact H1.o2.size
 have hb1:=H1.o2.alloc hsz1 (.cells (arrF (fun _=>.slice none 0 0) S) 106);have hG1:=H1.o1.alloc (.cells (arrF (fun _=>.slice none 0 0) S) 106);generalize (w1.alloc (.cells (arrF (fun _=>.slice none 0 0) S) 106))=w2 at hT0 hb1 hG1 ⊢;obtain ⟨ta,hta⟩:=eX w1.heap.size;rw [hta] at hT0 hsz1 ⊢;have H2:=Z3.mk (MkA.first (n:=tb.size) hT0 hsz1) hb1 hG1;clear hT0 hb1 hG1 hta hsz1 z0 z1 z2 z3 z4 zf hmt
 go_loopg [8] S (fun mm v8 wr=>∃ (s:Nat) (mid:Nat->Nat),s<=S /\ mm=S - s /\ v8=.int .i64 s /\ MkA nb S tb.size s ta mid wr /\ Blk wr nb 27 #[.slice sa S sc,.slice pa NP pc,.int .i64 gs,fv,lv] /\ Below nb w wr)
 case atStart=>exact ⟨0,_,Nat.zero_le _,rfl,rfl,H2.o1,H2.o3,H2.o2⟩
 case round =>
  obtain ⟨s,mid,hs,hm,rfl,hT,hGB,hbr⟩:=hrel
  by_cases hlt:s<S
  ·have k0:=hT.top.cell hlt;have k1:=Blk.frozen hT.top s;rw [if_neg (Nat.lt_irrefl s)] at k0;have htl:ta<wr.heap.size:=Blk.lt hT.top;have hs0:(0:Int)<=s:=by omega
   have hs1:(s:Int)<S:=by omega
   have HA:=Z4.mk hT hGB hbr hm;clear hT hGB hbr hm;have hal:Below wr.heap.size wr (wr.alloc (.cells (arrF (fun _=>.bool false) (tb.size+1)) 4)):=(bR _ _).alloc (nR _) _;have hsz:nb<=wr.heap.size:=by rw [<- H1.o3];exact HA.o3.size
   have hT1:=MkA.mid (HA.o1.below hal) (m:=wr.heap.size) (Blk.new _ _ _) hsz (fun x hx e=>by have:=Blk.lt (HA.o1.rows x hx);omega);have hG1:Blk ((wr.alloc (.cells (arrF (fun _=>.bool false) (tb.size+1)) 4)).setCell ⟨ta,s,none⟩ (.slice (some ⟨wr.heap.size,0,none⟩) (tb.size+1) (tb.size+1))) nb 27 #[.slice sa S sc,.slice pa NP pc,.int .i64 gs,fv,lv]:=Blk.far (HA.o2.below hal HA.o2.lt) (p:=⟨ta,s,none⟩) (blk_types HA.o2 HA.o1.top (by decide)) _;have hb1:Below nb w ((wr.alloc (.cells (arrF (fun _=>.bool false) (tb.size+1)) 4)).setCell ⟨ta,s,none⟩ (.slice (some ⟨wr.heap.size,0,none⟩) (tb.size+1) (tb.size+1))):=(HA.o3.alloc hsz _).setCell (p:=⟨ta,s,none⟩) HA.o1.lowt _;rw [World.setCell_alloc_past _ ta s _ htl] at hT1 hG1 hb1;have H3:=Z3.mk hT1 hG1 hb1;clear hT1 hG1 hb1 hal hsz;go_wp2_with fail
   go_roundg (S - (s+1))
   case measure=>have:=HA.o4;omega
   case rel=>exact ⟨s+1,_,by omega,rfl,rfl,H3.o1,H3.o2,H3.o3⟩
  ·obtain rfl:s=S:=by omega
   have hss:¬ ((s:Int)<s):=by omega
   obtain ⟨hTM,hinj,hlow⟩:=hT.whole;have hD:SvI w nb s tb.size ta mid #[.slice sa s sc,.slice pa NP pc,.int .i64 gs,fv,lv] (fun _ _=>false) wr:=⟨hGB,hTM,hbr⟩;obtain ⟨c0,c1,c2⟩:=hD.cells hgS (Nat.zero_le _);have hg0:(0:Int)<=gs:=by omega
   have hg1:(gs:Int)<s:=by omega
   have hgz:(0:Int)<tb.size+1:=by omega
   have z2:=hGB.cell 2;simp at z2;have HI:=Z4.mk hinj hlow (hD.set hinj hlow hgS (Nat.zero_le _)) HSd.o1;clear hT hGB hbr hm hTM hinj hlow hD;go_upto_region 8 with fail
   go_loopg [9] (2 * openA g.sorts.length txt.length (setA (fun _ _=>false) g.start 0)+1) (fun mm v9 wr=>∃ (a:Tba) (fr:Bool),mm=2 * openA g.sorts.length txt.length a+(if fr=true then 1 else 0) /\ v9=.bool fr /\ SndA g txt a /\ (fr=false->RefOk g txt t a) /\ SvI w nb s tb.size ta mid #[.slice sa s sc,.slice pa NP pc,.int .i64 gs,fv,lv] a wr)
   case atStart=>exact ⟨_,true,rfl,rfl,SndA.start HH.o1.start,fun h=>Bool.noConfusion h,by rw [HSd.o2];exact HI.o3⟩
   case round =>
    obtain ⟨a0,fr0,hm,rfl,hsn0,hok0,hD0⟩:=hrel;have HA:=Z4.mk hm hsn0 hok0 hD0;clear hm hsn0 hok0 hD0
    cases fr0 with
    | false =>
     go_wp2_with fail
     go_ret;refine ⟨a0,ta,rfl,HA.o3 (by first | rfl | trivial),⟨mid,?_⟩,?_⟩
     ·rw [HH.o3];exact HA.o4.tab
     ·rw [H1.o3];exact HA.o4.low
    | true =>
     go_upto_region 11 with fail
     go_loopg [9,10] NP (fun mm v9 v10 wr=>∃ (p:Nat) (a:Tba) (fr:Bool),p<=NP /\ mm=NP - p /\ v10=.int .i64 p /\ v9=.bool fr /\ RdA g txt t a0 a fr p 0 0 0 /\ SndA g txt a /\ SvI w nb s tb.size ta mid #[.slice sa s sc,.slice pa NP pc,.int .i64 gs,fv,lv] a wr)
     case atStart=>exact ⟨0,a0,false,Nat.zero_le _,rfl,rfl,rfl,RdA.start g txt t a0,HA.o2,HA.o4⟩
     case round =>
      obtain ⟨p,a,fr,hp,hm,rfl,rfl,hrd,hsn,hD⟩:=hrel
      by_cases hlt:p<NP
      ·obtain ⟨q,hq⟩:∃ q,g.prods[p]?=some q:=⟨_,gE (by rw [HNP.out];exact hlt)⟩;obtain ⟨pc2,b,o,ra,rc,epv,hbl,hrk,hpc⟩:=prodsAt_at HH.o2 hq;injection epv with e1 e2 e3;subst e1 e3;clear e2;have hqm:=gM hq;have hlow:Below w.heap.size w wr:=by rw [H1.o3];exact hD.low
       obtain ⟨f0,f1,f2,f3,f4,f5,f6⟩:=hpc wr hlow;obtain ⟨hl0,hl1⟩:=HH.o1.left q hqm;have hrl:=HH.o1.right q hqm;obtain ⟨ln,hln⟩:∃ ln:Nat,q.left=ln:=⟨q.left.toNat,by omega⟩;have hlS:ln<s:=by rw [HI.o4] at hl1;omega
       have hsym:=HH.o1.sym q hqm;rw [HI.o4] at hsym;obtain ⟨z0,z1,z2,z3,z4,zf⟩:=gfacts5 hD.gr;have hp0:(0:Int)<=p:=by omega
       have hp1:(p:Int)<NP:=by omega
       obtain ⟨rl,hrld⟩:=eX q.right.length;obtain ⟨ro,hro⟩:=eX q.role;rw [hln] at f0;rw [hrld] at f1 hrl;rw [hro] at f3;have HB:=Z13.mk hm hrd hsn hD hq hrk hrl hln hsym hrld hro hl0 hl1;clear hm hrd hsn hD hq hrk hln hsym hrld hro hl0 hl1 hpc hlow hqm hbl;go_upto_region 14 with fail
       have hP:Blk (wr.alloc (.cells #[.int .i64 ln,.slice ra rl rc,.string ⟨q.cons.toArray⟩,.int .i64 ro,.bool q.prefer,.bool q.avoid,.int .i64 q.made] 53)) wr.heap.size 53 #[.int .i64 ln,.slice ra rl rc,.string ⟨q.cons.toArray⟩,.int .i64 ro,.bool q.prefer,.bool q.avoid,.int .i64 q.made]:=Blk.new _ _ _;have hb3:Below wr.heap.size wr (wr.alloc (.cells #[.int .i64 ln,.slice ra rl rc,.string ⟨q.cons.toArray⟩,.int .i64 ro,.bool q.prefer,.bool q.avoid,.int .i64 q.made] 53)):=(bR _ wr).alloc (nR _) _;generalize (wr.alloc (.cells #[.int .i64 ln,.slice ra rl rc,.string ⟨q.cons.toArray⟩,.int .i64 ro,.bool q.prefer,.bool q.avoid,.int .i64 q.made] 53))=w3 at hP hb3 ⊢;obtain ⟨pcs,hpcs⟩:∃ pcs:Array Value,#[.int .i64 ln,.slice ra rl rc,.string ⟨q.cons.toArray⟩,.int .i64 ro,.bool q.prefer,.bool q.avoid,.int .i64 q.made]=pcs:=⟨_,rfl⟩;have x3:=hP.cell 3;simp at x3;have hpc0:pcs[0]?=some (.int .i64 ln):=by rw [<- hpcs];rfl
       have hpc1:pcs[1]?=some (.slice ra rl rc):=by rw [<- hpcs];rfl
       rw [hpcs] at hP;obtain ⟨pb,hpb⟩:=eX wr.heap.size;have hD3:=HB.o4.below (by rw [H1.o3];exact nR _) hb3;rw [hpb] at hP x3 ⊢;have HQ:=Z4.mk hP hpc0 hpc1 hD3;clear hP hb3 hpcs hpc0 hpc1 hD3 hpb f0 f1 f2 f3 f4 f5 f6 z0 z1 z2 z3 z4 zf
       by_cases hr:ro=11
       ·have hrd2:=HB.o2.skip HB.o5 (by rw [HB.o11];exact hr);have HR:=Hd hrd2;clear hrd2;go_wp2_with fail
        go_roundg (NP - (p+1))
        case measure=>have:=HB.o1;omega
        case rel=>exact ⟨p+1,a,fr,by omega,rfl,rfl,rfl,HR.out,HB.o3,HQ.o4⟩
       ·have hr2:(ro==11)=false:=beq_eq_false_iff_ne.2 hr;go_upto_region 16 with fail
        clear x3 hr2
        go_loopg [9,12] (tb.size+1) (fun mm v9 v12 wr=>∃ (i:Nat) (a:Tba) (fr:Bool),i<=tb.size+1 /\ mm=tb.size+1 - i /\ v12=.int .i64 i /\ v9=.bool fr /\ RdA g txt t a0 a fr p i 0 0 /\ SndA g txt a /\ SvI w nb s tb.size ta mid #[.slice sa s sc,.slice (some ⟨b,o,none⟩) NP pc,.int .i64 gs,fv,lv] a wr /\ Blk wr pb 53 pcs)
        case atStart=>exact ⟨0,a,fr,Nat.zero_le _,rfl,rfl,rfl,HB.o2,HB.o3,HQ.o4,HQ.o1⟩
        case round =>
         obtain ⟨i,a,fr,hi,hm,rfl,rfl,hrd,hsn,hD,hP⟩:=hrel
         by_cases hil:i<=tb.size
         ·have hi0:(0:Int)<=i:=by omega
          have hi1:(i:Int)<=tb.size:=by omega
          have hi2:(i:Int)<tb.size+1:=by omega
          have hl0:(0:Int)<=ln:=by omega
          have hl1:(ln:Int)<s:=by omega
          obtain ⟨c0,c1,c2⟩:=hD.cells hlS hil;have x0:=(hP.cell 0).trans HQ.o2;have x1:=(hP.cell 1).trans HQ.o3;obtain ⟨b1,hb1⟩:=eX (a (ln:Int) i);rw [hb1] at c1;have HI2:=Z6.mk hm hrd hsn hD hP hb1;clear hm hrd hsn hD hP hb1
          cases b1 with
          | false =>
           have hrd2:=HI2.o2.pass HB.o5 (by rw [HB.o8];exact HI2.o6);have HR:=Hd hrd2;clear hrd2;go_wp2_with fail
           go_roundg (tb.size+1 - (i+1))
           case measure=>have:=HI2.o1;omega
           case rel=>exact ⟨i+1,a,fr,by omega,rfl,rfl,rfl,HR.out,HI2.o3,HI2.o4,HI2.o5⟩
          | true =>
           go_upto_region 20 with fail
           have hH:RowB (wr.alloc (.cells (arrF (fun _=>.bool false) (tb.size+1)) 4)) wr.heap.size 4 (fun _=>.bool false) (tb.size+1):=Blk.new _ _ _;have hb3:Below wr.heap.size wr (wr.alloc (.cells (arrF (fun _=>.bool false) (tb.size+1)) 4)):=(bR _ wr).alloc (nR _) _;generalize (wr.alloc (.cells (arrF (fun _=>.bool false) (tb.size+1)) 4))=w4 at hH hb3 ⊢;obtain ⟨hb,hhb⟩:=eX wr.heap.size;have hD4:=HI2.o4.below (by rw [H1.o3];exact nR _) hb3;have hP4:=HI2.o5.below hb3 HI2.o5.lt;have hne:∀ x,x<s->mid x≠hb:=fun x hx e=>by have:=Blk.lt (HI2.o4.tab.rows x hx);omega
           have hln:nb<=hb:=by rw [<- hhb,<- H1.o3];exact HI2.o4.low.size
           rw [hhb] at hH ⊢;have k0:=hH.cell (i:=i) (by omega)
           have k1:=Blk.frozen hH i;have hH5:RowB (w4.setCell ⟨hb,i,none⟩ (.bool true)) hb 4 (fun x=>.bool (decide (i=x))) (tb.size+1):=(hH.set_ i _).ext fun x _=>by
            by_cases h:x=i
            ·rw [if_pos h,decide_eq_true h.symm]
            ·rw [if_neg h,decide_eq_false (fun e=>h e.symm)]
           have hD5:=hD4.far hH hne hln i (.bool true);have hP5:Blk (w4.setCell ⟨hb,i,none⟩ (.bool true)) pb 53 pcs:=Blk.far hP4 (p:=⟨hb,i,none⟩) (blk_types hP4 hH (by decide)) _;have H5:=Z5.mk hH5 hD5 hP5 hne hln;clear hH hb3 hhb hD4 hP4 hne hln hH5 hD5 hP5 c0 c1 c2 x0 x1;go_upto_region 22 with fail
           generalize w4.setCell ⟨hb,i,none⟩ (.bool true)=w5 at H5 ⊢;clear k0 k1
           go_loopg [9,13,14] rl (fun mm v9 v13 v14 wr=>∃ (k:Nat) (a:Tba) (fr:Bool) (hb:Nat) (here:Nat->Bool),k<=rl /\ mm=rl - k /\ v14=.int .i64 k /\ v13=.slice (some ⟨hb,0,none⟩) (tb.size+1) (tb.size+1) /\ v9=.bool fr /\ RdA g txt t a0 a fr p i k i /\ SndA g txt a /\ a (ln:Int) i=true /\ (∀ x,x<=txt.length->here x=derivesF t txt (q.right.take k) i x) /\ SvI w nb s tb.size ta mid #[.slice sa s sc,.slice (some ⟨b,o,none⟩) NP pc,.int .i64 gs,fv,lv] a wr /\ RowB wr hb 4 (fun x=>.bool (here x)) (tb.size+1) /\ (∀ x,x<s->mid x≠hb) /\ nb<=hb /\ Blk wr pb 53 pcs)
           case atStart=>exact ⟨0,a,fr,hb,_,Nat.zero_le _,rfl,rfl,rfl,rfl,HI2.o2.begin_,HI2.o3,HI2.o6,fun x _=>by rw [List.take_zero];rfl,H5.o2,H5.o1,H5.o4,H5.o5,H5.o3⟩
           case round =>
            obtain ⟨k,a,fr,hb,here,hk,hm,rfl,rfl,rfl,hrd,hsn,hat,hhe,hD,hH,hne,hnb,hP⟩:=hrel
            by_cases hkl:k<rl
            ·obtain ⟨y,hy⟩:∃ y,q.right[k]?=some y:=⟨_,gE (by rw [HB.o10];exact hkl)⟩;have hyk:=HB.o9 y (gM hy);have hlow:Below w.heap.size w wr:=by rw [H1.o3];exact hD.low
             obtain ⟨a1,c1,er,_,_,hkk⟩:=HB.o6.all hlow;injection er with r1 r2 r3;subst r1 r3;clear r2;obtain ⟨rg,ro2,rfl,_,hrk⟩:=hkk (by intro h;rw [h] at hy;simp at hy)
             have g0:=hrk.cells k y hy 0 _ rfl;have g1:=hrk.cells k y hy 1 _ rfl;have g2:=hrk.cells k y hy 2 _ rfl;have g3:=hrk.cells k y hy 3 _ rfl;have g4:=hrk.cells k y hy 4 _ rfl;have g5:=hrk.cells k y hy 5 _ rfl;rw [Nat.add_zero] at g0;have hk0:(0:Int)<=k:=by omega
             have hk1:(k:Int)<rl:=by omega
             have x1:=(hP.cell 1).trans HQ.o3;obtain ⟨sk,sM,so⟩:=y;simp only at g0 g1 g2 g3 g4 g5 hyk;have HK:=Z12.mk hm hrd hsn hat hhe hD hH hne hnb hP hy hyk;clear hm hrd hsn hat hhe hD hH hne hnb hP hy hyk hkk hrk hlow;go_upto_region 25 with fail
             have hS5:Blk (wr.alloc (.cells #[.int .i64 sk,.int .u64 (wd sM 0),.int .u64 (wd sM 1),.int .u64 (wd sM 2),.int .u64 (wd sM 3),.int .i64 so] 49)) wr.heap.size 49 #[.int .i64 sk,.int .u64 (wd sM 0),.int .u64 (wd sM 1),.int .u64 (wd sM 2),.int .u64 (wd sM 3),.int .i64 so]:=Blk.new _ _ _;have hb5:Below wr.heap.size wr (wr.alloc (.cells #[.int .i64 sk,.int .u64 (wd sM 0),.int .u64 (wd sM 1),.int .u64 (wd sM 2),.int .u64 (wd sM 3),.int .i64 so] 49)):=(bR _ wr).alloc (nR _) _;generalize (wr.alloc (.cells #[.int .i64 sk,.int .u64 (wd sM 0),.int .u64 (wd sM 1),.int .u64 (wd sM 2),.int .u64 (wd sM 3),.int .i64 so] 49))=w6 at hS5 hb5 ⊢;obtain ⟨sb,hsb⟩:=eX wr.heap.size;rw [hsb] at hS5 ⊢;have H6:=Z2.mk hS5 hb5;clear hS5 hb5 hsb g0 g1 g2 g3 g4 g5 x1;go_upto_region 27 with fail
             have hX7:RowB (w6.alloc (.cells (arrF (fun _=>.bool false) (tb.size+1)) 4)) w6.heap.size 4 (fun x=>.bool ((fun _=>false:Nat->Bool) x)) (tb.size+1):=Blk.new _ _ _;have hb7:Below w6.heap.size w6 (w6.alloc (.cells (arrF (fun _=>.bool false) (tb.size+1)) 4)):=(bR _ w6).alloc (nR _) _;generalize (w6.alloc (.cells (arrF (fun _=>.bool false) (tb.size+1)) 4))=w7 at hX7 hb7 ⊢;obtain ⟨xb,hxb⟩:=eX w6.heap.size;have hb67:Below wr.heap.size wr w7:=H6.o2.trans (hb7.mono H6.o2.size);have hsz6:wr.heap.size<=xb:=by rw [<- hxb];exact H6.o2.size
             have hnex:∀ x,x<s->mid x≠xb:=fun x hx e=>by have:=Blk.lt (HK.o6.tab.rows x hx);omega
             have hhx:hb≠xb:=fun e=>by have:=Blk.lt HK.o7;omega
             have hnx:nb<=xb:=by have h1:=HK.o6.low.size;rw [H1.o3] at h1;omega
             rw [hxb] at hX7 ⊢;have hI7:SxI w nb s tb.size ta mid #[.slice sa s sc,.slice (some ⟨b,o,none⟩) NP pc,.int .i64 gs,fv,lv] hb xb pb sb pcs #[.int .i64 sk,.int .u64 (wd sM 0),.int .u64 (wd sM 1),.int .u64 (wd sM 2),.int .u64 (wd sM 3),.int .i64 so] here a (fun _=>false) w7:=⟨HK.o6.below (by rw [H1.o3];exact nR _) hb67,Blk.below HK.o7 hb67 (Blk.lt HK.o7),hX7,HK.o10.below hb67 HK.o10.lt,H6.o1.below hb7 H6.o1.lt⟩;have H7:=Z4.mk hI7 hnex hhx hnx;clear hX7 hb7 hxb hb67 hsz6 hnex hhx hnx hI7
             go_loopg [9,17] (tb.size+1 - i) (fun mm v9 v17 wr=>∃ (j:Nat) (a:Tba) (fr:Bool) (next:Nat->Bool),i<=j /\ j<=tb.size+1 /\ mm=tb.size+1 - j /\ v17=.int .i64 j /\ v9=.bool fr /\ RdA g txt t a0 a fr p i k j /\ SndA g txt a /\ a (ln:Int) i=true /\ (∀ x,x<=txt.length->(next x=true↔NxP t txt ⟨sk,sM,so⟩ here i j j x)) /\ SxI w nb s tb.size ta mid #[.slice sa s sc,.slice (some ⟨b,o,none⟩) NP pc,.int .i64 gs,fv,lv] hb xb pb sb pcs #[.int .i64 sk,.int .u64 (wd sM 0),.int .u64 (wd sM 1),.int .u64 (wd sM 2),.int .u64 (wd sM 3),.int .i64 so] here a next wr)
             case atStart=>exact ⟨i,a,fr,fun _=>false,nR _,by omega,rfl,rfl,rfl,HK.o2,HK.o3,HK.o4,fun x _=>⟨fun h=>Bool.noConfusion h,fun h=>absurd h (nxP_start _ _ _ _ _ _)⟩,H7.o1⟩
             case round =>
              obtain ⟨j,a,fr,next,hij,hj,hm,rfl,rfl,hrd,hsn,hat,hnx,hI⟩:=hrel
              by_cases hjl:j<=tb.size
              ·have hj0:(0:Int)<=j:=by omega
               have hj1:(j:Int)<=tb.size:=by omega
               have hj2:(j:Int)<tb.size+1:=by omega
               have h0:=hI.he.cell (i:=j) (by omega);obtain ⟨b2,hb2⟩:=eX (here j);rw [hb2] at h0;have HJ:=Z7.mk hm hrd hsn hat hnx hI hb2;clear hm hrd hsn hat hnx hI hb2
               cases b2 with
               | false =>
                have hrd2:=HJ.o2.seen HB.o5 HK.o11 (.inl (by rw [<- HK.o5 j (by have:=HH.o3;omega)];exact HJ.o7));have HR:=Hd hrd2;clear hrd2;go_wp2_with fail
                go_roundg (tb.size+1 - (j+1))
                case measure=>have:=HJ.o1;omega
                case rel=>exact ⟨j+1,a,fr,next,by omega,by omega,rfl,rfl,rfl,HR.out,HJ.o3,HJ.o4,fun x hx=>(HJ.o5 x hx).trans (nxP_skip HJ.o7),HJ.o6⟩
               | true =>
                go_upto_region 30 with fail
                obtain ⟨b3,hb3⟩:∃ b3,(decide (sk=1)&&!(a so j))=b3:=⟨_,rfl⟩;have HB3:=Hd hb3;have y0:=HJ.o6.sy.cell 0;have y5:=HJ.o6.sy.cell 5;simp at y0 y5;clear hb3 h0
                go_cut [121] from 108 to 121 (fun s121 wx=>s121=.bool b3 /\ wr=wx)
                case first =>
                 rcases HK.o12 with ⟨rfl,hz⟩ | ⟨rfl,hz,hs0,hs1⟩ <;> clear hz
                 ·have HV:=Hd (show false=b3 by rw [<- HB3.out];rfl);go_wp2_with fail
                  go_meet;exact ⟨by rw [<- HV.out],rfl⟩
                 ·obtain ⟨sn,rfl⟩:∃ sn:Nat,so=sn:=⟨so.toNat,by omega⟩;obtain ⟨c0,c1,c2⟩:=HJ.o6.st.cells (s:=sn) (i:=j) (by omega) hjl;obtain ⟨bv,hbv⟩:=eX (a (sn:Int) j);have HV:=Hd (show (!bv)=b3 by rw [<- HB3.out,hbv];rfl);rw [hbv] at c1;clear hbv
                  cases bv <;> (go_wp2_with fail;go_meet;exact ⟨by rw [<- HV.out];rfl,rfl⟩)
                case rest =>
                 obtain ⟨rfl,rfl⟩:=hcut;clear y0
                 go_upto_if 121 with fail
                 go_cut [9] from 108 to 128 (fun s9 wx=>∃ (a':Tba) (fr':Bool),s9=.bool fr' /\ RdA g txt t a0 a' fr' p i k (j+1) /\ SndA g txt a' /\ a' (ln:Int) i=true /\ SxI w nb s tb.size ta mid #[.slice sa s sc,.slice (some ⟨b,o,none⟩) NP pc,.int .i64 gs,fv,lv] hb xb pb sb pcs #[.int .i64 sk,.int .u64 (wd sM 0),.int .u64 (wd sM 1),.int .u64 (wd sM 2),.int .u64 (wd sM 3),.int .i64 so] here a' next wx)
                 case first =>
                  have hjt:j<=txt.length:=by have:=HH.o3;omega
                  have hlq:=HB.o8;have hro:q.role≠11:=by rw [HB.o11];exact hr
                  have hhj:derivesF t txt (q.right.take k) i j=true:=by rw [<- HK.o5 j hjt];exact HJ.o7
                  cases b3 with
                  | true =>
                   have h3:=HB3.out;simp only [Bool.and_eq_true,decide_eq_true_eq,Bool.not_eq_true'] at h3;obtain ⟨h31,h32⟩:=h3;subst h31;obtain ⟨hs0,hs1⟩:0<=so /\ so<(s:Int):=by
                    rcases HK.o12 with ⟨h,_⟩ | ⟨_,_,h⟩
                    ·cases h
                    ·exact h
                   obtain ⟨sn,rfl⟩:∃ sn:Nat,so=sn:=⟨so.toNat,by omega⟩;have hsnS:sn<s:=by omega
                   obtain ⟨c0,c1,c2⟩:=HJ.o6.st.cells hsnS hjl;have hSS:=HI.o4;have hrd2:=HJ.o2.put hs0 (by rw [hSS];exact hs1) hjt h32 p i k (j+1);have hsn2:=HJ.o3.set HH.o7 (fun A i j h=>HH.o8.der A i j h) HH.o9 HB.o5 hro (by rw [hlq];exact HJ.o4) HK.o11 rfl ⟨hs0,by rw [hSS];exact hs1⟩ hhj;have hI2:=HJ.o6.setA_ HI.o1 HI.o2 HK.o8 H7.o2 hsnS hjl;have HR:=Z4.mk hrd2 hsn2 (setA_keep (B:=(sn:Int)) (j:=j) HJ.o4) hI2;clear hrd2 hsn2 hI2 h32 hhj hro hlq hjt hSS;go_wp2_with fail
                   go_meet;exact ⟨_,true,rfl,HR.o1,HR.o2,HR.o3,HR.o4⟩
                  | false =>
                   have hrd2:=HJ.o2.seen HB.o5 HK.o11 (.inr (by
                    have h3:=HB3.out
                    by_cases h:sk=1
                    ·rw [decide_eq_true h] at h3;exact .inr (by simpa using h3)
                    ·exact .inl h))
                   have HR:=Hd hrd2;clear hrd2 hhj hro hlq hjt;go_wp2_with fail
                   go_meet;exact ⟨a,fr,rfl,HR.out,HJ.o3,HJ.o4,HJ.o6⟩
                 case rest =>
                  obtain ⟨a',fr',rfl,hrd,hsn,hat,hI⟩:=hcut;have HC2:=Z4.mk hrd hsn hat hI;clear hrd hsn hat hI y5;go_upto_region 34 with fail
                  go_loopg [18] (tb.size+1 - j) (fun mm v18 wr=>∃ (m:Nat) (next:Nat->Bool),j<=m /\ m<=tb.size+1 /\ mm=tb.size+1 - m /\ v18=.int .i64 m /\ (∀ x,x<=txt.length->(next x=true↔NxP t txt ⟨sk,sM,so⟩ here i j m x)) /\ SxI w nb s tb.size ta mid #[.slice sa s sc,.slice (some ⟨b,o,none⟩) NP pc,.int .i64 gs,fv,lv] hb xb pb sb pcs #[.int .i64 sk,.int .u64 (wd sM 0),.int .u64 (wd sM 1),.int .u64 (wd sM 2),.int .u64 (wd sM 3),.int .i64 so] here a' next wr)
                  case atStart=>exact ⟨j,next,nR _,by omega,rfl,rfl,HJ.o5,HC2.o4⟩
                  case round =>
                   obtain ⟨m,next,hjm,hm,hmm,rfl,hnx,hI⟩:=hrel
                   by_cases hml:m<=tb.size
                   ·have hm0:(0:Int)<=m:=by omega
                    have hm1:(m:Int)<=tb.size:=by omega
                    have hm2:(m:Int)<tb.size+1:=by omega
                    have y0:=hI.sy.cell 0;have y1:=hI.sy.cell 1;have y2:=hI.sy.cell 2;have y3:=hI.sy.cell 3;have y4:=hI.sy.cell 4;have y5:=hI.sy.cell 5;simp at y0 y1 y2 y3 y4 y5;have hsp:Calls Tryz.prog 65 #[.slice (some ⟨tt,0,none⟩) s s,.string tb,.agg #[.int .i64 sk,.int .u64 (wd sM 0),.int .u64 (wd sM 1),.int .u64 (wd sM 2),.int .u64 (wd sM 3),.int .i64 so],.int .i64 j,.int .i64 m] wr fun e w'=>e=.returned (.bool (spansF t txt ⟨sk,sM,so⟩ j m)) /\ Below wr.heap.size wr w':=by
                     have hlow:Below w.heap.size w wr:=by rw [H1.o3];exact hI.st.low
                     have hTT:=HH.o6.below hlow;rw [HI.o4] at hTT;have h:=spans_any txt HH.o5 s (by omega) t tt tmid trow wr hTT ⟨sk,sM,so⟩ (by
                      rcases HK.o12 with ⟨h,_⟩ | ⟨h1,_,h2⟩
                      ·exact .inl h
                      ·exact .inr ⟨h1,h2⟩) j m (by have:=HH.o3;omega) (by have:=HH.o3;omega)
                     rw [HH.o4] at h;exact h
                    obtain ⟨bm,hbm⟩:=eX (spansF t txt ⟨sk,sM,so⟩ j m);rw [hbm] at hsp;have HM:=Z5.mk hsp hbm hmm hnx hI;clear hsp hbm hmm hnx hI;go_wp2_with fail
                    refine HM.o1.mono ?_;rintro e w8 ⟨rfl,hb8⟩;have hI8:=HM.o5.below (by rw [H1.o3];exact nR _) hb8;clear hb8 y0 y1 y2 y3 y4 y5
                    cases bm with
                    | false =>
                     have HR:=Hd hI8;clear hI8;go_wp2_with fail
                     go_roundg (tb.size+1 - (m+1))
                     case measure=>have:=HM.o3;omega
                     case rel =>
                      refine ⟨m+1,next,by omega,by omega,rfl,rfl,fun x hx=>(HM.o4 x hx).trans ?_,HR.out⟩;rw [nxP_step HJ.o7 hjm,HM.o2];simp
                    | true =>
                     have k0:=hI8.nx.cell (i:=m) (by omega);have k1:=Blk.frozen hI8.nx m;have HR:=Hd (hI8.setN H7.o2 H7.o3 H7.o4 m);clear hI8;go_wp2_with fail
                     go_roundg (tb.size+1 - (m+1))
                     case measure=>have:=HM.o3;omega
                     case rel =>
                      refine ⟨m+1,_,by omega,by omega,rfl,rfl,fun x hx=>?_,HR.out⟩;rw [nxP_step HJ.o7 hjm,HM.o2]
                      by_cases hxm:x=m
                      ·rw [if_pos hxm];simp [hxm]
                      ·rw [if_neg hxm,HM.o4 x hx];simp [hxm]
                   ·obtain rfl:m=tb.size+1:=by omega
                    have hmz:¬ ((tb.size:Int)+1<=(tb.size:Int)):=by omega
                    have HM:=Z3.mk hmm hnx hI;clear hmm hnx hI;simp only [Int.natCast_add,Int.cast_ofNat_Int];go_wp2_with fail
                    go_roundg (tb.size+1 - (j+1))
                    case measure=>have:=HJ.o1;omega
                    case rel =>
                     refine ⟨j+1,a',fr',next,by omega,by omega,rfl,rfl,rfl,HC2.o1,HC2.o2,HC2.o3,fun x hx=>(HM.o2 x hx).trans ?_,HM.o3⟩;rw [<- HH.o3];exact nxP_end HH.o7.le hij hx HJ.o7
              ·obtain rfl:j=tb.size+1:=by omega
               have hjz:¬ ((tb.size:Int)+1<=(tb.size:Int)):=by omega
               have hdn:∀ x,x<=txt.length->next x=derivesF t txt (q.right.take (k+1)) i x:=fun x hx=>by
                have h1:=hnx x hx;rw [<- HH.o3] at h1;rw [nxP_done HH.o7.le HK.o11 HK.o5 hx] at h1;exact Bool.eq_iff_iff.2 h1
               have hrd2:=(show RdA g txt t a0 a fr p i k (txt.length+1) by rw [HH.o3];exact hrd).sym;have HR:=Z5.mk hdn hrd2 hsn hat hI;clear hdn hrd2 hrd hsn hat hI hnx hm;simp only [Int.natCast_add,Int.cast_ofNat_Int];go_wp2_with fail
               go_roundg (rl - (k+1))
               case measure=>have:=HK.o1;omega
               case rel=>exact ⟨k+1,a,fr,xb,next,by omega,rfl,rfl,rfl,rfl,HR.o2,HR.o3,HR.o4,HR.o1,HR.o5.st,HR.o5.nx,H7.o2,H7.o4,HR.o5.pr⟩
            ·obtain rfl:k=rl:=by omega
             have hkz:¬ ((k:Int)<k):=by omega
             have x1:=(hP.cell 1).trans HQ.o3;have hrd2:=hrd.row HB.o5 (by rw [HB.o10];exact nR _);have HR:=Z4.mk hrd2 hsn hD hP;clear hrd2 hrd hsn hat hhe hD hH hne hnb hP hm;go_wp2_with fail
             go_roundg (tb.size+1 - (i+1))
             case measure=>have:=HI2.o1;omega
             case rel=>exact ⟨i+1,a,fr,by omega,rfl,rfl,rfl,HR.o1,HR.o2,HR.o3,HR.o4⟩
         ·obtain rfl:i=tb.size+1:=by omega
          have hiz:¬ ((tb.size:Int)+1<=(tb.size:Int)):=by omega
          rw [<- HH.o3] at hrd;have HR:=Z3.mk hrd.prod hsn hD;clear hrd hsn hD hP hm;simp only [Int.natCast_add,Int.cast_ofNat_Int];go_wp2_with fail
          go_roundg (NP - (p+1))
          case measure=>have:=HB.o1;omega
          case rel=>exact ⟨p+1,a,fr,by omega,rfl,rfl,rfl,HR.o1,HR.o2,HR.o3⟩
      ·obtain rfl:p=NP:=by omega
       have hpz:¬ ((p:Int)<p):=by omega
       have x1:=hD.gr.cell 1;simp at x1;have hok:fr=false->RefOk g txt t a:=fun h=>by
        subst h;exact hrd.done (by rw [HNP.out];exact nR _) HH.o7 (fun A i j h=>HH.o8.der A i j h) HH.o9 hsn
       have hms:2 * openA g.sorts.length txt.length a+(if fr=true then 1 else 0)<2 * openA g.sorts.length txt.length a0+1:=by
        cases fr with
        | false=>rw [hrd.same rfl];simp
        | true=>have:=hrd.less rfl;simp;omega
       have HR:=Z4.mk hms hsn hok hD;clear hms hsn hok hD hrd hm;go_wp2_with fail
       go_roundg (2 * openA g.sorts.length txt.length a+(if fr=true then 1 else 0))
       case measure=>have h1:=HA.o1;have h2:=HR.o1;simp only [if_true] at h1;omega
       case rel=>exact ⟨a,fr,rfl,rfl,HR.o2,HR.o3,HR.o4⟩
theorem sliceK_take {α:Type} {D:Nat->Prop} {en:α->List Value} {k:Nat} {w:World} {a:Option Addr} {n c:Nat} {l:List α} (h:SliceK D en k w (.slice a n c) l) {m:Nat} (hm:m<=l.length):SliceK D en k w (.slice a m c) (l.take m):=by
 obtain ⟨a',c',e,h1,h2,h3⟩:=h;injection e with e1 e2 e3;subst e1 e3;have hl:(l.take m).length=m:=by rw [List.length_take];omega
 refine ⟨a,c,by rw [hl],by omega,h2,fun hne=>?_⟩;obtain ⟨g,o,e,hd,hr⟩:=h3 (by rintro rfl;simp at hne);refine ⟨g,o,e,hd,hr.lt,fun i x hi j v hv=>hr.cells i x ?_ j v hv⟩;have hi2:=(gS.1 hi).1;rw [List.getElem?_take_of_lt (by omega)] at hi;exact hi
theorem prodsAt_below {w w':World} {v:Value} {ps:List Pr} (h:ProdsAt (fun _=>True) w v ps) (hb:Below w.heap.size w w'):ProdsAt (fun _=>True) w' v ps:=h.keep fun g hg hl=>⟨hg,hb.block g hl⟩
theorem good_sys {g:Gr} (hg:Tb.Good g) {q:Pr} (hq:q∈g.prods):SysOk g.sorts.length q.right:=fun y hy=>by
 rcases hg.sym q hq y hy with h | h
 ·exact .inl h.1
 ·exact .inr ⟨h.1,h.2.2⟩
theorem SysOk.take {S:Nat} {R:List Sy} (h:SysOk S R) (k:Nat):SysOk S (R.take k):=fun y hy=>h y (List.mem_of_mem_take hy)
open Go.WideMaps
theorem nrres (tmps:Array Value) (w:World) (a M:Nat) (bv:Bool) (h4:tmps.getD 4 undef=.pointer (some ⟨a,0,none⟩)) (h5:tmps.getD 5 undef=.bool bv) (hb:Blk w a 33 (setC M)) :
  (results Tryz.f16 tmps).run Tryz.prog w=.ok (.tuple #[setV M,.bool bv]) w:=by
 obtain ⟨s0,s1,s2,s3,sf⟩:=hb.facts4;simp at h4 h5;simp [results,Tryz.results16,asAddr,h4,h5,s0,s1,s2,s3,setV,go_sem]
theorem setAt_of {g:Gr} {p k:Nat} {q:Pr} (hq:g.prods[p]?=some q):setAt g (p,k)=match q.right[k]? with | some y=>if y.kind=0 then y.set else 0 | none=>0:=by
 unfold setAt aheadF rightOf;simp [hq]
 cases q.right[k]? <;> rfl
theorem nextr_any (g:Gr) (hg:Tb.Good g) (txt:List UInt8) (hn:txt.length<=100000) (sv pv fv lv:Value) (w:World) (hsv:SliceK (fun _=>True) Tb.encS 1 w sv g.sorts) (hpv:ProdsAt (fun _=>True) w pv g.prods) :
  Calls Tryz.prog 16 #[.agg #[sv,pv,.int .i64 g.start,fv,lv],.string ⟨txt.toArray⟩] w fun e w'=>∃ (t:Tbl) (a:Tba),RefOk g txt t a /\ e=.returned (.tuple #[setV (nextR g txt t a).1,.bool (nextR g txt t a).2]) /\ Below w.heap.size w w':=by
 obtain ⟨sa,sc,rfl⟩:=slice_shape hsv;obtain ⟨pa,pc,rfl⟩:=prodsAt_shape hpv;obtain ⟨tb,htb⟩:∃ tb:ByteArray,(⟨txt.toArray⟩:ByteArray)=tb:=⟨_,rfl⟩;have htz:txt.length=tb.size:=by rw [<- htb,ba_len]
 rw [htb];have hnz:tb.size<=100000:=by rw [<- htz];exact hn
 have HH:=Z6.mk hg hsv hpv htz htb hn;have hS:=hg.sorts;obtain ⟨S,hSd⟩:=eX g.sorts.length;obtain ⟨gs,hgs⟩:=eX g.start;obtain ⟨NP,hNP⟩:=eX g.prods.length;have HSd:=Z3.mk hSd hgs hNP;have hNPl:=hg.prods;rw [hNP] at hNPl;rw [hSd] at hS;rw [hSd,hNP,hgs];clear hg hsv hpv htz htb hSd hgs hNP hn;go_enter Tryz.func16,Tryz.ntmps16;go_upto_region 1 with fail
 have hGB:Blk ((w.alloc (.cells #[.slice sa S sc,.slice pa NP pc,.int .i64 gs,fv,lv] 27)).alloc (.cells (setC 0) 33)) w.heap.size 27 #[.slice sa S sc,.slice pa NP pc,.int .i64 gs,fv,lv]:=(Blk.new _ _ _).alloc _;have hRB:Blk ((w.alloc (.cells #[.slice sa S sc,.slice pa NP pc,.int .i64 gs,fv,lv] 27)).alloc (.cells (setC 0) 33)) (w.heap.size+1) 33 (setC 0):=Blk.new_ (by simp) _ _;have hb0:Below w.heap.size w ((w.alloc (.cells #[.slice sa S sc,.slice pa NP pc,.int .i64 gs,fv,lv] 27)).alloc (.cells (setC 0) 33)):=((bR _ _).alloc (nR _) _).alloc (by simp) _;have hz0:wd 0 0=0:=by decide
 have hz1:wd 0 1=0:=by decide
 have hz2:wd 0 2=0:=by decide
 have hz3:wd 0 3=0:=by decide
 unfold setC at hGB hRB hb0;rw [hz0,hz1,hz2,hz3] at hGB hRB hb0;generalize ((w.alloc (.cells #[.slice sa S sc,.slice pa NP pc,.int .i64 gs,fv,lv] 27)).alloc (.cells #[.int .u64 0,.int .u64 0,.int .u64 0,.int .u64 0] 33))=w1 at hGB hRB hb0 ⊢;obtain ⟨nb,hnb⟩:=eX w.heap.size;rw [hnb] at hGB hRB ⊢;obtain ⟨z0,z1,z2,z3,z4,zf⟩:=gfacts5 hGB;have htab:=table_any g HH.o1 txt HH.o6 _ _ fv lv w1 (HH.o2.all hb0) (prodsAt_below HH.o3 hb0);rw [HH.o5,HSd.o1,HSd.o2,HSd.o3] at htab;have H1:=Z5.mk hGB hb0 hnb htab hRB;clear hGB hb0 hnb htab hRB hz0 hz1 hz2 hz3;go_wp2_with fail
 refine H1.o4.mono ?_;rintro e w2 ⟨t,tt,tmid,trow,rfl,hsn,hok,hT,hb2⟩;have hGB:=H1.o1.below hb2 H1.o1.lt;obtain ⟨z0,z1,z2,z3,z4,zf⟩:=gfacts5 hGB;have hb02:=H1.o2.trans (hb2.mono H1.o2.size);have hst:=starts_any g HH.o1 txt HH.o6 _ _ fv lv w2 (HH.o2.all hb02) (prodsAt_below HH.o3 hb02) t tt tmid trow (by rw [HSd.o1];exact hT) hok hsn;rw [HH.o5,HSd.o1,HSd.o2,HSd.o3] at hst;have H2:=Z5.mk hGB hb02 hT hst (H1.o5.below hb2 H1.o5.lt);clear hGB hb2 hb02 hst hT hok hsn;go_wp2_with fail
 refine H2.o4.mono ?_;rintro e w2b ⟨a,ta,mid,rfl,hrf,hA,hb3⟩;have hb03:=H2.o2.trans (hb3.mono H2.o2.size);have H2b:=Z6.mk (H2.o1.below hb3 H2.o1.lt) hb03 (H2.o3.below hb3) hA hrf (H2.o5.below hb3 H2.o5.lt);clear hb3 hb03 hA hrf z0 z1 z2 z3 z4 zf;go_upto_region 4 with fail
 have hb3:Below w2b.heap.size w2b (w2b.alloc (.cells #[.int .u64 0,.int .u64 0,.int .u64 0,.int .u64 0] 33)):=(bR _ _).alloc (nR _) _;have hXB:Blk (w2b.alloc (.cells #[.int .u64 0,.int .u64 0,.int .u64 0,.int .u64 0] 33)) w2b.heap.size 33 (setC 0):=Blk.new w2b 33 #[.int .u64 0,.int .u64 0,.int .u64 0,.int .u64 0];generalize (w2b.alloc (.cells #[.int .u64 0,.int .u64 0,.int .u64 0,.int .u64 0] 33))=w3 at hb3 hXB ⊢;obtain ⟨xb,hxb⟩:=eX w2b.heap.size;rw [hxb] at hXB hb3 ⊢;have H3:=Z3.mk hXB hb3 hxb;clear hXB hb3 hxb;obtain ⟨eb,heb⟩:∃ eb,decide (txt.length=0)=eb:=⟨_,rfl⟩;have he1:((tb.size:Int)==0)=eb:=by
  rw [<- heb,HH.o4]
  by_cases h:tb.size=0
  ·rw [h];rfl
  ·rw [decide_eq_false h];exact beq_eq_false_iff_ne.2 (by omega)
 have HEB:=Hd heb;clear heb;go_upto_region 7 with fail
 clear he1
 go_loopg [9,11] NP (fun mm v9 v11 wr=>∃ (p:Nat),p<=NP /\ mm=NP - p /\ v11=.int .i64 p /\ v9=.bool (accP g txt t a p).2 /\ Blk wr xb 33 (setC (accP g txt t a p).1) /\ Below xb w2b wr)
 case atStart=>exact ⟨0,Nat.zero_le _,rfl,rfl,by rw [accP_zero,HEB.out],H3.o1,H3.o2⟩
 case round =>
  obtain ⟨p,hp,hm,rfl,rfl,hX,hbr⟩:=hrel;have hGB:=H2b.o1.below hbr (by rw [<- H3.o3];exact H2b.o1.lt)
  by_cases hlt:p<NP
  ·obtain ⟨q,hq⟩:∃ q,g.prods[p]?=some q:=⟨_,gE (by rw [HSd.o3];exact hlt)⟩;obtain ⟨pc2,b,o,ra,rc,epv,hbl,hrk,hpc⟩:=prodsAt_at HH.o3 hq;injection epv with e1 e2 e3;subst e1 e3;clear e2;have hqm:=gM hq;have hlow:Below w.heap.size w wr:=H2b.o2.trans (hbr.mono (by rw [<- H3.o3];exact H2b.o2.size))
   obtain ⟨f0,f1,f2,f3,f4,f5,f6⟩:=hpc wr hlow;obtain ⟨hl0,hl1⟩:=HH.o1.left q hqm;have hrl:=HH.o1.right q hqm;obtain ⟨ln,hln⟩:∃ ln:Nat,q.left=ln:=⟨q.left.toNat,by omega⟩;have hlS:ln<S:=by rw [HSd.o1] at hl1;omega
   have hsym:=HH.o1.sym q hqm;have hsys:=good_sys HH.o1 hqm;rw [HSd.o1] at hsym hsys;obtain ⟨z0,z1,z2,z3,z4,zf⟩:=gfacts5 hGB;have hp0:(0:Int)<=p:=by omega
   have hp1:(p:Int)<NP:=by omega
   obtain ⟨rl,hrld⟩:=eX q.right.length;obtain ⟨ro,hro⟩:=eX q.role;have hrk2:=hrk;have hpc2:q.role≠11∨q.role=11:=by omega
   rw [hln] at f0;rw [hrld] at f1 hrl hrk2;rw [hro] at f3;have HB:=Z11.mk hm hX hbr hq hrk2 hln hsym hsys hrld hro hl0;clear hm hX hpc2 hq hrk hrk2 hln hsym hsys hrld hro hl0 hl1 hpc hlow hqm hbl hGB;go_upto_region 10 with fail
   have hP:Blk (wr.alloc (.cells #[.int .i64 ln,.slice ra rl rc,.string ⟨q.cons.toArray⟩,.int .i64 ro,.bool q.prefer,.bool q.avoid,.int .i64 q.made] 53)) wr.heap.size 53 #[.int .i64 ln,.slice ra rl rc,.string ⟨q.cons.toArray⟩,.int .i64 ro,.bool q.prefer,.bool q.avoid,.int .i64 q.made]:=Blk.new _ _ _;have hb4:Below wr.heap.size wr (wr.alloc (.cells #[.int .i64 ln,.slice ra rl rc,.string ⟨q.cons.toArray⟩,.int .i64 ro,.bool q.prefer,.bool q.avoid,.int .i64 q.made] 53)):=(bR _ wr).alloc (nR _) _;generalize (wr.alloc (.cells #[.int .i64 ln,.slice ra rl rc,.string ⟨q.cons.toArray⟩,.int .i64 ro,.bool q.prefer,.bool q.avoid,.int .i64 q.made] 53))=w4 at hP hb4 ⊢;obtain ⟨pcs,hpcs⟩:∃ pcs:Array Value,#[.int .i64 ln,.slice ra rl rc,.string ⟨q.cons.toArray⟩,.int .i64 ro,.bool q.prefer,.bool q.avoid,.int .i64 q.made]=pcs:=⟨_,rfl⟩;have x3:=hP.cell 3;simp at x3;have hpc0:pcs[0]?=some (.int .i64 ln):=by rw [<- hpcs];rfl
   have hpc1:pcs[1]?=some (.slice ra rl rc):=by rw [<- hpcs];rfl
   rw [hpcs] at hP;obtain ⟨pb,hpb⟩:=eX wr.heap.size;have hszx:xb<=wr.heap.size:=by rw [<- H3.o3];exact hbr.size
   have hb34:=hbr.trans (hb4.mono hszx);have hX4:=HB.o2.below hb4 HB.o2.lt;rw [hpb] at hP x3 ⊢;have HQ:=Z5.mk hP hpc0 hpc1 hb34 hX4;clear hP hb4 hpcs hpc0 hpc1 hb34 hX4 hszx hpb hbr f0 f1 f2 f3 f4 f5 f6 z0 z1 z2 z3 z4 zf
   by_cases hr:ro=11
   ·have hac:=accP_no (w:=txt) (t:=t) (a:=a) HB.o4 (by rw [HB.o10];exact hr);have HR:=Hd hac;clear hac;go_wp2_with fail
    go_roundg (NP - (p+1))
    case measure=>have:=HB.o1;omega
    case rel=>exact ⟨p+1,by omega,rfl,rfl,by rw [HR.out],by rw [HR.out];exact HQ.o5,HQ.o4⟩
   ·have hr2:(ro==11)=false:=beq_eq_false_iff_ne.2 hr;go_upto_region 12 with fail
    clear x3 hr2
    go_loopg [9,13] (tb.size+1) (fun mm v9 v13 wr=>∃ (i:Nat),i<=tb.size+1 /\ mm=tb.size+1 - i /\ v13=.int .i64 i /\ v9=.bool (accI g txt t a p q i).2 /\ Blk wr xb 33 (setC (accI g txt t a p q i).1) /\ Below xb w2b wr /\ Blk wr pb 53 pcs)
    case atStart=>exact ⟨0,Nat.zero_le _,rfl,rfl,rfl,HQ.o5,HQ.o4,HQ.o1⟩
    case round =>
     obtain ⟨i,hi,hm,rfl,rfl,hX,hbr,hP⟩:=hrel
     by_cases hil:i<=tb.size
     ·have hi0:(0:Int)<=i:=by omega
      have hi1:(i:Int)<=tb.size:=by omega
      have hi2:(i:Int)<tb.size+1:=by omega
      have hl0:(0:Int)<=ln:=by omega
      have hl1:(ln:Int)<S:=by omega
      have hAr:=H2b.o4.below (by rw [H3.o3];exact hbr);rw [HH.o4] at hAr;have c0:=hAr.top.cell hlS;have c1:=(hAr.rows ln hlS).cell (i:=i) (by omega);have x0:=(hP.cell 0).trans HQ.o2;have x1:=(hP.cell 1).trans HQ.o3;obtain ⟨b1,hb1⟩:=eX (a (ln:Int) i);rw [hb1] at c1;have HI2:=Z5.mk hm hX hbr hP hb1;clear hm hX hbr hP hb1 hAr
      cases b1 with
      | false =>
       have hac:=accI_no (g:=g) (w:=txt) (t:=t) (a:=a) (p:=p) (q:=q) (i:=i) (by rw [HB.o6];exact HI2.o5);have HR:=Hd hac;clear hac;go_wp2_with fail
       go_roundg (tb.size+1 - (i+1))
       case measure=>have:=HI2.o1;omega
       case rel=>exact ⟨i+1,by omega,rfl,rfl,by rw [HR.out],by rw [HR.out];exact HI2.o2,HI2.o3,HI2.o4⟩
      | true =>
       go_upto_region 16 with fail
       clear c0 c1 x0 x1
       go_loopg [9,14] (rl+1) (fun mm v9 v14 wr=>∃ (k:Nat),k<=rl+1 /\ mm=rl+1 - k /\ v14=.int .i64 k /\ v9=.bool (accK g txt t a p q i k).2 /\ Blk wr xb 33 (setC (accK g txt t a p q i k).1) /\ Below xb w2b wr /\ Blk wr pb 53 pcs)
       case atStart=>exact ⟨0,Nat.zero_le _,rfl,rfl,rfl,HI2.o2,HI2.o3,HI2.o4⟩
       case round =>
        obtain ⟨k,hk,hm,rfl,rfl,hX,hbr,hP⟩:=hrel
        by_cases hkl:k<=rl
        ·have hlow:Below w.heap.size w wr:=H2b.o2.trans (hbr.mono (by rw [<- H3.o3];exact H2b.o2.size));have hrv:=HB.o5.all hlow;have hk0:(0:Int)<=k:=by omega
         have hk1:(k:Int)<=rl:=by omega
         have hkc:(k:Int)<=rc:=by
          obtain ⟨a1,c1,er,hcl,_⟩:=id hrv;injection er with r1 r2 r3;subst r3;rw [HB.o9] at hcl;omega
         have x1:=(hP.cell 1).trans HQ.o3;have HK:=Z6.mk hm hX hbr hP hlow hrv;clear hm hX hbr hP hlow hrv;have hq1:=HB.o9;have hdv:Calls Tryz.prog 42 #[.slice (some ⟨tt,0,none⟩) S S,.string tb,.slice ra k rc,.int .i64 0,.int .i64 i,.int .i64 tb.size] wr fun e w'=>e=.returned (.bool (derivesF t txt (q.right.take k) i txt.length)) /\ Below wr.heap.size wr w':=by
          have h:=derives_any txt HH.o6 S (by omega) t tt tmid trow (q.right.take k) (by rw [List.length_take];omega) (HB.o8.take k) (.slice ra k rc) (q.right.take k).length 0 (by omega) i txt.length wr (by have:=HH.o4;omega) (nR _) (H2b.o3.below (by rw [H3.o3];exact HK.o3)) (sliceK_take HK.o6 (by omega));rw [HH.o5,List.drop_zero,HH.o4] at h;rw [HH.o4];exact h
         obtain ⟨b2,hb2⟩:=eX (derivesF t txt (q.right.take k) i txt.length);rw [hb2] at hdv;have HDV:=Z2.mk hdv hb2;clear hdv hb2 hq1;go_wp2_with fail
         refine HDV.o1.mono ?_;rintro e w5 ⟨rfl,hb5⟩;have hszx:xb<=wr.heap.size:=by rw [<- H3.o3];exact HK.o3.size
         have hb35:=HK.o3.trans (hb5.mono hszx);have hP5:=HK.o4.below hb5 HK.o4.lt;have hX5:=HK.o2.below hb5 HK.o2.lt;have hlow5:=HK.o5.trans (hb5.mono HK.o5.size);have hszx5:xb<=w5.heap.size:=Nat.le_trans hszx hb5.size;have HW:=Z5.mk hb35 hP5 hX5 hlow5 hszx5;clear hb35 hb5 hszx hlow5 x1
         cases b2 with
         | false =>
          have hac:=accK_no (g:=g) (a:=a) (p:=p) (q:=q) HDV.o2;have HR:=Hd hac;clear hac hP5 hX5 hszx5;go_wp2_with fail
          go_roundg (rl+1 - (k+1))
          case measure=>have:=HK.o1;omega
          case rel=>exact ⟨k+1,by omega,rfl,rfl,by rw [HR.out],by rw [HR.out];exact HW.o3,HW.o1,HW.o2⟩
         | true =>
          have hac:=accK_yes (g:=g) (a:=a) (p:=p) (q:=q) HDV.o2;rw [addN,setAt_of HB.o4] at hac;have x1:=(hP5.cell 1).trans HQ.o3
          by_cases hkr:k<rl
          ·obtain ⟨y,hy⟩:∃ y,q.right[k]?=some y:=⟨_,gE (by rw [HB.o9];exact hkr)⟩;have hyk:=HB.o7 y (gM hy);obtain ⟨a1,c1,er,_,_,hkk⟩:=HB.o5.all HW.o4;injection er with r1 r2 r3;subst r1 r3;clear r2;obtain ⟨rg,ro2,rfl,_,hrk⟩:=hkk (by intro h;rw [h] at hy;simp at hy)
           have g0:=hrk.cells k y hy 0 _ rfl;have g1:=hrk.cells k y hy 1 _ rfl;have g2:=hrk.cells k y hy 2 _ rfl;have g3:=hrk.cells k y hy 3 _ rfl;have g4:=hrk.cells k y hy 4 _ rfl;rw [Nat.add_zero] at g0;have hk2:(k:Int)<rl:=by omega
           rw [hy] at hac;obtain ⟨sk,sM,so⟩:=y;simp only at g0 g1 g2 g3 g4 hyk hac;have hk01:sk=0∨sk=1:=by rcases hyk with h | h;exact .inl h.1;exact .inr h.1
           clear hkk hrk hy hyk
           rcases hk01 with rfl | rfl
           ·obtain ⟨M,hM⟩:=eX ((accK g txt t a p q i k).1);rw [hM] at hac hX5;have HR:=Hd hac;clear hac hM;go_upto_region 22 with fail
            have hS6:Blk (w5.alloc (.cells (setC sM) 33)) w5.heap.size 33 (setC sM):=Blk.new _ _ _;have hb6:Below w5.heap.size w5 (w5.alloc (.cells (setC sM) 33)):=(bR _ _).alloc (nR _) _;unfold setC at hS6 hb6;generalize (w5.alloc (.cells #[.int .u64 (wd sM 0),.int .u64 (wd sM 1),.int .u64 (wd sM 2),.int .u64 (wd sM 3)] 33))=w6 at hS6 hb6 ⊢;have hX6:=hX5.below hb6 hX5.lt;have hX7:=((((hX6.set_ 0 (.int .u64 (wd (M ||| sM) 0))).set_ 1 (.int .u64 (wd (M ||| sM) 1))).set_ 2 (.int .u64 (wd (M ||| sM) 2))).set_ 3 (.int .u64 (wd (M ||| sM) 3)));have hP7:Blk ((((w6.setCell ⟨xb,0,none⟩ (.int .u64 (wd (M ||| sM) 0))).setCell ⟨xb,1,none⟩ (.int .u64 (wd (M ||| sM) 1))).setCell ⟨xb,2,none⟩ (.int .u64 (wd (M ||| sM) 2))).setCell ⟨xb,3,none⟩ (.int .u64 (wd (M ||| sM) 3))) pb 53 pcs:=by
             have hne:pb≠xb:=blk_types hP5 hX5 (by decide);exact Blk.far (Blk.far (Blk.far (Blk.far (hP5.below hb6 hP5.lt) (p:=⟨xb,0,none⟩) hne _) (p:=⟨xb,1,none⟩) hne _) (p:=⟨xb,2,none⟩) hne _) (p:=⟨xb,3,none⟩) hne _
            have hb7:=((((HW.o1.trans (hb6.mono hszx5)).setCell (p:=⟨xb,0,none⟩) (nR _) (.int .u64 (wd (M ||| sM) 0))).setCell (p:=⟨xb,1,none⟩) (nR _) (.int .u64 (wd (M ||| sM) 1))).setCell (p:=⟨xb,2,none⟩) (nR _) (.int .u64 (wd (M ||| sM) 2))).setCell (p:=⟨xb,3,none⟩) (nR _) (.int .u64 (wd (M ||| sM) 3));unfold setC at hX6;obtain ⟨s0,s1,s2,s3,sf⟩:=hX6.facts4;obtain ⟨t0,t1,t2,t3,_⟩:=hS6.facts4;have o0:=wd_or M sM 0;have o1:=wd_or M sM 1;have o2:=wd_or M sM 2;have o3:=wd_or M sM 3;have hxl:=hX6.lt;have HX:=Z3.mk hX7 hP7 hb7;obtain ⟨sb,hsb⟩:=eX w5.heap.size;rw [hsb] at t0 t1 t2 t3 ⊢;clear hX7 hP7 hb7 hX6 hX5 hP5 hS6 hb6 hsb g0 g1 g2 g3 g4 x1 hszx5;go_wp2_with fail
            go_roundg (rl+1 - (k+1))
            case measure=>have:=HK.o1;omega
            case rel=>exact ⟨k+1,by omega,rfl,rfl,by rw [HR.out],by rw [HR.out];exact HX.o1,HX.o3,HX.o2⟩
           ·have HR:=Hd hac;clear hac hX5 hP5 hszx5;go_wp2_with fail
            go_roundg (rl+1 - (k+1))
            case measure=>have:=HK.o1;omega
            case rel =>
             refine ⟨k+1,by omega,rfl,rfl,by rw [HR.out],?_,HW.o1,HW.o2⟩;rw [HR.out];simp only [show ¬ (1:Int)=0 by decide,if_false,Nat.or_zero];exact HW.o3
          ·obtain rfl:k=rl:=by omega
           have hkz:¬ ((k:Int)<k):=by omega
           rw [List.getElem?_eq_none (by rw [HB.o9];exact nR _)] at hac;simp only [Nat.or_zero] at hac;have HR:=Hd hac;clear hac hX5 hP5 hszx5;go_wp2_with fail
           go_roundg (k+1 - (k+1))
           case measure=>have:=HK.o1;omega
           case rel=>exact ⟨k+1,by omega,rfl,rfl,by rw [HR.out],by rw [HR.out];exact HW.o3,HW.o1,HW.o2⟩
        ·obtain rfl:k=rl+1:=by omega
         have hkz:¬ ((rl:Int)+1<=(rl:Int)):=by omega
         have x1:=(hP.cell 1).trans HQ.o3;have hac:=accI_yes (g:=g) (w:=txt) (t:=t) (a:=a) (p:=p) (q:=q) (i:=i) (by rw [HB.o6];exact HI2.o5);rw [HB.o9] at hac;have HR:=Z4.mk hac hX hbr hP;clear hac hX hbr hP hm;simp only [Int.natCast_add,Int.cast_ofNat_Int];go_wp2_with fail
         go_roundg (tb.size+1 - (i+1))
         case measure=>have:=HI2.o1;omega
         case rel=>exact ⟨i+1,by omega,rfl,rfl,by rw [HR.o1],by rw [HR.o1];exact HR.o2,HR.o3,HR.o4⟩
     ·obtain rfl:i=tb.size+1:=by omega
      have hiz:¬ ((tb.size:Int)+1<=(tb.size:Int)):=by omega
      have hac:=accP_yes (w:=txt) (t:=t) (a:=a) HB.o4 (by rw [HB.o10];exact hr);rw [HH.o4] at hac;have HR:=Z3.mk hac hX hbr;clear hac hX hbr hP hm;simp only [Int.natCast_add,Int.cast_ofNat_Int];go_wp2_with fail
      go_roundg (NP - (p+1))
      case measure=>have:=HB.o1;omega
      case rel=>exact ⟨p+1,by omega,rfl,rfl,by rw [HR.o1],by rw [HR.o1];exact HR.o2,HR.o3⟩
  ·obtain rfl:p=NP:=by omega
   have hpz:¬ ((p:Int)<p):=by omega
   have x1:=hGB.cell 1;simp at x1;have hac:=accP_done g txt t a;rw [HSd.o3] at hac;obtain ⟨M,hM⟩:=eX ((accP g txt t a p).1);obtain ⟨bv,hbv⟩:=eX ((accP g txt t a p).2);rw [hM] at hX;rw [hbv];have hRB:=H2b.o6.below hbr (by rw [<- H3.o3];exact H2b.o6.lt);have hlow:Below w.heap.size w wr:=H2b.o2.trans (hbr.mono (by rw [<- H3.o3];exact H2b.o2.size));have hrbx:nb+1<wr.heap.size:=hRB.lt;have hX2:=hX;unfold setC at hX2;obtain ⟨s0,s1,s2,s3,sf⟩:=hX2.facts4;obtain ⟨t0,t1,t2,t3,tf⟩:=hRB.facts4;have HR:=Z5.mk hac hM hbv hlow hRB;clear hac hM hbv hlow hRB hX hX2 hbr hm hGB;go_wp2_with fail
   refine bodyPost_ret (nrres _ _ (nb+1) M bv (by rfl) (by rfl) ((((HR.o5.set_ 0 (.int .u64 (wd M 0))).set_ 1 (.int .u64 (wd M 1))).set_ 2 (.int .u64 (wd M 2))).set_ 3 (.int .u64 (wd M 3)))) rfl ?_;refine ⟨t,a,H2b.o5,by rw [<- HR.o1,HR.o2,HR.o3],?_⟩;have hn:=H1.o3;refine (((HR.o4.setCell ?_ _).setCell ?_ _).setCell ?_ _).setCell ?_ _ <;> (simp only;omega)
end Go.Proofs.YthiochcpmfkgcaaGreatDoor.Gl
