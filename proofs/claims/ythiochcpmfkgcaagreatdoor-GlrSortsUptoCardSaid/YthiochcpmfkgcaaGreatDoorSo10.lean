/- Walks and plain laws that the last text stands on: TbBuild, TbNumber, TbLead1A, TbLead4. -/
import Derived.Test.YthiochcpmfkgcaaGreatDoorSo9
import Derived.Test.YthiochcpmfkgcaaGreatDoorSo7
set_option linter.unusedVariables false
set_option linter.unusedSimpArgs false
set_option maxRecDepth 100000
set_option maxHeartbeats 16000000
namespace Go.Proofs.YthiochcpmfkgcaaGreatDoor.Bx
open Go.RowKit Go.Proofs Mx

theorem sizeBuilder:(Tryz.prog.info? 160).map (·.size)=some 2:=by kernel_rfl
theorem liesBuilder:liesAt Tryz.prog Tryz.prog.depth 160 (2 / Tryz.prog.cellsOf 160) 0 160 1=true:=by kernel_rfl
theorem infoByte:(Tryz.prog.info? 5).map (fun i=>(i.zero,i.size,i.bytes))=some (some (.int .u8 0),1,1):=by kernel_rfl

theorem copyCheck_used (b:Nat) (w:World) (h0:w.cell? ⟨b,0,none⟩=some (.pointer (some ⟨b,0,none⟩))) :
  Calls Tryz.prog 110 #[.pointer (some ⟨b,0,none⟩)] w fun e w'=>e=.returned (.tuple #[]) /\ w'=w:=by
 obtain ⟨j,hj,_⟩:=Option.map_eq_some_iff.1 sizeBuilder;go_enter Tryz.func110,Tryz.ntmps110
 go_wp2
 rw [Lib.run_neq_ptr_same w _ Tryz.underlying158 hj]
 go_wp2
 go_end0
 exact ⟨rfl,rfl⟩

theorem copyCheck_fresh (b:Nat) (w:World) (h0:w.cell? ⟨b,0,none⟩=some (.pointer none)) (hsh:w.shape? b=some (160,2)) (hfz:w.frozen? ⟨b,0,none⟩=false) :
  Calls Tryz.prog 110 #[.pointer (some ⟨b,0,none⟩)] w fun e w'=>e=.returned (.tuple #[]) /\ w'=w.setCell ⟨b,0,none⟩ (.pointer (some ⟨b,0,none⟩)):=by
 obtain ⟨j,hj,hjs⟩:=Option.map_eq_some_iff.1 sizeBuilder;go_enter Tryz.func110,Tryz.ntmps110
 go_wp2
 rw [Lib.run_to_unsafe w ⟨b,0,none⟩ Tryz.underlying158 Tryz.underlying222 hj (by rw [hjs];decide) hsh (Nat.zero_lt_succ 1)];simp only [Result.andThen];rw [Oper.upon_value]
 go_wp2
 rw [run_callFunc_extern Tryz.func133 (by kernel_rfl) (by kernel_rfl) (by kernel_rfl) (e:=Extern.AbiNoEscape.same) (by kernel_rfl)];rw [Lib.run_noEscape];simp only [Result.andThen];rw [Oper.upon_value]
 go_wp2
 rw [Lib.run_from_unsafe w ⟨b,0,none⟩ Tryz.underlying222 Tryz.underlying158 hj hsh liesBuilder];simp only [Result.andThen];rw [Oper.upon_value]
 go_wp2
 go_end0
 exact ⟨rfl,rfl⟩

theorem copyCheck (B b:Nat) (bs:List Value) (w:World) (h:Lib.IsBuilder 160 5 B b bs w) :
  Calls Tryz.prog 110 #[.pointer (some ⟨b,0,none⟩)] w fun e w'=>e=.returned (.tuple #[]) /\ (Lib.BuilderAt 160 5 B b (.pointer (some ⟨b,0,none⟩)) bs w' /\ Below B w w'):=by
 rcases h with h | h
 ·refine (copyCheck_fresh b w h.cell0 h.shape h.frozen0).mono ?_;rintro e w' ⟨rfl,rfl⟩;exact ⟨rfl,h.used _,(bR B w).setCell (p:=⟨b,0,none⟩) h.1 _⟩
 ·refine (copyCheck_used b w h.cell0).mono ?_;rintro e w' ⟨rfl,rfl⟩;exact ⟨rfl,h,bR B _⟩

theorem writeString (B b:Nat) (bs:List Value) (s:ByteArray) (w:World) (h:Lib.IsBuilder 160 5 B b bs w) (hlen:bs.length+s.size<=140737488355328) (hBw:B<=w.heap.size) :
  Calls Tryz.prog 82 #[.pointer (some ⟨b,0,none⟩),.string s] w fun e w'=>e=.returned (.tuple #[.int .i64 s.size,.nilIface]) /\ (Lib.BuilderAt 160 5 B b (.pointer (some ⟨b,0,none⟩)) (bs++Lib.strCells s) w' /\ Below B w w'):=by
 obtain ⟨i0,hi,hz0,hz1,hz2⟩:=info_parts infoByte;go_enter Tryz.func82,Tryz.ntmps82;go_wp2_with (go_at_call 110;refine (copyCheck B b bs _ h).mono ?_);rintro e w1 ⟨rfl,h1,hb1⟩;obtain ⟨hB,v,hbk,hown,hne⟩:=h1;have c0:w1.cell? ⟨b,0,none⟩=some (.pointer (some ⟨b,0,none⟩)):=by rw [Lib.cell_of_heap hbk];rfl
 have c1:w1.cell? ⟨b,1,none⟩=some v:=by rw [Lib.cell_of_heap hbk];rfl
 go_wp2_with (at_builtin;refine Lib.wpList_append_own_string _ rfl _ _ 55 9 rfl B 5 i0 Tryz.underlying55 Tryz.underlying9 hi hz0 hz1 hz2 _ _ _ rfl hown s rfl ?c3 ?c4 ?c5 ?_)
 case c3=>unfold maxLen;omega
 case c4=>omega
 case c5=>have:=hb1.size;omega
 intro v' w2 hown' hgrow _;have hlt:b<w1.heap.size:=Blk.lt (t:=160) hbk;have hb2:w2.heap[b]?=some (.cells #[.pointer (some ⟨b,0,none⟩),v] 160 (0,0)):=by
  rw [hgrow.block b hlt (fun e=>hne e.symm)];exact hbk
 have d0:w2.cell? ⟨b,0,none⟩=some (.pointer (some ⟨b,0,none⟩)):=by rw [Lib.cell_of_heap hb2];rfl
 have d1:w2.cell? ⟨b,1,none⟩=some v:=by rw [Lib.cell_of_heap hb2];rfl
 have f1:w2.frozen? ⟨b,1,none⟩=false:=Lib.frozen_of_heap hb2 1;obtain ⟨ao,n',cap,rfl⟩:∃ ao n' cap,v'=.slice ao n' cap:=by
  rcases hown'.2 with ⟨hv,_⟩ | ⟨g,cap,cur,hv,_⟩
  ·exact ⟨_,_,_,hv⟩
  ·exact ⟨_,_,_,hv⟩
 go_wp2
 go_ret2
 refine ⟨rfl,?_,?_⟩
 ·exact Lib.BuilderAt.put (T:=160) (e:=5) hB hb2 (bs':=bs++Lib.strCells s) (by simpa [Lib.strCells_length] using hown') (by decide)
 ·exact (hb1.grown hgrow (by have:=hb1.size;omega) (fun k hk=>(hown.lt k hk).1)).setCell (p:=⟨b,1,none⟩) hB _
theorem row_below {w w':World} {B:Nat} {e:TypeId} {z:Nat} {v:Value} {n:Nat} {xs:List Value} (h:w.ownsRow B e z v n xs) (hb:Below w.heap.size w w'):w'.ownsRow B e z v n xs :=
 h.kept (row:=none) ⟨hb.os,hb.tape,hb.output,hb.size,fun k hk _=>hb.block k hk⟩ (by cases hv:v.ownBlock <;> simp)
theorem at_below {T e:TypeId} {B b:Nat} {p:Value} {bs:List Value} {w w':World} (h:Lib.BuilderAt T e B b p bs w) (hb:Below w.heap.size w w'):Lib.BuilderAt T e B b p bs w':=by
 have hlt:=h.lt;obtain ⟨hB,v,hh,hown,hne⟩:=h;exact ⟨hB,v,(hb.block b hlt).trans hh,row_below hown hb,hne⟩
theorem isb_below {T e:TypeId} {B b:Nat} {bs:List Value} {w w':World} (h:Lib.IsBuilder T e B b bs w) (hb:Below w.heap.size w w'):Lib.IsBuilder T e B b bs w' :=
 h.elim (fun h=>.inl (at_below h hb)) (fun h=>.inr (at_below h hb))
end Go.Proofs.YthiochcpmfkgcaaGreatDoor.Bx
namespace Go.Proofs.YthiochcpmfkgcaaGreatDoor.Tb
open Go Go.RowKit Go.Proofs Go.Maps Mx Bx
theorem keyF_take (l:List It) (i:Nat) (x:It) (h:l[i]?=some x):keyF (l.take (i+1))=keyF (l.take i)++keyIt x:=by
 unfold keyF;rw [List.take_add_one,h];simp
theorem dec_short (n:Nat) (h:n<100):(Lib.decDigits n).length<=2:=by
 have h1:(List.range 100).all (fun n=>decide ((Lib.decDigits n).length<=2))=true:=by decide +kernel
 have h2:=List.all_eq_true.1 h1 n (by simp;omega)
 simpa using h2
theorem key_short:∀ (l:List It),(∀ x∈l,x.1<100 /\ x.2<100)->(keyF l).length<=6 * l.length
 | [],_=>by simp [keyF]
 | x::l,h=>by
  have h1:=key_short l (fun y hy=>h y (List.mem_cons_of_mem _ hy));have h2:=h x (by simp);have h3:=dec_short x.1 h2.1;have h4:=dec_short x.2 h2.2;have:keyF (x::l)=keyIt x++keyF l:=rfl;rw [this,List.length_append,List.length_cons];unfold keyIt;simp only [List.length_append,List.length_cons,List.length_nil];omega
theorem key_cells (s1 s2:List UInt8):Lib.strCells ((⟨s1.toArray⟩:ByteArray)++⟨#[46]⟩++⟨s2.toArray⟩++⟨#[32]⟩)=Lib.byteCells (s1++46::(s2++[32])):=by
 simp [Lib.strCells,Lib.byteCells]
theorem number_any (g:Gr) (hg:Good g) (B mb bm:Nat) (sm:List SM) (D2:Nat->Prop) (l:List It) (hl:∀ x∈l,itemOk g x=true) (hln:l.length<=10000) (v:Value) (w:World) (hm:MkW g B mb bm sm w) (hv:SliceK D2 encIt 2 w v l) :
  Calls Tryz.prog 63 #[.pointer (some ⟨mb,0,none⟩),v] w fun e w' =>
   (∃ n,(sm.map (·.items)).findIdx? (·==closedF g l)=some n /\ e=.returned (.int .i64 n) /\ MkW g B mb bm sm w' /\ Below w.heap.size w w') ∨
   ((sm.map (·.items)).findIdx? (·==closedF g l)=none /\ sm.length<16384 /\ e=.returned (.int .i64 sm.length) /\ ∃ v',MkW g B mb bm (sm++[freshSM v' (closedF g l)]) w' /\ KeepM mb bm w w') ∨
   ((sm.map (·.items)).findIdx? (·==closedF g l)=none /\ 16384<=sm.length /\ e=.panicked fullP /\ KeepM mb bm w w'):=by
 have hclosed:=closed_any _ D2 g hg mb l hl (by omega) v w hm.gr hv
 obtain ⟨hK,hKok⟩:=closedF_fits hl;have hKs:=closedF_small hg hl;have hP:=hg.prods;generalize closedF g l=K at *;have hsmall:∀ x∈K,x.1<100 /\ x.2<100:=by
  intro x hx;have hok:=(itemOk_iff g x).1 (hKok x hx);have h2:(rightOf g x.1).length<=30:=by
   unfold rightOf;rw [gE hok.1];exact hg.right _ (List.getElem_mem _)
  omega
 have HM:=Z3.mk hm hg hKok;clear hm hv hl hg hKok;go_enter Tryz.func63,Tryz.ntmps63;go_wp2_with fail
 refine hclosed.mono ?_;rintro e w1 ⟨v1,rfl,hv1,hb1⟩;obtain ⟨a1,c1,rfl,hc1,hc2,hk1⟩:=hv1;have H1:=Z2.mk hk1 hb1;clear hk1 hb1 hclosed;go_wp2_with fail
 have hbld:Lib.IsBuilder 160 5 w1.heap.size w1.heap.size (Lib.byteCells (keyF (K.take 0))) (w1.alloc (.cells #[.pointer none,.slice none 0 0] 160)) :=
  .inl ⟨nR _,.slice none 0 0,heap_alloc_new w1 _,World.ownsRow_nil _ _ _ _,by simp [Value.ownBlock]⟩
 go_loopg [15] K.length (fun m v15 wr=>∃ i:Nat,i<=K.length /\ m=K.length - i /\ v15=.int .i64 i /\ Lib.IsBuilder 160 5 w1.heap.size w1.heap.size (Lib.byteCells (keyF (K.take i))) wr /\ Below w1.heap.size w1 wr /\ w1.heap.size+1<=wr.heap.size)
 case atStart=>exact ⟨0,by omega,rfl,rfl,hbld,(bR _ w1).alloc (nR _) _,by simp⟩
 case round =>
  clear hbld;obtain ⟨i,hi,hm,rfl,hB,hb,hsz⟩:=hrel
  by_cases hlt:i<K.length
  ·obtain ⟨⟨n,d⟩,hx⟩:∃ x,K[i]?=some x:=⟨_,gE hlt⟩;obtain ⟨kg,ko,rfl,_,hkr⟩:=H1.o1 (by rintro rfl;simp at hlt);have k0:=hkr.cells i _ hx 0 _ rfl;have k1:=hkr.cells i _ hx 1 _ rfl;simp only [Nat.add_zero] at k0;have k0:=(hb.cell (p:=⟨kg,ko+i * 2,none⟩) (wL _ _ k0)).trans k0;have k1:=(hb.cell (p:=⟨kg,ko+i * 2+1,none⟩) (wL _ _ k1)).trans k1;obtain ⟨hn100,hd100⟩:=hsmall _ (gM hx);simp only at hn100 hd100;have hlt1:(i:Int)<K.length:=by omega
   have hi0:(0:Int)<=i:=by omega
   have hi1:=fun W=>Tryz.strconv_Itoa_small n hn100 W;have hi2:=fun W=>Tryz.strconv_Itoa_small d hd100 W;have hs1:=dec_short n hn100;have hs2:=dec_short d hd100;obtain ⟨s1,he1⟩:=eX (Lib.decDigits n);obtain ⟨s2,he2⟩:=eX (Lib.decDigits d);rw [he1] at hi1 hs1;rw [he2] at hi2 hs2;have HD:=Z2.mk he1 he2;clear he1 he2;have hq1:¬ 9223372036854775807<s1.length+1:=by omega
   have hq2:¬ 9223372036854775807<s1.length+1+s2.length:=by omega
   have hq3:¬ 9223372036854775807<s1.length+1+s2.length+1:=by omega
   have A:=Z5.mk hm hB hb hsz hx;clear hm hB hb hsz hx hkr;go_wp2_with fail
   generalize hw2:wr.alloc (.cells #[.int .i64 n,.int .i64 d] 134)=w2;have hN:Blk w2 wr.heap.size 134 #[.int .i64 n,.int .i64 d]:=by rw [<- hw2];exact Blk.new wr _ _
   obtain ⟨n0,n1,nf⟩:=hN.facts2;have hb2:Below wr.heap.size wr w2:=by rw [<- hw2];exact (bR _ wr).alloc (nR _) _
   have H2:=Hd hb2;clear hw2 hN hb2
   go_still_tail 9,(by kernel_rfl)
   still_call (hi1 _)
   repeat still_step
   still_call (hi2 _)
   repeat still_step
   try refine wpStill_nil ?_
   change wpList _ _ _ _ _ w2.drew
   go_wp2_with fail
   have hkl:(keyF (K.take i)).length<=6 * K.length:=by
    have h1:=key_short (K.take i) (fun x hx=>hsmall x (List.mem_of_mem_take hx));rw [List.length_take] at h1;omega
   have hdr:Below wr.heap.size wr w2.drew:=H2.out.drew;have hsz2:w1.heap.size<=w2.drew.heap.size:=by have:=H2.out.size;have:=A.o4;show w1.heap.size<=w2.heap.size;omega
   refine (writeString w1.heap.size w1.heap.size _ _ _ (isb_below A.o2 hdr) ?_ hsz2).mono ?_
   ·rw [<- Lib.strCells_length,key_cells];simp only [Lib.byteCells,List.length_map,List.length_append,List.length_cons,List.length_nil];omega
   rintro e w3 ⟨rfl,hB3,hb3⟩;have H3:=Z2.mk hB3 hb3;clear hB3 hb3 hkl hsz2;go_wp2_with fail
   go_roundg (K.length - (i+1))
   case measure=>have:=A.o1;omega
   case rel =>
    refine ⟨i+1,by omega,rfl,rfl,.inr ?_,(A.o3.trans (hdr.mono (by have:=A.o4;omega))).trans H3.o2,by have:=A.o4;have:=hdr.size;have:=H3.o2.size;omega⟩;have h1:=H3.o1;rw [key_cells] at h1;rw [keyF_take K i _ A.o5];unfold keyIt;rw [HD.o1,HD.o2];rw [show Lib.byteCells (keyF (K.take i)++(s1++46::(s2++[32])))=Lib.byteCells (keyF (K.take i))++Lib.byteCells (s1++46::(s2++[32])) by simp [Lib.byteCells]];exact h1
  ·obtain rfl:i=K.length:=by omega
   rw [List.take_length] at hB;have hbw:Below w.heap.size w wr:=H1.o2.trans (hb.mono H1.o2.size);have hMW:=HM.o1.below hbw;have hmlt:mb<w1.heap.size:=by have:=HM.o1.mlt;have:=HM.o1.size;have:=H1.o2.size;omega
   have hblt:bm<w1.heap.size:=by have:=HM.o1.blt;have:=HM.o1.size;have:=H1.o2.size;omega
   have hF:Lib.IsBuilderF 160 5 w1.heap.size w1.heap.size (Lib.byteCells (keyF K)) wr.drew:=Lib.IsBuilderF.of hB;have hFs:w1.heap.size<=wr.drew.heap.size:=by show w1.heap.size<=wr.heap.size;omega
   have hm6:∀ W,Below w1.heap.size wr.drew W->W.cell? ⟨mb,6,none⟩=some (.map (some bm)):=fun W h=>(h.cell (p:=⟨mb,6,none⟩) hmlt).trans hMW.met
   obtain ⟨f,hf1,hf2⟩:=hMW.map;have hkl:(keyF K).length<=6 * K.length:=key_short K hsmall;have hkey:keyOf Tryz.prog 9 (.string ⟨(keyF K).toArray⟩)=some (.string (keyF K)):=by
    have h1:=WideMaps.keyOf_string_mk (P:=Tryz.prog) (k:=9) Tryz.underlying9 (s:=⟨(keyF K).toArray⟩) (by unfold maxLen;show (keyF K).toArray.size<=_;simp;omega)
    simpa using h1
   have hlook:∀ W,Below w1.heap.size wr.drew W->(Instr.lookup 128 (.map (some bm)) (.string ⟨(keyF K).toArray⟩) true).run Tryz.prog W=.ok (.tuple #[(((sm.map (·.items)).findIdx? (·==K)).map fun (n:Nat)=>Value.int .i64 n).getD (.int .i64 0),.bool (((sm.map (·.items)).findIdx? (·==K)).map fun (n:Nat)=>Value.int .i64 n).isSome]) W:=by
    intro W h;have hfW:MapV Tryz.prog 9 W bm sm.length f:=(show MapV Tryz.prog 9 wr.drew bm sm.length f from hf1).below h hblt;have h1:=hfW.look_ok (string_keyed Tryz.underlying9) Tryz.underlying128 (Tryz.zeroValue3 W) hkey;rw [hf2 K] at h1;exact h1
   have HW1:=Hd hb;have HW:=Z4.mk hMW hbw hf1 hf2;have hU0:Below w1.heap.size wr.drew wr.drew:=bR _ _;have hsz':=hsz;clear hMW hbw hf1 hf2 hB hm hkl hb hsz
   cases hfi:(sm.map (·.items)).findIdx? (·==K) with
   | some n =>
    rw [hfi] at hlook;have HFI:=Hd hfi;clear hfi;have hlook:∀ W,Below w1.heap.size wr.drew W->(Instr.lookup 128 (.map (some bm)) (.string ⟨(keyF K).toArray⟩) true).run Tryz.prog W=.ok (.tuple #[.int .i64 n,.bool true]) W:=hlook;go_wp2_with fail
    go_region_with (go_at_call 84;refine (Tryz.Builder_String_any_f _ _ (keyF K) _ hF hFs).mono ?_;rintro e w3 ⟨rfl,hF3,hb3⟩)
    all_goals
     have H3:=Z2.mk hF3 hb3;clear hF3 hb3 hlook hm6 hU0 hF;go_wp2_with fail
     go_ret;have hbb:Below w.heap.size w _:=HW.o2.trans ((show Below w.heap.size wr wr.drew from (bR _ wr).drew).trans (H3.o2.mono H1.o2.size));exact .inl ⟨n,HFI.out,rfl,HM.o1.below hbb,hbb⟩
   | none =>
    rw [hfi] at hlook;have HFI:=Hd hfi;clear hfi;have hlook:∀ W,Below w1.heap.size wr.drew W->(Instr.lookup 128 (.map (some bm)) (.string ⟨(keyF K).toArray⟩) true).run Tryz.prog W=.ok (.tuple #[.int .i64 0,.bool false]) W:=hlook;obtain ⟨va,hva1,hva2⟩:=HM.o1.all;obtain ⟨aa,ac,rfl⟩:=own_shape hva2;have hva1:=(HW.o2.cell (p:=⟨mb,7,none⟩) (wL _ _ hva1)).trans hva1;have hm7:∀ W,Below w1.heap.size wr.drew W->W.cell? ⟨mb,7,none⟩=some (.slice aa sm.length ac):=fun W h=>(h.cell (p:=⟨mb,7,none⟩) hmlt).trans hva1;have hmany:=HM.o1.many;have HV:=Hd hva2;clear hva1 hva2;go_wp2_with fail
    apply via
    ·intro KV
     go_region_with (go_at_call 84;refine (Tryz.Builder_String_any_f _ _ (keyF K) _ hF hFs).mono ?_;rintro e w3 ⟨rfl,hF3,hb3⟩)
     all_goals (try go_simp)
     all_goals revert w3
     all_goals exact KV.out
    ·intro w3 hF3 hb3;have H3:=Z2.mk hF3 hb3;have h36:=hm6 _ hb3;have h37:=hm7 _ hb3;clear hF3 hb3 hlook hm6 hm7 hU0 hF
     by_cases hfull:sm.length ≥ 16384
     ·have hf1:(16384:Int)<=sm.length:=by omega
      go_wp2_with fail
      have hbb:Below w.heap.size w _:=HW.o2.trans ((show Below w.heap.size wr wr.drew from (bR _ wr).drew).trans (H3.o2.mono H1.o2.size));exact An rfl (Or.inr (Or.inr (A4 HFI.out hfull rfl (KeepM.of hbb))))
     ·have hf1:¬ (16384:Int)<=sm.length:=by omega
      have h3s:w1.heap.size<=w3.heap.size:=by have:=H3.o2.size;have:wr.drew.heap.size=wr.heap.size:=rfl;omega
      have hF3:Lib.IsBuilderF 160 5 w1.heap.size w1.heap.size (Lib.byteCells (keyF K)) w3.drew:=H3.o1;have hF3s:w1.heap.size<=w3.drew.heap.size:=h3s;have hm6:∀ W,Below w1.heap.size w3.drew W->W.cell? ⟨mb,6,none⟩=some (.map (some bm)):=fun W h=>(h.cell (p:=⟨mb,6,none⟩) hmlt).trans h36
      have hmap3:∀ W,Below w1.heap.size w3.drew W->MapV Tryz.prog 9 W bm sm.length f:=fun W h =>
       (show MapV Tryz.prog 9 w3.drew bm sm.length f from (show MapV Tryz.prog 9 wr.drew bm sm.length f from HW.o3).below H3.o2.drew hblt).below h hblt
      have hupd:∀ W:World,∃ W',MapV Tryz.prog 9 W bm sm.length f->(Instr.mapUpdate 128 (.map (some bm)) (.string ⟨(keyF K).toArray⟩) (.int .i64 sm.length)).run Tryz.prog W=.ok () W' /\
        MapV Tryz.prog 9 W' bm (sm.length+1) (putV f (.string (keyF K)) (.int .i64 sm.length)) /\ W.grownBy W' (some bm):=by
       intro W
       by_cases hW:MapV Tryz.prog 9 W bm sm.length f
       ·obtain ⟨W',h1,h2,h3⟩:=hW.update (string_keyed Tryz.underlying9) Tryz.underlying128 (by unfold maxLen;omega) hkey (val:=.int .i64 sm.length);exact ⟨W',fun _=>⟨h1,h2,h3⟩⟩
       ·exact ⟨W,fun h=>absurd h hW⟩
      obtain ⟨F,hFm⟩:=Classical.skolem.1 hupd;have hrun:∀ W,Below w1.heap.size w3.drew W->(Instr.mapUpdate 128 (.map (some bm)) (.string ⟨(keyF K).toArray⟩) (.int .i64 sm.length)).run Tryz.prog W=.ok () (F W):=fun W h=>(hFm W (hmap3 W h)).1;have HFm:=Z2.mk hFm hmap3;have hU3:Below w1.heap.size w3.drew w3.drew:=bR _ _;clear hFm hupd hmap3;go_wp2_with fail
      apply via
      ·intro KV
       go_region_with (go_at_call 84;refine (Tryz.Builder_String_any_f _ _ (keyF K) _ hF3 hF3s).mono ?_;rintro e w4 ⟨rfl,hF4,hb4⟩)
       all_goals (try go_simp)
       all_goals revert w4
       all_goals exact KV.out
      ·intro w4 hF4 hb4;obtain ⟨_,hm5,hg5⟩:=HFm.o1 w4 (HFm.o2 w4 hb4);have h47:w4.cell? ⟨mb,7,none⟩=some (.slice aa sm.length ac):=(hb4.cell (p:=⟨mb,7,none⟩) hmlt).trans h37;clear hF4 hrun hm6 hU3 hF3 HFm;generalize F w4=w5 at *;have hmne:=HM.o1.ne;have hBs:=HM.o1.size;have hBb:=HM.o1.blt;have hBm:=HM.o1.mlt;have hw1s:=H1.o2.size;have hb14:Below w1.heap.size w1 w4:=HW1.out.trans (((show Below w1.heap.size wr wr.drew from (bR _ wr).drew).trans H3.o2).trans ((show Below w1.heap.size w3 w3.drew from (bR _ w3).drew).trans hb4));have hbw4:Below w.heap.size w w4:=H1.o2.trans (hb14.mono hw1s);have h57:w5.cell? ⟨mb,7,none⟩=some (.slice aa sm.length ac):=hg5.cell h47 (by intro e;injection e with e;exact hmne e)
       have hrow5:w5.ownsRow B 145 7 (.slice aa sm.length ac) sm.length (flatK encSM sm):=(Mx.row_below HV.out hbw4).kept hg5 (by
        cases e:(Value.slice aa sm.length ac).ownBlock with
        | none=>exact .inl rfl
        | some b=>exact .inr (by have:=(own_ty HV.out b e).1;intro e2;injection e2 with e2;omega))
       have k45:KeepM mb bm w4 w5:=KeepM.grown hg5 (fun r hr=>by injection hr with hr;exact .inr (.inl hr.symm));have k5:KeepM mb bm w w5:=(KeepM.of hbw4).trans k45;have h5:∀ b,b<B->b≠bm->w5.heap[b]?=w.heap[b]?:=fun b hb hne=>(hg5.block b (by have:=hbw4.size;omega) (by intro e;injection e with e;exact hne e)).trans (hbw4.block b (by omega));have hv1w:SliceK (TyD w.heap.size 134 w1) encIt 2 w1 (.slice a1 K.length c1) K:=⟨a1,c1,rfl,hc1,hc2,H1.o1⟩;have hv1:SliceK (TyD B 134 w5) encIt 2 w5 (.slice a1 K.length c1) K:=(hv1w.tyLow hBs).ty (((KeepM.of hb14).trans k45).ty (by decide) hBm hBb);have h5s:B<=w5.heap.size:=by have:=k5.size;omega
       have H5:=Z5.mk hm5 hrow5 k5 h5 hv1;have hmfz:=(hg5.block mb (by have:=hbw4.size;omega) (by intro e;injection e with e;exact hmne e)).trans (hbw4.block mb (by omega));have hfz5:∀ i,w5.frozen? ⟨mb,i,none⟩=false:=fun i=>(World.frozen?_of_block (w:=w) (a:=⟨mb,i,none⟩) hmfz).trans (HM.o1.fz i);clear hm5 hg5 h47 hrow5 k45 k5 h5 hv1w hv1 hb14 hbw4 hmfz;obtain ⟨i0,hi,hz0,hz1,hz2⟩:=info_parts infoState;have hnb:∀ r,(Value.slice aa sm.length ac).ownBlock=some r->B<=r:=fun r hr=>(own_ty HV.out r hr).1;go_wp2_with (at_builtin;refine wpList_append_own _ rfl _ _ 129 rfl B 145 i0 (.agg #[.slice none 0 0,.slice none 0 0,.int .u64 0,.int .u64 0,.int .u64 0,.int .u64 0,.slice none 0 0]) 7 104 Tryz.underlying129 hi hz0 hz1 hz2 rfl (by decide) _ sm.length _ rfl (H5.o2.alloc _) ⟨w5.heap.size,0,none⟩ 1 1 (encSM (freshSM (.slice a1 K.length c1) K)) rfl rfl ?c1 ?c2 ?c3 ?c4 ?c5 ?_)
       case c1 =>
        intro j u hj;rw [encFresh] at hj;exact alloc_cells w5 _ _ j u hj
       case c2=>exact encSM_one _ rfl rfl rfl
       case c3=>unfold maxLen;omega
       case c4=>omega
       case c5=>first | omega | (simp;omega)
       intro v' w7 hown7 hg7 _;have hg57:w5.grownBy w7 (Value.slice aa sm.length ac).ownBlock:=grown_trans_opt (grown_alloc (grown_refl w5 _) _) hg7;have hmw5:mb<w5.heap.size:=by have:=H5.o3.size;omega
       have hmne7:some mb≠(Value.slice aa sm.length ac).ownBlock:=by intro e;have:=hnb mb e.symm;omega
       have e7:=hg57.block mb hmw5 hmne7;have h77:w7.cell? ⟨mb,7,none⟩=some (.slice aa sm.length ac):=(wB (w:=w5) (a:=⟨mb,7,none⟩) e7).trans h57;have hfz7:w7.frozen? ⟨mb,7,none⟩=false:=(World.frozen?_of_block (w:=w5) (a:=⟨mb,7,none⟩) e7).trans (hfz5 7);have HP:=Hd (HM.o1.push HM.o3 (by omega) (by omega) HW.o4 HFI.out H5.o3 H5.o4 H5.o5 H5.o1 H5.o2 hg57 hown7)
       have hownN:=hown7;clear hown7 hg7 hg57 e7 h57 hfz5 hnb;obtain ⟨va',na',ca',rfl⟩:∃ a n c,v'=.slice a n c:=by
        obtain ⟨a,c,e⟩:=own_shape hownN;exact ⟨a,_,c,e⟩
       go_wp2_with fail
       go_ret;exact Or.inr (Or.inl (A4 HFI.out (by omega) rfl ⟨_,HP.out.1,HP.out.2⟩))
def ofsL (L:List (It × Sy)):List Nat:=L.filterMap fun q=>if q.2.kind=0 then some q.2.set else none
def ordStep (o:List Int) (q:It × Sy):List Int:=if q.2.kind=1 /\ q.2.sort ∉ o then o++[q.2.sort] else o
def ordL (L:List (It × Sy)):List Int:=L.foldl ordStep []
def grpL (L:List (It × Sy)) (s:Int):List It:=L.filterMap fun q=>if q.2.kind=1 /\ q.2.sort=s then some q.1 else none
def setL (L:List (It × Sy)) (c:Nat):List It:=L.filterMap fun q=>if q.2.kind=0 /\ withinF c q.2.set=true then some q.1 else none
theorem setsOf_ahead (g:Gr) (l:List It):setsOf g l=ofsL (aheadL g l):=by
 unfold setsOf ofsL aheadL;rw [List.filterMap_filterMap];congr 1;funext x
 cases h:aheadF g x with
 | none=>simp
 | some s=>simp
theorem movedSort_ahead (g:Gr) (l:List It) (s:Int):movedSort g l s=grpL (aheadL g l) s:=by
 unfold movedSort grpL aheadL;rw [List.filterMap_filterMap]
 induction l with
 | nil=>rfl
 | cons x t ih =>
  rw [List.filter_cons,List.filterMap_cons]
  cases h:aheadF g x with
  | none=>simp [ih]
  | some y =>
   by_cases hk:y.kind=1 /\ y.sort=s
   ·simp [hk.1,hk.2,ih]
   ·have:(y.kind==1&&y.sort==s)=false:=by
     rw [Bool.and_eq_false_iff]
     rcases Classical.not_and_iff_not_or_not.1 hk with h1 | h1
     ·exact .inl (by simpa using h1)
     ·exact .inr (by simpa using h1)
    simp [this,hk,ih]
theorem movedSet_ahead (g:Gr) (l:List It) (c:Nat):movedSet g l c=setL (aheadL g l) c:=by
 unfold movedSet setL aheadL;rw [List.filterMap_filterMap]
 induction l with
 | nil=>rfl
 | cons x t ih =>
  rw [List.filter_cons,List.filterMap_cons]
  cases h:aheadF g x with
  | none=>simp [ih]
  | some y =>
   by_cases hk:y.kind=0 /\ withinF c y.set=true
   ·simp [hk.1,hk.2,ih]
   ·have:(y.kind==0&&withinF c y.set)=false:=by
     rw [Bool.and_eq_false_iff]
     rcases Classical.not_and_iff_not_or_not.1 hk with h1 | h1
     ·exact .inl (by simpa using h1)
     ·exact .inr (by simpa using h1)
    simp [this,hk,ih]
theorem ord_ahead (g:Gr):∀ (l:List It) (o:List Int),l.foldl (sortStep g) o=(aheadL g l).foldl ordStep o
 | [],_=>rfl
 | x::t,o=>by
  rw [List.foldl_cons,ord_ahead g t];unfold aheadL;rw [List.filterMap_cons];unfold sortStep
  cases h:aheadF g x with
  | none=>rfl
  | some s=>rfl
theorem sortsOf_ahead (g:Gr) (l:List It):sortsOf g l=(ordL (aheadL g l)).foldr insInt []:=by
 unfold sortsOf ordL;rw [ord_ahead]
theorem ofsL_snoc (L:List (It × Sy)) (q:It × Sy):ofsL (L++[q])=if q.2.kind=0 then ofsL L++[q.2.set] else ofsL L:=by
 unfold ofsL;rw [List.filterMap_append]
 by_cases h:q.2.kind=0 <;> simp [h]
theorem ordL_snoc (L:List (It × Sy)) (q:It × Sy):ordL (L++[q])=ordStep (ordL L) q:=by simp [ordL]
theorem grpL_snoc (L:List (It × Sy)) (q:It × Sy) (s:Int):grpL (L++[q]) s=if q.2.kind=1 /\ q.2.sort=s then grpL L s++[q.1] else grpL L s:=by
 unfold grpL;rw [List.filterMap_append]
 by_cases h:q.2.kind=1 /\ q.2.sort=s <;> simp [h]
theorem setL_snoc (L:List (It × Sy)) (q:It × Sy) (c:Nat):setL (L++[q]) c=if q.2.kind=0 /\ withinF c q.2.set=true then setL L c++[q.1] else setL L c:=by
 unfold setL;rw [List.filterMap_append]
 by_cases h:q.2.kind=0 /\ withinF c q.2.set=true <;> simp [h]
theorem ofsL_len (L:List (It × Sy)):(ofsL L).length<=L.length:=List.length_filterMap_le _ _
theorem grpL_len (L:List (It × Sy)) (s:Int):(grpL L s).length<=L.length:=List.length_filterMap_le _ _
theorem setL_len (L:List (It × Sy)) (c:Nat):(setL L c).length<=L.length:=List.length_filterMap_le _ _
theorem aheadL_len (g:Gr) (l:List It):(aheadL g l).length<=l.length:=List.length_filterMap_le _ _
theorem ordL_len:∀ (L:List (It × Sy)) (o:List Int),(L.foldl ordStep o).length<=o.length+L.length
 | [],_=>by simp
 | q::t,o=>by
  rw [List.foldl_cons];have h:=ordL_len t (ordStep o q);have h2:(ordStep o q).length<=o.length+1:=by unfold ordStep;split <;> simp
  simp;omega
theorem mem_aheadL {g:Gr} {l:List It} {q:It × Sy} (h:q∈aheadL g l):∃ x∈l,aheadF g x=some q.2 /\ q.1=(x.1,x.2+1):=by
 unfold aheadL at h;obtain ⟨x,hx,hq⟩:=List.mem_filterMap.1 h
 cases ha:aheadF g x with
 | none=>rw [ha] at hq;simp at hq
 | some s =>
  rw [ha] at hq;simp at hq;subst hq;exact ⟨x,hx,ha,rfl⟩
theorem aheadL_ok {g:Gr} {l:List It} {q:It × Sy} (h:q∈aheadL g l):itemOk g q.1=true:=by
 obtain ⟨x,hx,ha,e⟩:=mem_aheadL h;rw [e];unfold aheadF at ha;rw [itemOk_iff];have h1:=(gS.1 ha).1;refine ⟨?_,by simp;omega⟩;unfold rightOf at h1
 cases hp:g.prods[x.1]? with
 | none=>rw [hp] at h1;simp at h1
 | some p=>exact (gS.1 hp).1
theorem numbersF_snoc:∀ (L:List (Sy × List It)) (all:List (List It)) (x:Sy × List It),numbersF all (L++[x]) =
  (numbersF all L).bind fun r=>(numberF r.2 x.2).map fun q=>(r.1++[(x.1,q.1)],q.2)
 | [],all,(s,l)=>by
  simp only [List.nil_append,numbersF]
  cases h:numberF all l with
  | none=>simp [h]
  | some r=>obtain ⟨n,a⟩:=r;simp [h]
 | (s,l)::t,all,x=>by
  rw [List.cons_append,numbersF]
  cases h:numberF all l with
  | none=>simp [numbersF,h]
  | some r =>
   obtain ⟨n,a⟩:=r;simp only;rw [numbersF_snoc t a x]
   cases h2:numbersF a t with
   | none=>simp [numbersF,h,h2]
   | some r2 =>
    obtain ⟨e,b⟩:=r2;simp only [numbersF,h,h2,Option.bind_some]
    cases numberF b x.2 <;> simp
end Go.Proofs.YthiochcpmfkgcaaGreatDoor.Tb
namespace Go.Proofs.YthiochcpmfkgcaaGreatDoor.Tb
open Go Go.RowKit Go.Proofs Go.Maps Mx Go.Shelf
def encI (s:Int):List Value:=[.int .i64 s]
theorem encI_len (s:Int):(encI s).length=1:=rfl
structure LeadG (b c:Nat) (w0:World) (cnt:Nat) (o od:List Int) (S:List Nat) (G:Int->List It) (W:World):Prop where
 box:Blk W (b+1) 167 #[.map (some b)]
 ord:∃ v,Blk W (b+1+1) 57 #[v] /\ W.ownsRow c 3 1 v o.length (flatK encI o)
 of:∃ v,Blk W (b+1+1+1) 151 #[v] /\ W.ownsRow c 33 4 v S.length (flatK encSet S)
 grp:∃ (f:Lit->Option Value) (gv:Int->Value),MapV Tryz.prog 3 W b cnt f /\ (∀ s,s∈od->f (.int .i64 s)=some (gv s) /\ W.ownsRow c 134 2 (gv s) (G s).length (flatK encIt (G s))) /\
  (∀ s,s ∉ od->f (.int .i64 s)=none) /\ ∀ s t,s∈od->t∈od->s≠t->∀ x,(gv s).ownBlock=some x->(gv t).ownBlock≠some x
 below:Below b w0 W
 size:c<=W.heap.size
abbrev LeadI (b c:Nat) (w0:World) (L:List (It × Sy)) (W:World):Prop:=LeadG b c w0 L.length (ordL L) (ordL L) (ofsL L) (grpL L) W
theorem mem_ordL (L:List (It × Sy)):∀ s,s∈ordL L↔grpL L s≠[]:=by
 intro s;have key:∀ (L:List (It × Sy)) (o:List Int),s∈L.foldl ordStep o↔s∈o∨grpL L s≠[]:=by
  intro L
  induction L with
  | nil=>intro o;simp [grpL]
  | cons q t ih =>
   intro o;rw [List.foldl_cons,ih];have hg:grpL (q::t) s=(if q.2.kind=1 /\ q.2.sort=s then [q.1] else [])++grpL t s:=by
    unfold grpL;rw [List.filterMap_cons]
    by_cases h:q.2.kind=1 /\ q.2.sort=s <;> simp [h]
   rw [hg];unfold ordStep
   by_cases h1:q.2.kind=1
   ·by_cases h2:q.2.sort=s
    ·subst h2
     by_cases h3:q.2.sort∈o <;> simp [h1,h3]
    ·by_cases h3:q.2.sort∈o <;> simp [h1,h2,h3,Ne.symm h2]
   ·simp [h1]
 have:=key L []
 simpa [ordL] using this
theorem blk_ne_row {W:World} {g B n z:Nat} {t e:TypeId} {cs:Array Value} {v:Value} {xs:List Value} (h:Blk W g t cs) (ho:W.ownsRow B e z v n xs) (ht:t≠e):some g≠v.ownBlock:=by
 intro e1;obtain ⟨_,c',fz,e2⟩:=own_ty ho g e1.symm;unfold Blk at h;rw [h] at e2;injection e2 with e2;injection e2 with _ e2 _;exact ht e2
theorem row_ne_row {W:World} {B B' n n' z z':Nat} {t e:TypeId} {v v':Value} {xs xs':List Value} (h:W.ownsRow B t z v n xs) (ho:W.ownsRow B' e z' v' n' xs') (ht:t≠e):v.ownBlock=none∨v.ownBlock≠v'.ownBlock:=by
 cases hv:v.ownBlock with
 | none=>exact .inl rfl
 | some x =>
  refine .inr (fun e1=>?_);obtain ⟨_,c1,f1,e2⟩:=own_ty h x hv;obtain ⟨_,c2,f2,e3⟩:=own_ty ho x e1.symm;rw [e2] at e3;injection e3 with e3;injection e3 with _ e3 _;exact ht e3
theorem row_ne_low {W:World} {B n z q:Nat} {t:TypeId} {v:Value} {xs:List Value} (h:W.ownsRow B t z v n xs) (hq:q<B):v.ownBlock=none∨v.ownBlock≠some q:=by
 cases hv:v.ownBlock with
 | none=>exact .inl rfl
 | some x=>exact .inr (by have:=(h.lt x hv).1;intro e;injection e with e;omega)
theorem leadG_own (b c n0:Nat) (w0:World) {β:Type} (cnt:β->Nat) (o od:β->List Int) (S:β->List Nat) (G:β->Int->List It) (hn:b+4<=n0):OwnFrom n0 (fun k W=>LeadG b c w0 (cnt k) (o k) (od k) (S k) (G k) W):=by
 rintro k W W' row h hg hr;have hcells:∀ {g:Nat} {t:TypeId} {cs:Array Value},Blk W g t cs->some g≠row:=fun {g t cs} hB e=>by
  obtain ⟨_,o,ho,hc⟩:=hr g e.symm;unfold Blk at hB;rw [hB] at ho;injection ho with ho;subst ho
  cases hc
 have hrow:∀ {B:Nat} {e:TypeId} {z:Nat} {v:Value} {n:Nat} {xs:List Value},W.ownsRow B e z v n xs->W'.ownsRow B e z v n xs:=fun {B e z v n xs} ho=>by
  refine ho.kept hg ?_
  cases hv:v.ownBlock with
  | none=>exact .inl rfl
  | some x =>
   refine .inr (fun e2=>?_);obtain ⟨_,c',fz,e3⟩:=own_ty ho x hv;obtain ⟨_,o,h1,h2⟩:=hr x e2.symm;rw [e3] at h1;injection h1 with h1;subst h1
   cases h2
 obtain ⟨vo,o1,o2⟩:=h.ord;obtain ⟨vs,s1,s2⟩:=h.of;obtain ⟨f,gv,g1,g2,g3,g4⟩:=h.grp;refine ⟨h.box.grown hg (hcells h.box),⟨vo,o1.grown hg (hcells o1),hrow o2⟩,⟨vs,s1.grown hg (hcells s1),hrow s2⟩,
  ⟨f,gv,g1.grown hg (fun e=>by have:=(hr b e.symm).1;omega),fun s hs=>⟨(g2 s hs).1,hrow (g2 s hs).2⟩,g3,g4⟩,?_,Nat.le_trans h.size hg.size⟩
 exact h.below.trans ⟨hg.os,hg.tape,hg.output,hg.size,fun q hq=>hg.block q (by have:=h.box.lt;omega) (fun e=>by have:=(hr q e.symm).1;omega)⟩
section
variable {b c cnt:Nat} {w0 W W' w3 w4:World} {o od:List Int} {S:List Nat} {G:Int → List It}
theorem LeadG.up (h:LeadG b c w0 cnt o od S G W) (hb:Below W.heap.size W W'):LeadG b c w0 cnt o od S G W':=by
 obtain ⟨vo,o1,o2⟩:=h.ord;obtain ⟨vs,s1,s2⟩:=h.of;obtain ⟨f,gv,g1,g2,g3,g4⟩:=h.grp;exact ⟨h.box.below hb h.box.lt,⟨vo,o1.below hb o1.lt,row_below o2 hb⟩,⟨vs,s1.below hb s1.lt,row_below s2 hb⟩,⟨f,gv,g1.below hb g1.lt,fun s hs=>⟨(g2 s hs).1,row_below (g2 s hs).2 hb⟩,g3,g4⟩,
  h.below.trans (hb.mono (by have:=h.box.lt;omega)),Nat.le_trans h.size hb.size⟩
theorem LeadG.mono (h:LeadG b c w0 cnt o od S G W) {m:Nat} (hm:cnt<=m):LeadG b c w0 m o od S G W:=by
 obtain ⟨f,gv,g1,g2⟩:=h.grp;exact ⟨h.box,h.ord,h.of,⟨f,gv,g1.mono hm,g2⟩,h.below,h.size⟩
theorem LeadG.pushSet (h:LeadG b c w0 cnt o od S G W) (hc:b+4<=c) {v v':Value} {x:Nat} (hb:Blk W (b+1+1+1) 151 #[v]) (hr:W.ownsRow c 33 4 v S.length (flatK encSet S))
  (hg:W.grownBy w3 v.ownBlock) (hr':w3.ownsRow c 33 4 v' (S.length+1) (flatK encSet S++encSet x)):LeadG b c w0 cnt o od (S++[x]) G (w3.setCell ⟨b+1+1+1,0,none⟩ v'):=by
 obtain ⟨vo,o1,o2⟩:=h.ord;obtain ⟨f,gv,g1,g2,g3,g4⟩:=h.grp;have kr:∀ {t:TypeId} {z n:Nat} {u:Value} {xs:List Value},w3.ownsRow c t z u n xs->(w3.setCell ⟨b+1+1+1,0,none⟩ v').ownsRow c t z u n xs:=fun hu=>hu.kept (grown_set (grown_refl w3 (some (b+1+1+1))) (p:=⟨b+1+1+1,0,none⟩) rfl v') (row_ne_low hu (by omega))
 refine ⟨(h.box.grown hg (blk_ne_row h.box hr (by decide))).far (by simp;try omega) _,⟨vo,(o1.grown hg (blk_ne_row o1 hr (by decide))).far (by simp;try omega) _,kr (o2.kept hg (row_ne_row o2 hr (by decide)))⟩,
  ⟨v',(hb.grown hg (blk_ne_row hb hr (by decide))).set_ 0 v',?_⟩,⟨f,gv,(g1.grown hg ?_).setCell (by simp;try omega) _,fun s hs=>⟨(g2 s hs).1,kr ((g2 s hs).2.kept hg (row_ne_row (g2 s hs).2 hr (by decide)))⟩,g3,g4⟩,?_,?_⟩
 ·have:=kr hr';rw [flatK_snoc] at this
  simpa using this
 ·intro e;have:=(hr.lt b e.symm).1;omega
 ·refine (h.below.trans ⟨hg.os,hg.tape,hg.output,hg.size,fun q hq=>hg.block q (by have:=h.box.lt;omega) (fun e=>by have:=(hr.lt q e.symm).1;omega)⟩).setCell (p:=⟨b+1+1+1,0,none⟩) (by simp;try omega) _
 ·have:=h.size;have:=hg.size;simpa using (by omega:c<=w3.heap.size)
theorem LeadG.pushOrd (h:LeadG b c w0 cnt o od S G W) (hc:b+4<=c) {v v':Value} {x:Int} (hb:Blk W (b+1+1) 57 #[v]) (hr:W.ownsRow c 3 1 v o.length (flatK encI o))
  (hg:W.grownBy w3 v.ownBlock) (hr':w3.ownsRow c 3 1 v' (o.length+1) (flatK encI o++encI x)):LeadG b c w0 cnt (o++[x]) od S G (w3.setCell ⟨b+1+1,0,none⟩ v'):=by
 obtain ⟨vs,s1,s2⟩:=h.of;obtain ⟨f,gv,g1,g2,g3,g4⟩:=h.grp;have kr:∀ {t:TypeId} {z n:Nat} {u:Value} {xs:List Value},w3.ownsRow c t z u n xs->(w3.setCell ⟨b+1+1,0,none⟩ v').ownsRow c t z u n xs:=fun hu=>hu.kept (grown_set (grown_refl w3 (some (b+1+1))) (p:=⟨b+1+1,0,none⟩) rfl v') (row_ne_low hu (by omega))
 refine ⟨(h.box.grown hg (blk_ne_row h.box hr (by decide))).far (by simp;try omega) _,⟨v',(hb.grown hg (blk_ne_row hb hr (by decide))).set_ 0 v',?_⟩,
  ⟨vs,(s1.grown hg (blk_ne_row s1 hr (by decide))).far (by simp;try omega) _,kr (s2.kept hg (row_ne_row s2 hr (by decide)))⟩,⟨f,gv,(g1.grown hg ?_).setCell (by simp;try omega) _,fun s hs=>⟨(g2 s hs).1,kr ((g2 s hs).2.kept hg (row_ne_row (g2 s hs).2 hr (by decide)))⟩,g3,g4⟩,?_,?_⟩
 ·have:=kr hr';rw [flatK_snoc] at this
  simpa using this
 ·intro e;have:=(hr.lt b e.symm).1;omega
 ·refine (h.below.trans ⟨hg.os,hg.tape,hg.output,hg.size,fun q hq=>hg.block q (by have:=h.box.lt;omega) (fun e=>by have:=(hr.lt q e.symm).1;omega)⟩).setCell (p:=⟨b+1+1,0,none⟩) (by simp;try omega) _
 ·have:=h.size;have:=hg.size;simpa using (by omega:c<=w3.heap.size)
theorem LeadG.pushGrp (h:LeadG b c w0 cnt o od S G W) (hc:b+4<=c) {f:Lit->Option Value} {gv:Int->Value} (g2:∀ s,s∈od->f (.int .i64 s)=some (gv s) /\ W.ownsRow c 134 2 (gv s) (G s).length (flatK encIt (G s)))
  (g3:∀ s,s ∉ od->f (.int .i64 s)=none) (g4:∀ s t,s∈od->t∈od->s≠t->∀ x,(gv s).ownBlock=some x->(gv t).ownBlock≠some x)
  {v v':Value} {s:Int} {x:It} {G0:List It} (hv:(s∈od /\ v=gv s /\ G0=G s)∨(s ∉ od /\ v=.slice none 0 0 /\ G0=[])) (hg:W.grownBy w3 v.ownBlock)
  (hr:W.ownsRow c 134 2 v G0.length (flatK encIt G0)) (hr':w3.ownsRow c 134 2 v' (G0.length+1) (flatK encIt G0++encIt x)) (hfr:∀ y,v'.ownBlock=some y->v.ownBlock=some y∨W.heap.size<=y)
  (hm:MapV Tryz.prog 3 w4 b (cnt+1) (putV f (.int .i64 s) v')) (hg4:w3.grownBy w4 (some b)) :
  LeadG b c w0 (cnt+1) o (if s∈od then od else od++[s]) S (fun t=>if t=s then G0++[x] else G t) w4:=by
 obtain ⟨vo,o1,o2⟩:=h.ord;obtain ⟨vs,s1,s2⟩:=h.of;have kr:∀ {t:TypeId} {z n:Nat} {u:Value} {xs:List Value},w3.ownsRow c t z u n xs->w4.ownsRow c t z u n xs:=fun hu=>hu.kept hg4 (row_ne_low hu (by omega))
 have hod:∀ t,t∈(if s∈od then od else od++[s])↔t∈od∨t=s:=fun t=>by
  by_cases hs:s∈od
  ·rw [if_pos hs];exact ⟨.inl,fun h=>h.elim id (fun e=>e ▸ hs)⟩
  ·rw [if_neg hs];simp
 refine ⟨(h.box.grown hg (blk_ne_row h.box hr (by decide))).grown hg4 (by simp),⟨vo,(o1.grown hg (blk_ne_row o1 hr (by decide))).grown hg4 (by simp;try omega),kr (o2.kept hg (row_ne_row o2 hr (by decide)))⟩,
  ⟨vs,(s1.grown hg (blk_ne_row s1 hr (by decide))).grown hg4 (by simp;try omega),kr (s2.kept hg (row_ne_row s2 hr (by decide)))⟩,⟨_,fun t=>if t=s then v' else gv t,hm,fun t ht=>?_,fun t ht=>?_,fun t u ht hu hne y hy=>?_⟩,?_,?_⟩
 ·rw [putV_int]
  by_cases e:t=s
  ·subst e;simp only [if_true];refine ⟨trivial,?_⟩;have:=kr hr';rw [flatK_snoc] at this
   simpa using this
  ·have ht':t∈od:=((hod t).1 ht).resolve_right e;simp only [e,if_false];refine ⟨(g2 t ht').1,?_⟩;refine kr ((g2 t ht').2.kept hg ?_)
   rcases hv with ⟨hs,rfl,_⟩ | ⟨_,rfl,_⟩
   ·cases hy:(gv t).ownBlock with
    | none=>exact .inl rfl
    | some y=>exact .inr (fun e2=>g4 t s ht' hs e y hy e2.symm)
   ·cases hy:(gv t).ownBlock with
    | none=>exact .inl rfl
    | some y=>exact .inr (by simp [Value.ownBlock])
 ·rw [putV_int];have h1:¬ (t∈od∨t=s):=fun h=>ht ((hod t).2 h);rw [if_neg (fun e=>h1 (.inr e))];exact g3 t (fun e=>h1 (.inl e))
 ·by_cases e:t=s
  ·subst e;have hy:v'.ownBlock=some y:=by simpa using hy
   have hne':¬ u=t:=fun e=>hne e.symm;simp only [hne',if_false];have hu':u∈od:=((hod u).1 hu).resolve_right (Ne.symm hne);intro e2;have hul:=((g2 u hu').2.lt y e2).2
   rcases hfr y hy with h1 | h1
   ·rcases hv with ⟨hs,rfl,_⟩ | ⟨_,rfl,_⟩
    ·exact g4 t u hs hu' hne y h1 e2
    ·cases h1
   ·omega
  ·have hy2:(gv t).ownBlock=some y:=by simpa [e] using hy
   clear hy;have ht':t∈od:=((hod t).1 ht).resolve_right e
   by_cases e2:u=s
   ·subst e2;intro e3;have e3:v'.ownBlock=some y:=by simpa using e3
    have htl:=((g2 t ht').2.lt y hy2).2
    rcases hfr y e3 with h1 | h1
    ·rcases hv with ⟨hs,rfl,_⟩ | ⟨_,rfl,_⟩
     ·exact g4 t u ht' hs e y hy2 h1
     ·cases h1
    ·omega
   ·simp only [e2,if_false];exact g4 t u ht' (((hod u).1 hu).resolve_right e2) hne y hy2
 ·refine (h.below.trans ⟨hg.os,hg.tape,hg.output,hg.size,fun q hq=>hg.block q (by have:=h.box.lt;omega) (fun e=>by have:=(hr.lt q e.symm).1;omega)⟩).trans (below_of_grown hg4 (by have:=h.box.lt;have:=hg.size;omega) (nR _))
 ·have:=h.size;have:=hg.size;have:=hg4.size;omega
end
def dropSeq:Nat->Code->Code
 | 0,c=>c
 | k+1,.seq _ c=>dropSeq k c
 | _+1,c=>c
def Bare (s:SM):Prop:=s.edges=[] /\ s.next=0 /\ s.done=[] /\ s.ve=.slice none 0 0 /\ s.vd=.slice none 0 0
def Led (g:Gr) (B mb bm:Nat) (sm:List SM) (n:Nat) (s:SM) (w:World) (e:Ending) (w':World):Prop :=
 (∃ es all' sm' s',numbersF (sm.map (·.items)) (leadsF g s.items)=some (es,all') /\ e=.returned (.tuple #[]) /\ MkW g B mb bm sm' w' /\ KeepM mb bm w w' /\ sm'.map (·.items)=all' /\
  sm'[n]?=some s' /\ s'.edges=es /\ s'.done=doneF g s.items /\ s'.next=nextF es /\ (∀ k,k≠n->k<sm.length->sm'[k]?=sm[k]?) /\ ∀ k x,sm.length<=k->sm'[k]?=some x->Bare x) ∨
 (numbersF (sm.map (·.items)) (leadsF g s.items)=none /\ e=.panicked fullP /\ KeepM mb bm w w')
structure LeadE (g:Gr) (B mb bm:Nat) (sm:List SM) (w2:World) (c2:Nat) (todo:List (Sy × List It)) (sm':List SM) (es:List (Sy × Nat)) (ve:Value) (wr:World):Prop where
 num:numbersF (sm.map (·.items)) todo=some (es,sm'.map (·.items))
 mkw:MkW g B mb bm sm' wr
 keep:KeepM mb bm w2 wr
 row:wr.ownsRow c2 173 7 ve es.length (flatK encEd es)
 old:∀ k,k<sm.length->sm'[k]?=sm[k]?
 new:∀ k x,sm.length<=k->sm'[k]?=some x->Bare x
 size:c2<=wr.heap.size
 len:es.length=todo.length
 more:sm.length<=sm'.length
theorem KeepM.grownNew {mb bm:Nat} {a w w':World} {row:Option Nat} (h:KeepM mb bm a w) (hg:w.grownBy w' row) (hr:∀ r,row=some r->a.heap.size<=r):KeepM mb bm a w' :=
 ⟨hg.os.trans h.os,hg.tape.trans h.tape,hg.output.trans h.output,Nat.le_trans h.size hg.size,fun b hb h1 h2 h3=>(hg.block b (nL hb h.size) (fun e=>by have:=hr b e.symm;omega)).trans (h.block b hb h1 h2 h3),fun b h0 hb h1=>(hg.block b (nL hb h.size) (fun e=>by have:=hr b e.symm;omega)).trans (h.low b h0 hb h1)⟩
theorem row_keepM {mb bm:Nat} {w w':World} (h:KeepM mb bm w w') {B:Nat} {e:TypeId} {z n:Nat} {v:Value} {xs:List Value} (ho:w.ownsRow B e z v n xs) (he:e≠145) (hm:mb<B) (hb:bm<B):w'.ownsRow B e z v n xs:=by
 refine ⟨ho.1,?_⟩
 rcases ho.2 with h0 | ⟨g,cap,cur,hv,hg,hh,r⟩
 ·exact .inl h0
 ·exact .inr ⟨g,cap,cur,hv,hg,by rw [h.block g (Array.getElem?_eq_some_iff.1 hh).1 (by omega) (by omega) (fun c fz e2=>by rw [hh] at e2;injection e2 with e2;injection e2 with _ e2 _;exact he e2)];exact hh,r⟩
theorem blk_keepM {mb bm:Nat} {w w':World} (h:KeepM mb bm w w') {q:Nat} {t:TypeId} {cs:Array Value} (hb:Blk w q t cs) (ht:t≠145) (h1:q≠mb) (h2:q≠bm):Blk w' q t cs:=by
 unfold Blk at *;rw [h.block q (Array.getElem?_eq_some_iff.1 hb).1 h1 h2 (fun c fz e2=>by rw [hb] at e2;injection e2 with e2;injection e2 with _ e2 _;exact ht e2)];exact hb
theorem map_keepM {mb bm:Nat} {w w':World} (h:KeepM mb bm w w') {P:Program} {k:TypeId} {q n:Nat} {f:Lit->Option Value} (hb:MapV P k w q n f) (h1:q≠mb) (h2:q≠bm):MapV P k w' q n f:=by
 obtain ⟨D,⟨es,clock,hh,r⟩,hf⟩:=hb;exact MapV.of_block ⟨D,⟨es,clock,hh,r⟩,hf⟩ (h.block q (Array.getElem?_eq_some_iff.1 hh).1 h1 h2 (fun c fz e2=>by rw [hh] at e2;injection e2 with e2;cases e2))
theorem mark_keepM {mb bm:Nat} {w w':World} (h:KeepM mb bm w w') {q:Nat} {o:Option (List Deferred)} (hb:w.heap[q]?=some (.deferred o)) (h1:q≠mb) (h2:q≠bm):w'.heap[q]?=some (.deferred o):=by
 rw [h.block q (Array.getElem?_eq_some_iff.1 hb).1 h1 h2 (fun c fz e2=>by rw [hb] at e2;injection e2 with e2;cases e2)];exact hb
section
variable {g:Gr} {B mb bm:Nat} {sm sm':List SM} {w2 wr w' w3:World} {c2:Nat} {todo:List (Sy × List It)} {es:List (Sy × Nat)} {ve ve':Value}
theorem LeadE.step (h:LeadE g B mb bm sm w2 c2 todo sm' es ve wr) (hc2:w2.heap.size<=c2) {sm3:List SM} {sy:Sy} {K:List It} {n:Nat} (hn:numberF (sm'.map (·.items)) K=some (n,sm3.map (·.items)))
  (hm:MkW g B mb bm sm3 w3) (hk:KeepM mb bm w2 w3) (hold:∀ k,k<sm.length->sm3[k]?=sm[k]?) (hnew:∀ k x,sm.length<=k->sm3[k]?=some x->Bare x) (hmo:sm.length<=sm3.length)
  (hr:w3.ownsRow c2 173 7 ve es.length (flatK encEd es)) (hg:w3.grownBy w' ve.ownBlock) (hr':w'.ownsRow c2 173 7 ve' (es.length+1) (flatK encEd es++encEd (sy,n)))
  (hmk:MkW g B mb bm sm3 w') (hsz:c2<=w'.heap.size):LeadE g B mb bm sm w2 c2 (todo++[(sy,K)]) sm3 (es++[(sy,n)]) ve' w':=by
 refine ⟨?_,hmk,hk.grownNew hg (fun r e=>Nat.le_trans hc2 (hr.lt r e).1),?_,hold,hnew,hsz,by simp [h.len],hmo⟩
 ·rw [numbersF_snoc,h.num];simp [hn]
 ·rw [flatK_snoc] at hr'
  simpa using hr'
theorem MkW.edgeGrown (h:MkW g B mb bm sm' wr) (h2:∀ s∈sm,SMok g B w2 s) (hold:∀ k,k<sm.length->sm'[k]?=sm[k]?) (hnew:∀ k x,sm.length<=k->sm'[k]?=some x->Bare x) (hk:KeepM mb bm w2 w')
  {n:Nat} {xs:List Value} (hr:wr.ownsRow c2 173 7 ve n xs) (hB:B<=c2) (hg:wr.grownBy w' ve.ownBlock):MkW g B mb bm sm' w':=by
 have hne:∀ b,b<B->some b≠ve.ownBlock:=fun b hb e=>by have:=(hr.lt b e.symm).1;omega
 have hlt:∀ b,b<B->b<wr.heap.size:=fun b hb=>nL hb h.size;have eb:∀ b,b<B->w'.heap[b]?=wr.heap[b]?:=fun b hb=>hg.block b (hlt b hb) (hne b hb);have ec:∀ i,w'.cell? ⟨mb,i,none⟩=wr.cell? ⟨mb,i,none⟩:=fun i=>wB (eb mb h.mlt)
 have ty:∀ {t:TypeId},t≠173->∀ q c fz,wr.heap[q]?=some (.cells c t fz)->B<=q->w'.heap[q]?=wr.heap[q]?:=fun {t} ht q c fz e _=>by
  refine hg.block q (Array.getElem?_eq_some_iff.1 e).1 (fun e2=>?_);obtain ⟨_,c',fz',e3⟩:=own_ty hr q e2.symm;rw [e] at e3;injection e3 with e3;injection e3 with _ e3 _;exact ht e3
 obtain ⟨va,a1,a2⟩:=h.all;obtain ⟨f,f1,f2⟩:=h.map;refine ⟨h.mlt,h.blt,h.ne,Nat.le_trans h.size hg.size,h.gr.keep (fun b hb hl=>⟨hb,eb b hb.1⟩) hg.size (ec 1) (ec 5),(ec 6).trans h.met,fun i=>(World.frozen?_of_block (eb mb h.mlt)).trans (h.fz i),
  ⟨va,(ec 7).trans a1,a2.kept hg (row_ne_row a2 hr (by decide))⟩,fun s hs=>?_,⟨f,f1.grown hg (hne bm h.blt),f2⟩,h.many⟩
 obtain ⟨k,hkl,hks⟩:=List.getElem_of_mem hs;have hg1:sm'[k]?=some s:=by rw [gE hkl,hks]
 by_cases hk1:k<sm.length
 ·have hg2:sm[k]?=some s:=by rw [<- hold k hk1];exact hg1
  exact (h2 s (gM hg2)).keep hk h.mlt h.blt
 ·have hb:=hnew k s (by omega) hg1;have hso:=h.each s hs;obtain ⟨b1,b2,b3,b4,b5⟩:=hb;exact ⟨hso.items.ty (ty (by decide)),by rw [b1,b4];exact SliceK.nil,hso.done.ty (ty (by decide)),hso.ok,hso.len⟩
end
end Go.Proofs.YthiochcpmfkgcaaGreatDoor.Tb
namespace Go.Proofs.YthiochcpmfkgcaaGreatDoor.Tb
open Go Go.RowKit Go.Proofs Go.Maps Mx
structure NumOk (g:Gr) (B mb bm:Nat) (sm sm':List SM) (w2 wr w3:World) (K:List It) (q:Nat) (sm3:List SM):Prop where
 num:numberF (sm'.map (·.items)) K=some (q,sm3.map (·.items))
 mkw:MkW g B mb bm sm3 w3
 keep:KeepM mb bm w2 w3
 keepr:KeepM mb bm wr w3
 old:∀ k,k<sm.length->sm3[k]?=sm[k]?
 new:∀ k x,sm.length<=k->sm3[k]?=some x->Bare x
 more:sm.length<=sm3.length
theorem bare_fresh (v:Value) (l:List It):Bare (freshSM v l):=⟨rfl,rfl,rfl,rfl,rfl⟩
theorem number_lead {g:Gr} (hg:Good g) {B mb bm:Nat} {sm sm':List SM} {w2 wr:World} {c2:Nat} {todo:List (Sy × List It)} {es:List (Sy × Nat)} {ve:Value} (hE:LeadE g B mb bm sm w2 c2 todo sm' es ve wr) (D2:Nat->Prop) (l:List It) (hl:∀ x∈l,itemOk g x=true) (hln:l.length<=10000) (v:Value) (hv:SliceK D2 encIt 2 wr v l) :
  Calls Tryz.prog 63 #[.pointer (some ⟨mb,0,none⟩),v] wr fun e w3 =>
   (∃ (q:Nat) (sm3:List SM),e=.returned (.int .i64 q) /\ NumOk g B mb bm sm sm' w2 wr w3 (closedF g l) q sm3)∨(e=.panicked fullP /\ numberF (sm'.map (·.items)) (closedF g l)=none /\ KeepM mb bm w2 w3 /\ KeepM mb bm wr w3):=by
 refine (number_any g hg B mb bm sm' D2 l hl hln v wr hE.mkw hv).mono ?_;rintro e w3 (⟨q,hfi,rfl,hmk,hb⟩ | ⟨hfi,h16,rfl,v',hmk,hk⟩ | ⟨hfi,h16,rfl,hk⟩)
 ·exact .inl ⟨q,sm',rfl,by unfold numberF;rw [hfi],hmk,hE.keep.trans (KeepM.of hb),KeepM.of hb,hE.old,hE.new,hE.more⟩
 ·refine .inl ⟨sm'.length,sm'++[freshSM v' (closedF g l)],rfl,?_,hmk,hE.keep.trans hk,hk,fun k hk2=>?_,fun k x hk2 hx=>?_,by have:=hE.more;simp;omega⟩
  ·unfold numberF;rw [hfi];simp only [List.length_map];rw [if_neg (by omega)];simp [freshSM]
  ·rw [List.getElem?_append_left (by have:=hE.more;omega)];exact hE.old k hk2
  ·by_cases h1:k<sm'.length
   ·rw [List.getElem?_append_left h1] at hx;exact hE.new k x hk2 hx
   ·rw [List.getElem?_append_right (by omega)] at hx
    have:k - sm'.length=0:=by
     rcases Nat.eq_zero_or_pos (k - sm'.length) with h | h
     ·exact h
     ·rw [List.getElem?_eq_none (by simp;omega)] at hx;cases hx
    rw [this] at hx;simp at hx;rw [<- hx];exact bare_fresh _ _
 ·refine .inr ⟨rfl,?_,hE.keep.trans hk,hk⟩;unfold numberF;rw [hfi];simp only [List.length_map];rw [if_pos h16]
theorem numbersF_none_append:∀ (L M:List (Sy × List It)) (all:List (List It)),numbersF all L=none->numbersF all (L++M)=none
 | [],_,_,h=>by cases h
 | (s,l)::t,M,all,h=>by
  rw [List.cons_append,numbersF];rw [numbersF] at h
  cases hn:numberF all l with
  | none=>rfl
  | some r =>
   obtain ⟨n,a⟩:=r;rw [hn] at h;simp only at h ⊢
   cases h2:numbersF a t with
   | none=>rw [numbersF_none_append t M a h2]
   | some r2=>rw [h2] at h;cases h
theorem LeadE.full {g:Gr} {B mb bm:Nat} {sm sm':List SM} {w2 wr:World} {c2:Nat} {todo:List (Sy × List It)} {es:List (Sy × Nat)} {ve:Value} (hE:LeadE g B mb bm sm w2 c2 todo sm' es ve wr) {sy:Sy} {K:List It} (hn:numberF (sm'.map (·.items)) K=none) :
  numbersF (sm.map (·.items)) (todo++[(sy,K)])=none:=by
 rw [numbersF_snoc,hE.num];simp [hn]
theorem KeepM.shut {mb bm:Nat} {w w3 w':World} {ds:List Nat} (h:KeepM mb bm w w3) (hs:ShutD ds w3 w') (hd:∀ d∈ds,w.heap.size<=d):KeepM mb bm w w' :=
 ⟨hs.os.trans h.os,hs.tape.trans h.tape,hs.output.trans h.output,by rw [hs.size];exact h.size,fun b hb h1 h2 h3=>(hs.block b (fun hm=>by have:=hd b hm;omega)).trans (h.block b hb h1 h2 h3),fun b h0 hb h1=>(hs.block b (fun hm=>by have:=hd b hm;omega)).trans (h.low b h0 hb h1)⟩
theorem infoEdge:(Tryz.prog.info? 173).map (fun i=>(i.zero,i.size,i.bytes))=some (some (.agg #[.int .i64 0,.int .u64 0,.int .u64 0,.int .u64 0,.int .u64 0,.int .i64 0,.int .i64 0]),7,56):=by kernel_rfl
def edgeC (k a b c d s n:Int):List Value:=[.int .i64 k,.int .u64 a,.int .u64 b,.int .u64 c,.int .u64 d,.int .i64 s,.int .i64 n]
theorem edge_cells (w:World) (k a b c d s n:Int):∀ j u,(edgeC k a b c d s n)[j]?=some u->(w.alloc (.cells #[.int .i64 k,.int .u64 a,.int .u64 b,.int .u64 c,.int .u64 d,.int .i64 s,.int .i64 n] 173)).cell? ((⟨w.heap.size,0,none⟩:Addr).add j)=some u:=by
 intro j u hj;have hb:Blk (w.alloc (.cells #[.int .i64 k,.int .u64 a,.int .u64 b,.int .u64 c,.int .u64 d,.int .i64 s,.int .i64 n] 173)) w.heap.size 173 #[.int .i64 k,.int .u64 a,.int .u64 b,.int .u64 c,.int .u64 d,.int .i64 s,.int .i64 n]:=Blk.new w _ _;rw [addr_add_,Nat.zero_add,hb.cell j]
 simpa [edgeC] using hj
theorem edgeC_one (k a b c d s n:Int):∀ u∈edgeC k a b c d s n,u.oneCell'=true:=by
 intro u hu;simp [edgeC] at hu
 rcases hu with rfl | rfl | rfl | rfl | rfl | rfl | rfl <;> rfl
theorem edgeC_sort (t:Int) (q:Nat):edgeC 1 0 0 0 0 t q=encEd (⟨1,0,t⟩,q):=by simp [edgeC,encEd,encSy,wd]
theorem edgeC_set (M:Nat) (q:Nat):edgeC 0 (wd M 0) (wd M 1) (wd M 2) (wd M 3) 0 q=encEd (⟨0,M,0⟩,q):=rfl
end Go.Proofs.YthiochcpmfkgcaaGreatDoor.Tb
namespace Go.Proofs.YthiochcpmfkgcaaGreatDoor.Tb
open Go Go.RowKit Go.Proofs Go.Maps Mx
theorem numbersF_syms:∀ (L:List (Sy × List It)) (all a:List (List It)) (e:List (Sy × Nat)),numbersF all L=some (e,a)->e.map (·.1)=L.map (·.1)
 | [],all,a,e,h=>by simp [numbersF] at h;rw [h.1];rfl
 | (s,l)::t,all,a,e,h=>by
  rw [numbersF] at h
  cases hn:numberF all l with
  | none=>rw [hn] at h;cases h
  | some r =>
   obtain ⟨n,b⟩:=r;rw [hn] at h;simp only at h
   cases h2:numbersF b t with
   | none=>rw [h2] at h;cases h
   | some r2 =>
    obtain ⟨e2,a2⟩:=r2;rw [h2] at h;simp only [Option.some.injEq,Prod.mk.injEq] at h;rw [<- h.1];simp [numbersF_syms t b a2 e2 h2]
theorem nextF_sorts (e:List (Sy × Nat)) (h:∀ x∈e,x.1.kind≠0):nextF e=0:=by
 unfold nextF
 suffices H:∀ (l:List (Sy × Nat)) (a:Nat),(∀ x∈l,x.1.kind≠0)->l.foldl (fun a x=>if x.1.kind=0 then a ||| x.1.set else a) a=a from H e 0 h
 intro l
 induction l with
 | nil=>intro a _;rfl
 | cons x t ih =>
  intro a h;rw [List.foldl_cons,if_neg (h x (by simp))];exact ih a (fun y hy=>h y (by simp [hy]))
theorem nextF_snoc (e:List (Sy × Nat)) (c:Nat) (q:Nat):nextF (e++[(⟨0,c,0⟩,q)])=nextF e ||| c:=by
 unfold nextF;rw [List.foldl_append];simp
def clsF (g:Gr) (L:List (It × Sy)) (c:Nat):Option (Sy × List It):=if (setL L c).isEmpty then none else some (⟨0,c,0⟩,closedF g (setL L c))
theorem leads_ahead (g:Gr) (l:List It):leadsF g l=(((ordL (aheadL g l)).foldr insInt []).map fun t=>((⟨1,0,t⟩:Sy),closedF g (grpL (aheadL g l) t)))++(splitF (ofsL (aheadL g l))).filterMap (clsF g (aheadL g l)):=by
 unfold leadsF;rw [sortsOf_ahead,setsOf_ahead];congr 1
 ·simp only [movedSort_ahead]
 ·congr 1;funext c;rw [movedSet_ahead]
  rfl
theorem within_iff {c s:Nat} (hc:c<2 ^ 256) (hs:s<2 ^ 256):(c &&& notM s=0)↔withinF c s=true:=by
 unfold withinF;rw [notM_eq hs,beq_iff_eq]
 constructor
 ·intro h;apply Nat.eq_of_testBit_eq;intro i;have h1:=congrArg (fun n=>Nat.testBit n i) h;simp only [without_bit c s i hs hc,Nat.zero_testBit] at h1;rw [Nat.testBit_and]
  cases hb:c.testBit i <;> cases hd:s.testBit i <;> simp_all
 ·intro h;apply Nat.eq_of_testBit_eq;intro i;have h1:=congrArg (fun n=>Nat.testBit n i) h;rw [without_bit c s i hs hc,Nat.zero_testBit];rw [Nat.testBit_and] at h1
  cases hb:c.testBit i <;> cases hd:s.testBit i <;> simp_all
def nx (s:SM) (M:Nat):SM:={ s with next:=M }
theorem nx_items (s:SM) (M:Nat):(nx s M).items=s.items:=rfl
theorem set_items (sm:List SM) (n:Nat) (s t:SM) (h:sm[n]?=some s) (e:t.items=s.items):(sm.set n t).map (·.items)=sm.map (·.items):=by
 rw [List.map_set,e];apply List.ext_getElem?;intro i;rw [List.getElem?_set]
 by_cases hi:n=i
 ·subst hi;obtain ⟨hl,_⟩:=gS.1 h;rw [if_pos rfl,if_pos (by simpa using hl),List.getElem?_map,h];rfl
 ·rw [if_neg hi]
theorem SMok.nx {g:Gr} {B:Nat} {w:World} {s:SM} (h:SMok g B w s) (M:Nat):SMok g B w (nx s M):=⟨h.items,h.edges,h.done,h.ok,h.len⟩
theorem smok_set {g:Gr} {B:Nat} {w:World} {sm:List SM} {n:Nat} {t:SM} (h:∀ s∈sm,SMok g B w s) (ht:SMok g B w t):∀ s∈sm.set n t,SMok g B w s:=fun s hs=>by
 rcases List.mem_or_eq_of_mem_set hs with h1 | h1
 ·exact h s h1
 ·rw [h1];exact ht
theorem flat_set_at {α:Type} {enc:α->List Value} {k:Nat} (hk:∀ x,(enc x).length=k):∀ (l:List α) (n j:Nat) (x:α) (u:Value),l[n]?=some x->j<k->(flatK enc l).set (n * k+j) u=flatK enc (l.take n)++((enc x).set j u++flatK enc (l.drop (n+1)))
 | [],n,j,x,u,h,_=>by simp at h
 | y::l,0,j,x,u,h,hj=>by
  have:y=x:=by simpa using h
  subst this;rw [flatK_cons,Nat.zero_mul,Nat.zero_add,List.set_append_left _ _ (by rw [hk];exact hj)];simp [flatK]
 | y::l,n+1,j,x,u,h,hj=>by
  rw [flatK_cons,List.set_append_right _ _ (by rw [hk,Nat.succ_mul];omega),hk,show (n+1) * k+j - k=n * k+j by rw [Nat.succ_mul];omega,flat_set_at hk l n j x u (by simpa using h) hj];simp [flatK]
theorem flat_split {α:Type} {enc:α->List Value} (l:List α) (n:Nat) (x:α) (h:l[n]?=some x):flatK enc l=flatK enc (l.take n)++(enc x++flatK enc (l.drop (n+1))):=by
 have hn:=(gS.1 h).1;have e:l=l.take n++x::l.drop (n+1):=by
  have h1:l.drop n=x::l.drop (n+1):=by rw [List.drop_eq_getElem_cons hn];congr 1;exact (gS.1 h).2
  rw [<- h1,List.take_append_drop]
 conv=>lhs;rw [e]
 rw [flatK_append,flatK_cons]
section
variable {g:Gr} {B mb bm:Nat} {sm sm2:List SM} {wr w':World} {va:Value}
theorem MkW.rowTurned (h:MkW g B mb bm sm wr) (hva:wr.cell? ⟨mb,7,none⟩=some va) (hg:wr.grownBy w' va.ownBlock) (hrow:w'.ownsRow B 145 7 va sm2.length (flatK encSM sm2)) (hit:sm2.map (·.items)=sm.map (·.items))
  (heach:∀ s∈sm2,SMok g B w' s):MkW g B mb bm sm2 w':=by
 obtain ⟨va',a1,a2⟩:=h.all;rw [hva] at a1;injection a1 with a1;subst a1;have hne:∀ b,b<B->some b≠va.ownBlock:=fun b hb e=>by have:=(a2.lt b e.symm).1;omega
 have hlt:∀ b,b<B->b<wr.heap.size:=fun b hb=>nL hb h.size;have eb:∀ b,b<B->w'.heap[b]?=wr.heap[b]?:=fun b hb=>hg.block b (hlt b hb) (hne b hb);have ec:∀ i,w'.cell? ⟨mb,i,none⟩=wr.cell? ⟨mb,i,none⟩:=fun i=>wB (eb mb h.mlt);have hlen:sm2.length=sm.length:=by have:=congrArg List.length hit;simpa using this
 obtain ⟨f,f1,f2⟩:=h.map;exact ⟨h.mlt,h.blt,h.ne,Nat.le_trans h.size hg.size,h.gr.keep (fun b hb hl=>⟨hb,eb b hb.1⟩) hg.size (ec 1) (ec 5),(ec 6).trans h.met,fun i=>(World.frozen?_of_block (eb mb h.mlt)).trans (h.fz i),
  ⟨va,(ec 7).trans hva,hrow⟩,heach,⟨f,by rw [hlen];exact f1.grown hg (hne bm h.blt),by rw [hit];exact f2⟩,by rw [hlen];exact h.many⟩
theorem MkW.turnKeeps (h:MkW g B mb bm sm wr) (hva:wr.cell? ⟨mb,7,none⟩=some va) (hg:wr.grownBy w' va.ownBlock):KeepM mb bm wr w':=by
 obtain ⟨va',a1,a2⟩:=h.all;rw [hva] at a1;injection a1 with a1;subst a1;exact KeepM.grown hg (fun r hr=>.inr (.inr ⟨by have:=(own_ty a2 r hr).1;have:=h.mlt;omega,(own_ty a2 r hr).2⟩))
variable {ag ac n:Nat} {s t:SM}
theorem MkW.putOne (h:MkW g B mb bm sm wr) (hva:wr.cell? ⟨mb,7,none⟩=some (.slice (some ⟨ag,0,none⟩) sm.length ac)) (hn:sm[n]?=some s) {j:Nat} (hj:j<7) {u:Value} (henc:encSM t=(encSM s).set j u) (hit:t.items=s.items)
  (ht:SMok g B wr t):MkW g B mb bm (sm.set n t) (wr.setCell ⟨ag,n * 7+j,none⟩ u) /\ KeepM mb bm wr (wr.setCell ⟨ag,n * 7+j,none⟩ u):=by
 have hnl:=(gS.1 hn).1;obtain ⟨va',a1,a2⟩:=h.all;rw [hva] at a1;injection a1 with a1;subst a1;have hg:wr.grownBy (wr.setCell ⟨ag,n * 7+j,none⟩ u) (Value.slice (some ⟨ag,0,none⟩) sm.length ac).ownBlock:=grown_set (grown_refl wr (some ag)) (p:=⟨ag,n * 7+j,none⟩) rfl u;have hk:=h.turnKeeps hva hg;refine ⟨h.rowTurned hva hg ?_ (set_items sm n s t hn hit) (smok_set (fun x hx=>(h.each x hx).keep hk h.mlt h.blt) (ht.keep hk h.mlt h.blt)),hk⟩
 have h1:=own_put a2 (n * 7+j) (by omega) u
 rw [flat_set_at encSM_len sm n j s u hn hj,<- henc] at h1;have e:flatK encSM (sm.set n t)=flatK encSM (sm.take n)++(encSM t++flatK encSM (sm.drop (n+1))):=by
  rw [flat_split (sm.set n t) n t (by simp [hnl])];simp [List.take_set,List.drop_set];rw [List.set_eq_of_length_le (by simp;omega)]
 rw [<- e] at h1
 simpa using h1
theorem set_mid (A E C:List Value) (j:Nat) (u:Value) (hj:j<E.length):(A++(E++C)).set (A.length+j) u=A++(E.set j u++C):=by
 rw [List.set_append_right _ _ (by omega),Nat.add_sub_cancel_left,List.set_append_left _ _ hj]
theorem MkW.putNext (h:MkW g B mb bm sm wr) (hva:wr.cell? ⟨mb,7,none⟩=some (.slice (some ⟨ag,0,none⟩) sm.length ac)) (hn:sm[n]?=some s) (M:Nat) :
  MkW g B mb bm (sm.set n (nx s M)) ((((wr.setCell ⟨ag,n * 7+2,none⟩ (.int .u64 (wd M 0))).setCell ⟨ag,n * 7+2+1,none⟩ (.int .u64 (wd M 1))).setCell ⟨ag,n * 7+2+2,none⟩ (.int .u64 (wd M 2))).setCell ⟨ag,n * 7+2+3,none⟩ (.int .u64 (wd M 3))) /\
   KeepM mb bm wr ((((wr.setCell ⟨ag,n * 7+2,none⟩ (.int .u64 (wd M 0))).setCell ⟨ag,n * 7+2+1,none⟩ (.int .u64 (wd M 1))).setCell ⟨ag,n * 7+2+2,none⟩ (.int .u64 (wd M 2))).setCell ⟨ag,n * 7+2+3,none⟩ (.int .u64 (wd M 3))):=by
 have hnl:=(gS.1 hn).1;obtain ⟨va',a1,a2⟩:=h.all;rw [hva] at a1;injection a1 with a1;subst a1;have hg:wr.grownBy ((((wr.setCell ⟨ag,n * 7+2,none⟩ (.int .u64 (wd M 0))).setCell ⟨ag,n * 7+2+1,none⟩ (.int .u64 (wd M 1))).setCell ⟨ag,n * 7+2+2,none⟩ (.int .u64 (wd M 2))).setCell ⟨ag,n * 7+2+3,none⟩ (.int .u64 (wd M 3))) (Value.slice (some ⟨ag,0,none⟩) sm.length ac).ownBlock :=
  grown_set (grown_set (grown_set (grown_set (grown_refl wr (some ag)) (p:=⟨ag,n * 7+2,none⟩) rfl _) (p:=⟨ag,n * 7+2+1,none⟩) rfl _) (p:=⟨ag,n * 7+2+2,none⟩) rfl _) (p:=⟨ag,n * 7+2+3,none⟩) rfl _
 have hk:=h.turnKeeps hva hg;have hsn:=h.each s (gM hn);refine ⟨h.rowTurned hva hg ?_ (set_items sm n s _ hn rfl) (smok_set (fun x hx=>(h.each x hx).keep hk h.mlt h.blt) ((hsn.nx M).keep hk h.mlt h.blt)),hk⟩;have h1:=own_put (own_put (own_put (own_put a2 (n * 7+2) (by omega) (.int .u64 (wd M 0))) (n * 7+2+1) (by omega) (.int .u64 (wd M 1))) (n * 7+2+2) (by omega) (.int .u64 (wd M 2))) (n * 7+2+3) (by omega) (.int .u64 (wd M 3));have hA:(flatK encSM (sm.take n)).length=n * 7:=by rw [flatK_len encSM_len,List.length_take,Nat.min_eq_left (by omega)]
 have e0:=flat_split sm n s hn (enc:=encSM);rw [e0,<- hA,set_mid _ _ _ 2 _ (by simp [encSM]),Nat.add_assoc,Nat.add_assoc,Nat.add_assoc,set_mid _ _ _ (2+1) _ (by simp [encSM]),set_mid _ _ _ (2+2) _ (by simp [encSM]),set_mid _ _ _ (2+3) _ (by simp [encSM])] at h1
 have e:flatK encSM (sm.set n (nx s M))=flatK encSM (sm.take n)++(encSM (nx s M)++flatK encSM (sm.drop (n+1))):=by
  rw [flat_split (sm.set n (nx s M)) n (nx s M) (by simp [hnl])];simp [List.take_set,List.drop_set];rw [List.set_eq_of_length_le (by simp;omega)]
 rw [e];have e2:((((encSM s).set 2 (.int .u64 (wd M 0))).set (2+1) (.int .u64 (wd M 1))).set (2+2) (.int .u64 (wd M 2))).set (2+3) (.int .u64 (wd M 3))=encSM (nx s M):=rfl;rw [e2] at h1;rw [hA] at h1
 simpa using h1
end
end Go.Proofs.YthiochcpmfkgcaaGreatDoor.Tb
namespace Go.Proofs.YthiochcpmfkgcaaGreatDoor.Tb
open Go Go.RowKit Go.Proofs Go.Maps Mx
theorem marks_up {dl:List Nat} {W W':World} (h:MarksAt dl W) (hb:Below W.heap.size W W'):MarksAt dl W':=⟨fun D hD=>(hb.block D (Array.getElem?_eq_some_iff.1 (h.here D hD)).1).trans (h.here D hD),h.apart⟩
theorem marks_keepM {mb bm:Nat} {dl:List Nat} {W W':World} (h:MarksAt dl W) (hk:KeepM mb bm W W') {m:Nat} (hd:∀ d∈dl,m<=d) (h1:mb<m) (h2:bm<m):MarksAt dl W':=⟨fun D hD=>mark_keepM hk (h.here D hD) (by have:=hd D hD;omega) (by have:=hd D hD;omega),h.apart⟩
theorem marks_grown {dl:List Nat} {W W':World} (h:MarksAt dl W) {B n z:Nat} {e:TypeId} {v:Value} {xs:List Value} (hr:W.ownsRow B e z v n xs) (hg:W.grownBy W' v.ownBlock):MarksAt dl W' :=
 ⟨fun D hD=>by
  rw [hg.block D (Array.getElem?_eq_some_iff.1 (h.here D hD)).1 (fun e2=>by
   obtain ⟨_,c',fz,e3⟩:=own_ty hr D e2.symm;rw [h.here D hD] at e3;injection e3 with e3;cases e3)]
  exact h.here D hD,h.apart⟩
theorem set_twice (w:World) (b o:Nat) (v v':Value):(w.setCell ⟨b,o,none⟩ v).setCell ⟨b,o,none⟩ v'=w.setCell ⟨b,o,none⟩ v':=by
 unfold World.setCell;simp only [World.mk.injEq,and_true,true_and];apply Array.ext_getElem?;intro i;simp only [Array.getElem?_modify]
 by_cases e:b=i
 ·subst e;simp only [if_true,Option.map_map]
  cases w.heap[b]? with
  | none=>rfl
  | some ob=>cases ob <;> simp
 ·simp [e]
theorem set_same (w:World) (b o:Nat) (v:Value) (h:w.cell? ⟨b,o,none⟩=some v):w.setCell ⟨b,o,none⟩ v=w:=by
 have hh:(w.heap.modify b fun
   | .cells c elem frozen=>.cells (c.setIfInBounds o v) elem frozen
   | o=>o)=w.heap:=by
  apply Array.ext_getElem?;intro i;simp only [Array.getElem?_modify]
  by_cases e:b=i
  ·subst e;simp only [if_true]
   cases hb:w.heap[b]? with
   | none=>rfl
   | some ob =>
    cases ob with
    | cells c t fz =>
     unfold World.cell? at h;rw [hb] at h;simp only [Option.map_some,Option.some.injEq,Obj.cells.injEq,and_true];apply Array.ext_getElem?;intro j;rw [Array.getElem?_setIfInBounds]
     by_cases ej:o=j
     ·subst ej;have h2:c[o]?=some v:=by simpa using h
      have h3:=(Array.getElem?_eq_some_iff.1 h2).1;simp [h3,h2];exact (Array.getElem?_eq_some_iff.1 h2).2.symm
     ·rw [if_neg ej]
    | _=>rfl
  ·simp [e]
 exact congrArg (fun h=>{ w with heap:=h }) hh
theorem grown_both {w w':World} {row:Option Nat} (h:w.grownBy w' row) {b:Nat} (hb:b<w.heap.size) (hr:some b≠row) (o:Nat) (u:Value):(w.setCell ⟨b,o,none⟩ u).grownBy (w'.setCell ⟨b,o,none⟩ u) row:=by
 refine ⟨h.os,h.tape,h.output,by simpa using h.size,fun q hq hne=>?_⟩;have hq':q<w.heap.size:=by simpa using hq
 by_cases e:q=b
 ·subst e;unfold World.setCell;simp only [Array.getElem?_modify,if_true,h.block q hq' hne]
 ·rw [Below.heap_setCell w' ⟨b,o,none⟩ u q e,Below.heap_setCell w ⟨b,o,none⟩ u q e];exact h.block q hq' hne
section
variable {g:Gr} {B mb bm:Nat} {sm:List SM} {w2 wr w':World} {c2:Nat} {ve:Value}
theorem MkW.intGrown (h:MkW g B mb bm sm wr) (heach:∀ s∈sm,SMok g B w' s) {n:Nat} {xs:List Value} (hr:wr.ownsRow c2 3 1 ve n xs) (hB:B<=c2) (hg:wr.grownBy w' ve.ownBlock):MkW g B mb bm sm w':=by
 have hne:∀ b,b<B->some b≠ve.ownBlock:=fun b hb e=>by have:=(hr.lt b e.symm).1;omega
 have hlt:∀ b,b<B->b<wr.heap.size:=fun b hb=>nL hb h.size;have eb:∀ b,b<B->w'.heap[b]?=wr.heap[b]?:=fun b hb=>hg.block b (hlt b hb) (hne b hb);have ec:∀ i,w'.cell? ⟨mb,i,none⟩=wr.cell? ⟨mb,i,none⟩:=fun i=>wB (eb mb h.mlt)
 obtain ⟨va,a1,a2⟩:=h.all;obtain ⟨f,f1,f2⟩:=h.map;exact ⟨h.mlt,h.blt,h.ne,Nat.le_trans h.size hg.size,h.gr.keep (fun b hb hl=>⟨hb,eb b hb.1⟩) hg.size (ec 1) (ec 5),(ec 6).trans h.met,fun i=>(World.frozen?_of_block (eb mb h.mlt)).trans (h.fz i),
  ⟨va,(ec 7).trans a1,a2.kept hg (row_ne_row a2 hr (by decide))⟩,heach,⟨f,f1.grown hg (hne bm h.blt),f2⟩,h.many⟩
end
theorem below_both {w w':World} (h:Below w.heap.size w w') {b:Nat} (hb:b<w.heap.size) (o:Nat) (u:Value):Below (w.setCell ⟨b,o,none⟩ u).heap.size (w.setCell ⟨b,o,none⟩ u) (w'.setCell ⟨b,o,none⟩ u):=by
 have hg:w.grownBy w' none:=⟨h.os,h.tape,h.output,h.size,fun q hq _=>h.block q hq⟩;have hg2:=grown_both hg hb (by simp) o u;exact ⟨hg2.os,hg2.tape,hg2.output,hg2.size,fun q hq=>hg2.block q hq (by simp)⟩
theorem MkW.shut {g:Gr} {B mb bm:Nat} {sm:List SM} {wr w':World} {dl:List Nat} (h:MkW g B mb bm sm wr) (hm:MarksAt dl wr) (hs:ShutD dl wr w') (hhi:∀ d∈dl,B<=d):MkW g B mb bm sm w':=by
 have hne:∀ {t:TypeId} (q:Nat) (c:Array Value) (fz:_),wr.heap[q]?=some (.cells c t fz)->w'.heap[q]?=wr.heap[q]?:=fun q c fz e=>hs.block q (fun hq=>by rw [hm.here q hq] at e;injection e with e;cases e);have eb:∀ b,b<B->w'.heap[b]?=wr.heap[b]?:=fun b hb=>hs.block b (fun hq=>by have:=hhi b hq;omega);have ec:∀ i,w'.cell? ⟨mb,i,none⟩=wr.cell? ⟨mb,i,none⟩:=fun i=>wB (eb mb h.mlt)
 obtain ⟨va,a1,a2⟩:=h.all;obtain ⟨f,f1,f2⟩:=h.map;have hrow:w'.ownsRow B 145 7 va sm.length (flatK encSM sm):=by
  refine ⟨a2.1,?_⟩
  rcases a2.2 with h0 | ⟨g,cap,cur,hv,hg,hh,r⟩
  ·exact .inl h0
  ·exact .inr ⟨g,cap,cur,hv,hg,by rw [hne g _ _ hh];exact hh,r⟩
 exact ⟨h.mlt,h.blt,h.ne,by rw [hs.size];exact h.size,h.gr.keep (fun b hb hl=>⟨hb,eb b hb.1⟩) (by rw [hs.size];exact nR _) (ec 1) (ec 5),(ec 6).trans h.met,fun i=>(World.frozen?_of_block (eb mb h.mlt)).trans (h.fz i),
  ⟨va,(ec 7).trans a1,hrow⟩,fun s hs'=>⟨(h.each s hs').items.ty (fun q c fz e _=>hne q c fz e),(h.each s hs').edges.ty (fun q c fz e _=>hne q c fz e),(h.each s hs').done.ty (fun q c fz e _=>hne q c fz e),(h.each s hs').ok,(h.each s hs').len⟩,
  ⟨f,by
   obtain ⟨D,⟨es,clock,hh,r⟩,hf⟩:=f1;exact MapV.of_block ⟨D,⟨es,clock,hh,r⟩,hf⟩ (eb bm h.blt),f2⟩,h.many⟩
structure LeadD (g:Gr) (B mb bm:Nat) (sm:List SM) (n:Nat) (w2:World) (c3 ag ac:Nat) (done:List Nat) (vd:Value) (W:World):Prop where
 mkw:MkW g B mb bm sm (W.setCell ⟨ag,n * 7+6,none⟩ (.slice none 0 0))
 cell:W.cell? ⟨mb,7,none⟩=some (.slice (some ⟨ag,0,none⟩) sm.length ac)
 vcell:W.cell? ⟨ag,n * 7+6,none⟩=some vd
 row:W.ownsRow c3 3 1 vd done.length (flatK encN done)
 keep:KeepM mb bm w2 W
 low:B<=ag
 raw:∃ xs,W.ownsRow B 145 7 (.slice (some ⟨ag,0,none⟩) sm.length ac) sm.length xs
section
variable {g:Gr} {B mb bm:Nat} {sm:List SM} {n:Nat} {w2 W W' w5:World} {c3 ag ac:Nat} {done:List Nat} {vd v':Value}
theorem LeadD.up (h:LeadD g B mb bm sm n w2 c3 ag ac done vd W) (hb:Below W.heap.size W W'):LeadD g B mb bm sm n w2 c3 ag ac done vd W':=by
 obtain ⟨xs,hr⟩:=h.raw;have hag:ag<W.heap.size:=(hr.lt ag rfl).2;have hmb:mb<W.heap.size:=by have:=h.mkw.mlt;have:=h.low;omega
 exact ⟨h.mkw.below (below_both hb hag _ _),(hb.cell (p:=⟨mb,7,none⟩) hmb).trans h.cell,(hb.cell (p:=⟨ag,n * 7+6,none⟩) hag).trans h.vcell,row_below h.row hb,h.keep.trans (KeepM.of hb),h.low,⟨xs,row_below hr hb⟩⟩
theorem LeadD.push (h:LeadD g B mb bm sm n w2 c3 ag ac done vd W) (hnl:n<sm.length) (heach:∀ s∈sm,SMok g B w2 s) (hc3:w2.heap.size<=c3) (hB2:B<=w2.heap.size) {x:Nat} (hg:W.grownBy w5 vd.ownBlock) (hr':w5.ownsRow c3 3 1 v' (done.length+1) (flatK encN done++encN x)) :
  LeadD g B mb bm sm n w2 c3 ag ac (done++[x]) v' (w5.setCell ⟨ag,n * 7+6,none⟩ v'):=by
 obtain ⟨xs,hr⟩:=h.raw;have hag:ag<W.heap.size:=(hr.lt ag rfl).2;have hml:=h.mkw.mlt;have hbl:=h.mkw.blt;have hrow:=h.row;have hne:some ag≠vd.ownBlock:=fun e=>by
  obtain ⟨_,c',fz,e3⟩:=own_ty hrow ag e.symm;obtain ⟨_,c2,f2,e4⟩:=own_ty hr ag rfl;rw [e3] at e4;injection e4 with e4;injection e4 with _ e4 _;exact absurd e4 (by decide)
 have hr5:=hr.kept hg (.inr hne);have hty5:=(own_ty hr5 ag rfl).2;have hk5:KeepM mb bm w2 w5:=h.keep.grownNew hg (fun r e=>Nat.le_trans hc3 (hrow.lt r e).1);have kset:∀ u,KeepM mb bm w5 (w5.setCell ⟨ag,n * 7+6,none⟩ u):=fun u=>KeepM.grown (grown_set (grown_refl w5 (some ag)) (p:=⟨ag,n * 7+6,none⟩) rfl u) (fun r e=>.inr (.inr (by injection e with e;subst e;exact ⟨by have:=(own_ty hr5 ag rfl).1;have:=h.mkw.mlt;omega,hty5⟩)))
 have hV:(W.setCell ⟨ag,n * 7+6,none⟩ (.slice none 0 0)).ownsRow c3 3 1 vd done.length (flatK encN done):=hrow.kept (grown_set (grown_refl W (some ag)) (p:=⟨ag,n * 7+6,none⟩) rfl _) (by
  cases hv:vd.ownBlock with
  | none=>exact .inl rfl
  | some y=>exact .inr (by rw [hv] at hne;exact fun e=>hne e.symm))
 have hmk:=h.mkw.intGrown (w':=w5.setCell ⟨ag,n * 7+6,none⟩ (.slice none 0 0)) (fun s hs=>(heach s hs).keep (hk5.trans (kset _)) hml hbl) hV (by omega) (grown_both hg hag hne _ _);have hput:=own_put hr5 (n * 7+6) (by omega) v';have hxl:xs.length=sm.length * 7:=hr5.1;refine ⟨by rw [set_twice];exact hmk,?_,?_,?_,hk5.trans (kset _),h.low,⟨_,hput⟩⟩
 ·have e1:mb≠ag:=by have:=h.low;omega
  have e2:some mb≠vd.ownBlock:=fun e=>by have:=(hrow.lt mb e.symm).1;omega
  exact ((wB (Below.heap_setCell w5 ⟨ag,n * 7+6,none⟩ v' mb e1)).trans (wB (hg.block mb (by have:=h.low;omega) e2))).trans h.cell
 ·rw [hput.cellAt (n * 7+6) (by omega)];rw [List.getElem?_set_self (by omega)]
 ·have h3:(w5.setCell ⟨ag,n * 7+6,none⟩ v').ownsRow c3 3 1 v' (done.length+1) (flatK encN done++encN x):=hr'.kept (grown_set (grown_refl w5 (some ag)) (p:=⟨ag,n * 7+6,none⟩) rfl _) (by
   have:=row_ne_row hr' hr5 (by decide);exact this)
  rw [flatK_snoc] at h3
  simpa using h3
theorem LeadD.over (h:LeadD g B mb bm sm n w2 c3 ag ac done vd W) {t t1:SM} (hn:sm[n]?=some t) (ht:t1.items=t.items /\ t1.edges=t.edges /\ t1.ve=t.ve /\ t1.vi=t.vi /\ t1.next=t.next /\ t1.vd=vd /\ t1.done=done) (hBc:B<=c3):MkW g B mb bm (sm.set n t1) W:=by
 obtain ⟨xs,hr⟩:=h.raw;obtain ⟨i1,i2,i3,i4,i5,i6,i7⟩:=ht;have hrow:=h.row;have hne:vd.ownBlock=none∨vd.ownBlock≠some ag:=row_ne_row hrow hr (by decide)
 have hV:(W.setCell ⟨ag,n * 7+6,none⟩ (.slice none 0 0)).ownsRow c3 3 1 vd done.length (flatK encN done):=hrow.kept (grown_set (grown_refl W (some ag)) (p:=⟨ag,n * 7+6,none⟩) rfl _) hne;have hcell:(W.setCell ⟨ag,n * 7+6,none⟩ (.slice none 0 0)).cell? ⟨mb,7,none⟩=some (.slice (some ⟨ag,0,none⟩) sm.length ac):=by
  have e1:mb≠ag:=by have:=h.low;have:=h.mkw.mlt;omega
  exact (wB (Below.heap_setCell W ⟨ag,n * 7+6,none⟩ _ mb e1)).trans h.cell
 have ho:=h.mkw.each t (gM hn);have hok:SMok g B (W.setCell ⟨ag,n * 7+6,none⟩ (.slice none 0 0)) t1:=⟨by rw [i1,i4];exact ho.items,by rw [i2,i3];exact ho.edges,by rw [i6,i7];exact own_sliceT encN_len (own_low hV hBc),by rw [i1];exact ho.ok,by rw [i1];exact ho.len⟩;have hp:=(h.mkw.putOne hcell hn (j:=6) (by omega) (u:=vd) (t:=t1) (by simp [encSM,i3,i4,i5,i6]) i1 hok).1;rw [set_twice,set_same _ _ _ _ h.vcell] at hp;exact hp
end
open Go.Shelf
theorem infoInt4:(Tryz.prog.info? 3).map (fun i=>(i.zero,i.size,i.bytes))=some (some (.int .i64 0),1,8):=by kernel_rfl
theorem nat_one (w:World) (x:Nat):∀ j u,(encN x)[j]?=some u->(w.alloc (.cells #[.int .i64 x] 3)).cell? ((⟨w.heap.size,0,none⟩:Addr).add j)=some u:=by
 intro j u hj;have hb:Blk (w.alloc (.cells #[.int .i64 x] 3)) w.heap.size 3 #[.int .i64 x]:=Blk.new w _ _;rw [addr_add_,Nat.zero_add,hb.cell j]
 simpa [encN] using hj
theorem lead_four (g:Gr) (hg:Good g) (B mb bm:Nat) (sm:List SM) (n:Nat) (s:SM) (hn:sm[n]?=some s) (hs:Bare s) (w:World) (hm:MkW g B mb bm sm w)
  (ia:Option Addr) (ic:Nat) (hvi:s.vi=.slice ia s.items.length ic) (es:List (Sy × Nat)) (sm3:List SM) (hnum:numbersF (sm.map (·.items)) (leadsF g s.items)=some (es,sm3.map (·.items))) (W:World) (hM:MkW g B mb bm sm3 W) (hK:KeepM mb bm w W)
  (hsn:sm3[n]?=some (nx s (nextF es))) (hold:∀ k,k≠n->k<sm.length->sm3[k]?=sm[k]?) (hnew:∀ k x,sm.length<=k->sm3[k]?=some x->Bare x) (c2:Nat) (hc2:w.heap.size<=c2) (ve:Value) (hrow:W.ownsRow c2 173 7 ve es.length (flatK encEd es))
  (dl:List Nat) (hmk:MarksAt dl W) (hhi:∀ d∈dl,w.heap.size<=d) {u5 u6 u7 u12 u14 u15 u20 u21 u22 u23 u24 u25 u26 u27 u28 u29 u30 u31 u63 u64 u65 u66 u67 u68 u69 u70 u71 u72 u73 u74 u75 u76 u77 u78 u79 u80 u81 u82 u83 u84 u85 u86 u87 u88 u89 u90 u91 u92 u108 u109 u110 u111 u112 u113 u114 u115 u116 u117 u118 u119 u120 u121 u122 u123 u124 u125 u126 u127 u128 u129 u130 u131 u132 u133 u134 u135 u136 u137 u138:Value}
  (c:Code) (hc:(Tryz.f64.body.map (dropSeq 9))=some c) :
  c.wp Tryz.prog (PostL Tryz.prog Tryz.f64 (Led g B mb bm sm n s w)) { tmps:=#[.pointer (some ⟨mb,0,none⟩),.int .i64 n,undef,undef,.slice ia s.items.length ic,u5,u6,u7,undef,undef,ve,undef,u12,undef,u14,u15,undef,undef,undef,undef,u20,u21,u22,u23,u24,u25,u26,u27,u28,u29,u30,u31,undef,undef,undef,undef,undef,undef,undef,undef,undef,undef,undef,undef,undef,undef,undef,undef,undef,undef,undef,undef,undef,undef,undef,undef,undef,undef,undef,undef,undef,undef,undef,u63,u64,u65,u66,u67,u68,u69,u70,u71,u72,u73,u74,u75,u76,u77,u78,u79,u80,u81,u82,u83,u84,u85,u86,u87,u88,u89,u90,u91,u92,undef,undef,undef,undef,undef,undef,undef,undef,undef,undef,undef,undef,undef,undef,undef,u108,u109,u110,u111,u112,u113,u114,u115,u116,u117,u118,u119,u120,u121,u122,u123,u124,u125,u126,u127,u128,u129,u130,u131,u132,u133,u134,u135,u136,u137,u138,undef,undef,undef,undef,undef,undef,undef,undef,undef,undef,undef,undef,undef,undef,undef,undef,undef,undef,undef,undef,undef,undef,undef,undef,undef,undef,undef,undef,undef,undef,undef,undef,undef,undef,undef,undef,undef,undef,undef,undef,undef,undef,undef,undef,undef,undef,undef,undef],defers:=marksD dl } W:=by
 have ec:(Tryz.f64.body.map (dropSeq 9))=some _:=rfl;rw [ec] at hc;injection hc with hc;subst hc;clear ec;have hmw:mb<w.heap.size:=nL hm.mlt hm.size;have hbw:bm<w.heap.size:=nL hm.blt hm.size;have hnl:=(gS.1 hsn).1;obtain ⟨ea,ec,rfl⟩:=own_shape hrow;have hn0:(0:Int)<=n:=by omega
 have hn1:(n:Int)<sm3.length:=by omega
 obtain ⟨va,a1,a2⟩:=hM.all;obtain ⟨ag,ac,rfl,hagB,_,_⟩:=own_some a2 (by omega)
 have hfz:=a2.frozenAt;have x1:W.cell? ⟨ag,n * 7+1,none⟩=some s.ve:=by
  rw [a2.cellAt (n * 7+1) (by omega)];exact flatK_get encSM_len sm3 n (nx s (nextF es)) 1 s.ve hsn rfl
 obtain ⟨tE,htE⟩:∃ tE:SM,tE={ nx s (nextF es) with edges:=es,ve:=.slice ea es.length ec }:=⟨_,rfl⟩;have hse:=hM.each _ (gM hsn);have hBw:B<=w.heap.size:=hm.size;have hput:=hM.putOne a1 hsn (j:=1) (by omega) (u:=.slice ea es.length ec) (t:=tE) (by rw [htE];rfl) (by rw [htE]) (by
  rw [htE];exact ⟨hse.items,own_sliceT encEd_len (own_low hrow (by omega)),hse.done,hse.ok,hse.len⟩)
 have hmk1:=(marks_keepM hmk hput.2 hhi hmw hbw);have HM:=Z8.mk hm hg hs hvi hn hse hold hnew;have HP:=Z9.mk hnum hK hsn hput.1 hput.2 hmk1 hhi a2 htE;have hilen:=hse.len;clear hm hg hs hvi hn hse hold hnew hnum hM hK hsn hput hmk hmk1 hhi a2 htE hrow;simp only [dropSeq];go_wp2_with fail
 obtain ⟨W1,hW1⟩:=eX (W.setCell ⟨ag,n * 7+1,none⟩ (.slice ea es.length ec));rw [hW1] at HP ⊢;have hl1:(sm3.set n tE).length=sm3.length:=List.length_set;have htE:=HP.o9;have hvd:tE.vd=.slice none 0 0 /\ tE.done=[]:=by rw [htE];exact ⟨HM.o3.2.2.2.2,HM.o3.2.2.1⟩
 have hb1:=HP.o4;have hsnE:(sm3.set n tE)[n]?=some tE:=by simp [hnl]
 obtain ⟨va1,b1,b2⟩:=hb1.all;have a11:W1.cell? ⟨mb,7,none⟩=some (.slice (some ⟨ag,0,none⟩) (sm3.set n tE).length ac):=by
  rw [<- hW1,hl1];exact (wB (Below.heap_setCell W ⟨ag,n * 7+1,none⟩ _ mb (by show mb≠ag;have:=hb1.mlt;omega))).trans a1
 rw [a11] at b1;injection b1 with b1;subst b1;have hv1:W1.cell? ⟨ag,n * 7+6,none⟩=some (.slice none 0 0):=by
  rw [b2.cellAt (n * 7+6) (by omega)];rw [<- hvd.1];exact flatK_get encSM_len (sm3.set n tE) n tE 6 tE.vd hsnE rfl
 have hD0:LeadD g B mb bm (sm3.set n tE) n W1 W1.heap.size ag ac [] (.slice none 0 0) W1 :=
  ⟨by rw [set_same _ _ _ _ hv1];exact hb1,a11,hv1,World.ownsRow_nil _ _ _ _,KeepM.refl _ _ _,hagB,⟨_,b2⟩⟩
 have HD:=Z4.mk hD0 hb1 hsnE hvd;clear hD0 hb1 hsnE hvd b2 a11 hv1 htE hW1 a1 x1 hfz;rename_i K9 hK9;have HK9:=Hd hK9;clear hK9
 go_loopg [149] s.items.length (fun m v149 wr=>∃ (i:Nat) (vd:Value),i<=s.items.length /\ m=s.items.length - i /\ v149=.int .i64 i /\ LeadD g B mb bm (sm3.set n tE) n W1 W1.heap.size ag ac (doneF g (s.items.take i)) vd wr)
 case atStart=>exact ⟨0,_,by omega,rfl,rfl,HD.o1⟩
 case round =>
  obtain ⟨i,vd,hi,hm,rfl,hE⟩:=hrel;have A:=Z2.mk hm hE;clear hm hE
  by_cases hlt:i<s.items.length
  ·obtain ⟨⟨nn,d⟩,hx⟩:∃ x,s.items[i]?=some x:=⟨_,gE hlt⟩;have hE:=A.o2;have hml:=HM.o1.mlt;have hbl:=HM.o1.blt;have hse2:=HM.o6.keep (HP.o5.trans hE.keep) hml hbl;obtain ⟨ia',ic',hvi',hic1,hic2,hik⟩:=hse2.items;rw [show (nx s (nextF es)).vi=s.vi from rfl,HM.o4] at hvi';injection hvi' with e1 e2 e3;subst e1;subst e3;obtain ⟨kg,ko,rfl,hkD,hkr⟩:=hik (by rintro h;rw [nx_items] at h;rw [h] at hlt;simp at hlt)
   have k0:=hkr.cells i _ hx 0 _ rfl;have k1:=hkr.cells i _ hx 1 _ rfl;simp only [Nat.add_zero] at k0;have hok:=(itemOk_iff g (nn,d)).1 (hse2.ok _ (gM hx));obtain ⟨p,hp⟩:∃ p,g.prods[nn]?=some p:=⟨_,gE hok.1⟩;have hrt:rightOf g nn=p.right:=by unfold rightOf;rw [hp];rfl
   obtain ⟨hnP,hdl⟩:=hok;have hp30:=HM.o2.right p (gM hp);simp only [hrt] at hdl;have hmag:mb≠ag:=by omega
   have hMr:MkR (fun b=>b<B /\ b≠mb /\ b≠bm) wr mb g:=hE.mkw.gr.keep (fun b hb hl=>⟨hb,by rw [Below.heap_setCell wr ⟨ag,n * 7+6,none⟩ _ b (by show b≠ag;have:=hb.1;omega)]⟩) (by simp) ((wB (Below.heap_setCell wr ⟨ag,n * 7+6,none⟩ _ mb hmag)).symm) ((wB (Below.heap_setCell wr ⟨ag,n * 7+6,none⟩ _ mb hmag)).symm);obtain ⟨_,cp,b,o,vr,m1,rfl,hvr,hpc⟩:=hMr.prod hp;obtain ⟨ra,rc,rfl,hrc1,hrc2,hrk⟩:=hvr;have f1:=hpc 1 _ rfl;have hi0:(0:Int)<=i:=by omega
   have hi1:(i:Int)<s.items.length:=by omega
   have hnn0:(0:Int)<=nn:=by omega
   have hnP1:(nn:Int)<g.prods.length:=by omega
   have htk:doneF g (s.items.take (i+1))=doneF g (s.items.take i)++(if d=p.right.length then [nn] else []):=by
    unfold doneF;rw [List.take_add_one,hx,List.filter_append,List.map_append];congr 1
    by_cases e:d=p.right.length <;> simp [hrt,e]
   have HX:=Z3.mk htk hp hrt;clear hx hp hrt hpc hkr hMr hik hse2 hE htk hrk;go_wp2_with fail
   have hIB:Blk (wr.alloc (.cells #[.int .i64 nn,.int .i64 d] 134)) wr.heap.size 134 #[.int .i64 nn,.int .i64 d]:=Blk.new _ _ _;have m1:=cell_alloc_ m1 (.cells #[.int .i64 nn,.int .i64 d] 134);have f1:=cell_alloc_ f1 (.cells #[.int .i64 nn,.int .i64 d] 134);have hbW:Below wr.heap.size wr (wr.alloc (.cells #[.int .i64 nn,.int .i64 d] 134)):=(bR _ wr).alloc (nR _) _;have hib:wr.heap.size<(wr.alloc (.cells #[.int .i64 nn,.int .i64 d] 134)).heap.size:=by simp
   have hE0:=A.o2.up hbW;clear k0 k1;generalize (wr.alloc (.cells #[.int .i64 nn,.int .i64 d] 134))=w0 at hIB m1 f1 hbW hib hE0 ⊢;obtain ⟨x0,x1,_⟩:=hIB.facts2;have HE:=Z4.mk hE0 hIB hbW hib;clear hE0 hIB hbW hib
   go_quiet (fail)
   have hbq:Below w0.heap.size w0 (w0.drewN nq):=below_drewN (bR _ w0) nq;have hEq:=HE.o1.up hbq;have hIq:=HE.o2.below hbq HE.o2.lt;have hxq:(w0.drewN nq).cell? ⟨wr.heap.size,0,none⟩=some (.int .i64 nn):=x0;have HF:=Z3.mk hEq hIq hxq;clear hbq hEq hIq hxq x0 x1 m1 f1;generalize w0.drewN nq=wq at HF ⊢
   by_cases hdd:d=p.right.length
   ·have heq:((d:Int)==((p.right.length:Nat):Int))=true:=by rw [hdd];simp
    have hls:((sm3.set n tE).length:Int)=sm3.length:=by rw [hl1]
    have hEw:=HF.o1;have y7:=hEw.cell;rw [hl1] at y7;obtain ⟨xs,hraw⟩:=hEw.raw;have hfz:=hraw.frozenAt;have y6:=hEw.vcell;have x0:=HF.o3;have hrw:=hEw.row;have hdl2:(doneF g (s.items.take i)).length<=10000:=by
     unfold doneF;have h1:=List.length_filter_le (fun x:It=>x.2==(rightOf g x.1).length) (s.items.take i);rw [List.length_map];rw [List.length_take] at h1;omega
    clear hEw hraw;go_wp2_with fail
    have hS:(fun W':World=>W'.cell? ⟨mb,7,none⟩=some (.slice (some ⟨ag,0,none⟩) sm3.length ac) /\ W'.cell? ⟨wr.heap.size,0,none⟩=some (.int .i64 nn)) wq.drew:=⟨y7,x0⟩;obtain ⟨wz,hwz⟩:=eX (wq.drew.alloc (.cells #[.int .i64 nn] 3));have hSa:(fun W':World=>W'.cell? ⟨mb,7,none⟩=some (.slice (some ⟨ag,0,none⟩) sm3.length ac) /\ W'.cell? ⟨wr.heap.size,0,none⟩=some (.int .i64 nn)) wz:=by rw [<- hwz];exact ⟨cell_alloc_ hS.1 _,cell_alloc_ hS.2 _⟩
    have y6a:wz.cell? ⟨ag,n * 7+6,none⟩=some vd:=by rw [<- hwz];exact cell_alloc_ y6 _
    refine wp_region_held (S:=(fun W':World=>W'.cell? ⟨mb,7,none⟩=some (.slice (some ⟨ag,0,none⟩) sm3.length ac) /\ W'.cell? ⟨wr.heap.size,0,none⟩=some (.int .i64 nn))) (by kernel_rfl) ?_;show wpAnyH _ _ _ _ _ 20 #[false,false,false,false,false,false,false,false,false,false,false,false,false,false,false,false,false,false,false,false] _ wq.drew;refine held_take (i:=0) (v:=.pointer (some ⟨mb,0,none⟩)) rfl (by kernel_rfl) rfl (fun _ _ _ h=>h) (fun W' hW'=>by obtain ⟨q1,q2⟩:=hW';go_simp) hS ?_;simp only [Act.put,List.setIfInBounds_toArray,List.set_cons_zero,List.set_cons_succ];refine held_take (i:=1) (v:=.pointer (some ⟨mb,0,none⟩)) rfl (by kernel_rfl) rfl (fun _ _ _ h=>h) (fun W' hW'=>by obtain ⟨q1,q2⟩:=hW';go_simp) hS ?_;simp only [Act.put,List.setIfInBounds_toArray,List.set_cons_zero,List.set_cons_succ];refine held_take (i:=2) (v:=.pointer (some ⟨mb,7,none⟩)) rfl (by kernel_rfl) rfl (fun _ _ _ h=>h) (fun W' hW'=>by obtain ⟨q1,q2⟩:=hW';go_simp) hS ?_;simp only [Act.put,List.setIfInBounds_toArray,List.set_cons_zero,List.set_cons_succ];refine held_take (i:=3) (v:=.slice (some ⟨ag,0,none⟩) sm3.length ac) rfl (by kernel_rfl) rfl (fun _ _ _ h=>h) (fun W' hW'=>by obtain ⟨q1,q2⟩:=hW';go_simp) hS ?_;simp only [Act.put,List.setIfInBounds_toArray,List.set_cons_zero,List.set_cons_succ];refine held_take (i:=4) (v:=.int .i64 n) rfl (by kernel_rfl) rfl (fun _ _ _ h=>h) (fun W' hW'=>by obtain ⟨q1,q2⟩:=hW';go_simp) hS ?_;simp only [Act.put,List.setIfInBounds_toArray,List.set_cons_zero,List.set_cons_succ];refine held_take (i:=5) (v:=.pointer (some ⟨mb,0,none⟩)) rfl (by kernel_rfl) rfl (fun _ _ _ h=>h) (fun W' hW'=>by obtain ⟨q1,q2⟩:=hW';go_simp) hS ?_;simp only [Act.put,List.setIfInBounds_toArray,List.set_cons_zero,List.set_cons_succ];refine held_take (i:=6) (v:=.pointer (some ⟨mb,0,none⟩)) rfl (by kernel_rfl) rfl (fun _ _ _ h=>h) (fun W' hW'=>by obtain ⟨q1,q2⟩:=hW';go_simp) hS ?_;simp only [Act.put,List.setIfInBounds_toArray,List.set_cons_zero,List.set_cons_succ];refine held_take (i:=7) (v:=.pointer (some ⟨mb,7,none⟩)) rfl (by kernel_rfl) rfl (fun _ _ _ h=>h) (fun W' hW'=>by obtain ⟨q1,q2⟩:=hW';go_simp) hS ?_;simp only [Act.put,List.setIfInBounds_toArray,List.set_cons_zero,List.set_cons_succ];refine held_take (i:=8) (v:=.slice (some ⟨ag,0,none⟩) sm3.length ac) rfl (by kernel_rfl) rfl (fun _ _ _ h=>h) (fun W' hW'=>by obtain ⟨q1,q2⟩:=hW';go_simp) hS ?_;simp only [Act.put,List.setIfInBounds_toArray,List.set_cons_zero,List.set_cons_succ];refine held_take (i:=9) (v:=.int .i64 n) rfl (by kernel_rfl) rfl (fun _ _ _ h=>h) (fun W' hW'=>by obtain ⟨q1,q2⟩:=hW';go_simp) hS ?_;simp only [Act.put,List.setIfInBounds_toArray,List.set_cons_zero,List.set_cons_succ];refine held_take (i:=10) (v:=.pointer (some ⟨ag,n * 7,none⟩)) rfl (by kernel_rfl) rfl (fun _ _ _ h=>h) (fun W' hW'=>by obtain ⟨q1,q2⟩:=hW';go_simp) hS ?_;simp only [Act.put,List.setIfInBounds_toArray,List.set_cons_zero,List.set_cons_succ];refine held_take (i:=11) (v:=.pointer (some ⟨ag,n * 7+6,none⟩)) rfl (by kernel_rfl) rfl (fun _ _ _ h=>h) (fun W' hW'=>by obtain ⟨q1,q2⟩:=hW';go_simp) hS ?_;simp only [Act.put,List.setIfInBounds_toArray,List.set_cons_zero,List.set_cons_succ];refine held_take (i:=13) (v:=.pointer (some ⟨wr.heap.size,0,none⟩)) rfl (by kernel_rfl) rfl (fun _ _ _ h=>h) (fun W' hW'=>by obtain ⟨q1,q2⟩:=hW';go_simp) hS ?_;simp only [Act.put,List.setIfInBounds_toArray,List.set_cons_zero,List.set_cons_succ];refine held_take (i:=14) (v:=.int .i64 nn) rfl (by kernel_rfl) rfl (fun _ _ _ h=>h) (fun W' hW'=>by obtain ⟨q1,q2⟩:=hW';go_simp) hS ?_;simp only [Act.put,List.setIfInBounds_toArray,List.set_cons_zero,List.set_cons_succ];apply via
    ·intro KV;refine held_two (i:=12) (j:=15) (by kernel_rfl) rfl rfl rfl rfl ?_ ?_
     ·intro K hK;go_simp;refine hK _ _ hS ?_;clear hK K;simp only [Act.put,List.setIfInBounds_toArray,List.set_cons_zero,List.set_cons_succ];refine held_one (i:=15) (by kernel_rfl) rfl rfl ?_;intro K hK;go_simp;refine hK _ _ hSa ?_;clear hK K;simp only [Act.put,List.setIfInBounds_toArray,List.set_cons_zero,List.set_cons_succ];exact KV.out
     ·intro K hK;go_simp;refine hK _ _ hSa ?_;clear hK K;simp only [Act.put,List.setIfInBounds_toArray,List.set_cons_zero,List.set_cons_succ];refine held_one (i:=12) (by kernel_rfl) rfl rfl ?_;intro K hK;go_simp;refine hK _ _ hSa ?_;clear hK K;simp only [Act.put,List.setIfInBounds_toArray,List.set_cons_zero,List.set_cons_succ];exact KV.out
    refine held_one (i:=16) (by kernel_rfl) rfl rfl ?_;obtain ⟨i0,hi',hz0,hz1,hz2⟩:=info_parts infoInt4;have hrz:wz.ownsRow W1.heap.size 3 1 vd (doneF g (s.items.take i)).length (flatK encN (doneF g (s.items.take i))):=by rw [<- hwz];exact hrw.drew.alloc _
    intro K16 hK16;refine wp_append_ownF _ _ _ 57 rfl W1.heap.size 3 i0 (.int .i64 0) 1 8 Tryz.underlying57 hi' hz0 hz1 hz2 rfl (by decide) _ (doneF g (s.items.take i)).length (flatK encN (doneF g (s.items.take i))) rfl hrz ⟨wq.heap.size,0,none⟩ 1 1 (encN nn) rfl rfl ?c1 ?c2 ?c3 ?c4 ?c5 ?_
    case c1=>rw [<- hwz];exact nat_one wq.drew nn
    case c2=>intro u hu;simp [encN] at hu;subst hu;rfl
    case c3=>unfold maxLen;omega
    case c4=>omega
    case c5=>have h1:=HF.o1.keep.size;rw [<- hwz,World.size_alloc];have h2:wq.drew.heap.size=wq.heap.size:=rfl;omega
    intro v' w5 hown5 hg5 _;have hgw:wq.grownBy w5 vd.ownBlock:=World.grownBy.trans (show wq.grownBy wz _ by rw [<- hwz];exact World.grownBy.trans (grown_drewN (grown_refl wq _) 1) (World.grownBy_alloc _ _ _)) hg5
    obtain ⟨va',vc',rfl⟩:=own_shape hown5;obtain ⟨xs',hraw⟩:=HF.o1.raw;have hag:some ag≠vd.ownBlock:=fun e=>by
     rcases row_ne_row hraw hrw (by decide) with h | h
     ·cases h
     ·exact h e
    have hfz5:=(hraw.kept hgw (.inr hag)).frozenAt;have y65:=hgw.cell y6 hag;have y75:=hgw.cell y7 (fun e=>by have:=(hrw.lt mb e.symm).1;have:=HD.o2.size;omega);have x05:=hgw.cell x0 (blk_ne_row HF.o2 hrw (by decide))
    have hwag:wr.heap.size≠ag:=fun e=>by
     obtain ⟨_,c',fz,e3⟩:=own_ty hraw ag rfl;have hB:=HF.o2;unfold Blk at hB;rw [e,e3] at hB;injection hB with hB;injection hB with _ hB _;exact absurd hB (by decide)
    have hpush:=HF.o1.push (by rw [hl1];exact hnl) HD.o2.each (nR _) HD.o2.size hgw hown5;have HG:=Hd hpush;clear hpush hraw hown5 hg5 hgw hrz hrw hfz;refine hK16 _ _ ⟨y75,x05⟩ ?_;clear hK16 K16;simp only [Act.put,List.setIfInBounds_toArray,List.set_cons_zero,List.set_cons_succ];refine held_one (i:=17) (by kernel_rfl) rfl rfl ?_;intro K hK;go_simp;refine hK _ _ ⟨y75,x05⟩ ?_;clear hK K;simp only [Act.put,List.setIfInBounds_toArray,List.set_cons_zero,List.set_cons_succ];refine held_one (i:=18) (by kernel_rfl) rfl rfl ?_;intro K hK;go_simp;refine hK _ _ ⟨y75,x05⟩ ?_;clear hK K;simp only [Act.put,List.setIfInBounds_toArray,List.set_cons_zero,List.set_cons_succ];refine held_one (i:=19) (by kernel_rfl) rfl rfl ?_;intro K hK;go_simp;refine hK _ _ ⟨(wB (Below.heap_setCell w5 ⟨ag,n * 7+6,none⟩ _ mb hmag)).trans y75,(wB (Below.heap_setCell w5 ⟨ag,n * 7+6,none⟩ _ wr.heap.size hwag)).trans x05⟩ ?_;clear hK K;refine wpAnyH_done (by kernel_rfl) ?_ _
    go_step
    go_step
    go_wp2_with fail
    go_roundg (s.items.length - (i+1))
    case measure=>have:=A.o1;omega
    case rel=>exact ⟨i+1,_,by omega,rfl,rfl,by rw [HX.o1,if_pos hdd];exact HG.out⟩
   ·have heq:((d:Int)==((p.right.length:Nat):Int))=false:=by rw [beq_eq_false_iff_ne];omega
    go_wp2_with fail
    go_roundg (s.items.length - (i+1))
    case measure=>have:=A.o1;omega
    case rel=>exact ⟨i+1,_,by omega,rfl,rfl,by rw [HX.o1,if_neg hdd,List.append_nil];exact HF.o1⟩
  ·obtain rfl:i=s.items.length:=by omega
   go_wp2_with fail
   have hE:=A.o2;have hmkr:=marks_keepM HP.o6 hE.keep HP.o7 hmw hbw;refine ⟨dl,rfl,hmkr,fun w' hs=>⟨.tuple #[],results_none rfl _ _ _,.inl ?_⟩⟩;obtain ⟨t1,ht1⟩:∃ t1:SM,t1={ tE with done:=doneF g (s.items.take s.items.length),vd:=vd }:=⟨_,rfl⟩;have hW1:B<=W1.heap.size:=HD.o2.size;have hov:=hE.over (t1:=t1) HD.o3 (by rw [ht1];exact ⟨rfl,rfl,rfl,rfl,rfl,rfl,rfl⟩) hW1;rw [List.set_set] at hov;have htE:=HP.o9;have hit:t1.items=(nx s (nextF es)).items:=by rw [ht1,htE]
   have hhB:∀ d∈dl,B<=d:=fun d hd=>by have:=HP.o7 d hd;omega
   have hkw:KeepM mb bm w wr:=(HP.o2.trans HP.o5).trans hE.keep;refine ⟨es,_,sm3.set n t1,t1,HP.o1,rfl,hov.shut hmkr hs hhB,hkw.shut hs HP.o7,set_items sm3 n _ t1 HP.o3 hit,by simp [hnl],by rw [ht1,htE],by rw [ht1,List.take_length],by rw [ht1,htE];rfl,fun k hk hkl=>?_,fun k x hk hx=>?_⟩
   ·rw [List.getElem?_set_ne (Ne.symm hk)];exact HM.o7 k hk hkl
   ·rw [List.getElem?_set_ne (by have:=(gS.1 HM.o5).1;omega)] at hx;exact HM.o8 k x hk hx
end Go.Proofs.YthiochcpmfkgcaaGreatDoor.Tb
