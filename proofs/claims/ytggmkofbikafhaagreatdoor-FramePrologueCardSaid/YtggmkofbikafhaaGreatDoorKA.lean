/- Walks and plain laws on the way to FramePrologue (KC, KN, KA). Conditions: those that each theorem states. -/
import Derived.Maps.RangeWalk
import Derived.Maps.RangeRun
import Derived.Laws.IdiomRangeMap
import Derived.Test.YtggmkofbikafhaaGreatDoorKX
set_option linter.unusedVariables false
set_option linter.unusedSimpArgs false
set_option maxRecDepth 100000
set_option maxHeartbeats 40000000
namespace Go.Proofs.YtggmkofbikafhaaGreatDoor
open Go.RowKit
attribute [local go_sem] ZAo ZA1
theorem ZKe (g:Nat) (w:World) (hb:ZAV w (.slice (some ⟨g,0,none⟩) 1 1) Lf.bl) (hk:Zj w) :
  Calls Tryz.prog 126 #[.agg #[.string ⟨#[102]⟩,.int .i64 0,.int .i64 0,.slice none 0 0,.slice (some ⟨g,0,none⟩) 1 1]] w fun e w'=>(∃A c,e=.returned (.tuple #[.slice A 0 c,.int .i64 0]))∧Below w.heap.size w w':=by
 have hal:=ZN w (.cells #[.string ⟨#[102]⟩,.int .i64 0,.int .i64 0,.slice none 0 0,.slice (some ⟨g,0,none⟩) 1 1] 82);have HF:=Zh (ZHa g _ (hb.below hal) (hk.below hal));have HX:=Zh (Za (Blk.new w 82 #[.string ⟨#[102]⟩,.int .i64 0,.int .i64 0,.slice none 0 0,.slice (some ⟨g,0,none⟩) 1 1]) hal);clear hal hb hk;have hmm:=@run_makeMap Tryz.prog;go_enter Tryz.func126,Tryz.ntmps126
 go_wp2_with fail
 refine HF.out.mono ?_;rintro e w1 ⟨⟨gl,gg,tov,gr,inv,gs,rfl,hlv⟩,hb1⟩;have HX1:=Zh (Za (HX.out.1.below hb1 HX.out.1.lt) (HX.out.2.trans (ZA hb1 HX.out.2.size)));have HLV:=Zh hlv;clear HF HX hlv hb1;go_upto_region 7 with fail
 have q1:=ZN w1 (.map #[] 0);have q2:=q1.trans (ZA (ZN (w1.alloc (.map #[] 0)) (.cells #[.map (some w1.heap.size)] 263)) q1.size);have q3:=q2.trans (ZA (ZN _ (.cells #[.func (.func 152) #[] #[.pointer (some ⟨w1.heap.size+1,0,none⟩),.pointer (some ⟨w.heap.size,0,none⟩)]] 269)) q2.size);have q4:=q3.trans (ZA (ZN _ (.cells #[.func (.func 153) #[] #[.pointer (some ⟨w1.heap.size+1+1,0,none⟩)]] 271)) q3.size);obtain ⟨V,hV⟩:∃V,(((w1.alloc (.map #[] 0)).alloc (.cells #[.map (some w1.heap.size)] 263)).alloc (.cells #[.func (.func 152) #[] #[.pointer (some ⟨w1.heap.size+1,0,none⟩),.pointer (some ⟨w.heap.size,0,none⟩)]] 269)).alloc (.cells #[.func (.func 153) #[] #[.pointer (some ⟨w1.heap.size+1+1,0,none⟩)]] 271)=V:=⟨_,rfl⟩
 have hm0:V.heap[w1.heap.size]? = some (.map #[] 0):=by
  have p1:(w1.alloc (.map #[] 0)).heap[w1.heap.size]? = some (.map #[] 0):=by unfold World.alloc;exact Array.getElem?_push_size
  have p2:=ZN (w1.alloc (.map #[] 0)) (.cells #[.map (some w1.heap.size)] 263);have p3:=p2.trans (ZA (ZN _ (.cells #[.func (.func 152) #[] #[.pointer (some ⟨w1.heap.size+1,0,none⟩),.pointer (some ⟨w.heap.size,0,none⟩)]] 269)) p2.size);have p4:=p3.trans (ZA (ZN _ (.cells #[.func (.func 153) #[] #[.pointer (some ⟨w1.heap.size+1+1,0,none⟩)]] 271)) p3.size)
  rw[←hV]
  exact (p4.block _ (by simp[World.size_alloc])).trans p1
 have hm1:V.cell? ⟨w1.heap.size+1,0,none⟩=some (.map (some w1.heap.size)):=by
  rw[←hV]
  exact (((ZY (w:=w1.alloc (.map #[] 0)) (n:=w1.heap.size+1) (by simp[World.size_alloc]) 263 #[.map (some w1.heap.size)]).alloc _).alloc _).cell 0 |>.trans rfl
 rw[hV] at q4 ⊢;obtain ⟨b,hb⟩:∃b,w1.heap.size=b:=⟨_,rfl⟩
 rw[hb] at hm0 hm1 ⊢;have HV:=Zh (Za (HX1.out.1.below q4 HX1.out.1.lt) (Za (HX1.out.2.trans (ZA q4 HX1.out.2.size)) (Za hm0 hm1)));have HLV2:=Zh (HLV.out.below q4);have HEA:=Zh (fun fv=>ZHe gl gg _ _ tov gr inv gs _ fv V HLV2.out);clear hV hm0 hm1 q1 q2 q3 q4 hb HX1 HLV hmm;go_wp2_with fail
 refine (HEA.out _).mono ?_;rintro e w6 ⟨rfl,hb6⟩;have hbl:b<V.heap.size:=by
  rcases Nat.lt_or_ge b V.heap.size with h|h
  ·exact h
  ·have:=HV.out.2.2.1
   rw[Array.getElem?_eq_none h] at this
   cases this
 have H6:=Zh (Za (HV.out.1.below hb6 HV.out.1.lt) (Za (HV.out.2.1.trans (ZA hb6 HV.out.2.1.size)) (Za ((hb6.block b hbl).trans HV.out.2.2.1) ((hb6.cell (cell_lt HV.out.2.2.2)).trans HV.out.2.2.2))));have HLV6:=Zh (HLV2.out.below hb6);have x4:w6.cell? ⟨w.heap.size,4,none⟩=some (.slice (some ⟨g,0,none⟩) 1 1):=(H6.out.1.cell 4).trans rfl;clear HEA HLV2 HV hb6 hbl;go_upto_region 9 with fail
 go_loopw [32] (fun v W=>∃k:Nat,k≤1∧v=.int .i64 k∧Hid (Below w6.heap.size w6 W)) (fun v _=>1-(intOf v).toNat)
 case atStart=>exact ⟨0,by omega,rfl,Below.refl _ _⟩
 case round=>
  obtain ⟨k,hk,rfl,HW⟩:=hrel;clear x4
  match k,hk with
  | 0,_=>
   have hl:=HLV6.out.below HW.out;have y0:wr.cell? ⟨gl,0,none⟩=some (.pointer (some ⟨gg,0,none⟩)):=(hl.lb.cell 0).trans rfl;have y6:wr.cell? ⟨gg,6,none⟩=some (.slice (some ⟨gr,0,none⟩) 1 1):=(hl.gb.cell 6).trans rfl;obtain ⟨rb,hrb,hrc⟩:=hl.rc.val 0 (by decide);have hrbt:rb=true:=by
    rw[ZEv] at hrb
    simpa using hrb.symm
   subst hrbt;obtain ⟨g',o',c',Ao,co,he,-,-,hg,hc⟩:=hl.bl_ (b:=0) (by decide);injection he with he1 he2 he3
   injection he1 with he1
   injection he1 with he4 he5
   subst he4 he5;have c0:wr.cell? ⟨g,0,none⟩=some (.slice Ao 0 co):=hc.c0;have c1:wr.cell? ⟨g,1,none⟩=some (.int .i64 3):=hc.c1;have c2:wr.cell? ⟨g,2,none⟩=some (.int .i64 (-1)):=hc.c2;have c3:wr.cell? ⟨g,3,none⟩=some (.int .i64 (-1)):=hc.c3;have c4:wr.cell? ⟨g,4,none⟩=some (.int .i64 0):=hc.c4;have c5:wr.cell? ⟨g,5,none⟩=some (.int .i64 0):=hc.c5;have y0':=ZJ y0 (.cells #[.slice Ao 0 co,.int .i64 3,.int .i64 (-1),.int .i64 (-1),.int .i64 0,.int .i64 0] 159);have y6':=ZJ y6 (.cells #[.slice Ao 0 co,.int .i64 3,.int .i64 (-1),.int .i64 (-1),.int .i64 0,.int .i64 0] 159);have z0':=ZJ hrc (.cells #[.slice Ao 0 co,.int .i64 3,.int .i64 (-1),.int .i64 (-1),.int .i64 0,.int .i64 0] 159);have HN:=Zh (HW.out.trans (ZA (ZN wr (.cells #[.slice Ao 0 co,.int .i64 3,.int .i64 (-1),.int .i64 (-1),.int .i64 0,.int .i64 0] 159)) HW.out.size));clear hl y0 y6 hrb hrc hg hc he2 he3;go_wp2_with fail
   go_roundw
   case rel=>exact ⟨1,by omega,by go_num,HN.out⟩
   case measure=>first|(simp[intOf];done)|(simp[intOf];omega)
  | 1,_=>
   have hx:=H6.out.1.below HW.out H6.out.1.lt;have x1:wr.cell? ⟨w.heap.size,1,none⟩=some (.int .i64 0):=(hx.cell 1).trans rfl;have x2:wr.cell? ⟨w.heap.size,2,none⟩=some (.int .i64 0):=(hx.cell 2).trans rfl;have hbl:b<w6.heap.size:=by
    rcases Nat.lt_or_ge b w6.heap.size with h|h
    ·exact h
    ·have:=H6.out.2.2.1
     rw[Array.getElem?_eq_none h] at this
     cases this
   have H7:=Zh (Za (H6.out.2.1.trans (ZA HW.out H6.out.2.1.size)) (Za ((HW.out.block b hbl).trans H6.out.2.2.1) ((HW.out.cell (cell_lt H6.out.2.2.2)).trans H6.out.2.2.2)));clear hx hbl HW HLV6 H6;go_wp2_with fail
   go_loopw [84] (fun v W=>v=.int .i64 0∧W=wr) (fun _ _=>0)
   case atStart=>exact ⟨rfl,rfl⟩
   case round=>
    obtain ⟨rfl,rfl⟩:=hrel;have hmk:(Instr.makeSlice 189 (.int .i64 0) (.int .i64 0)).run Tryz.prog wr=.ok (.slice (some ⟨wr.heap.size,0,none⟩) 0 0) (wr.alloc (.cells #[] 22)):=ZDI 0 (by decide) wr;have hal:=ZN wr (.cells #[] 22);have HA:=Zh (Za (H7.out.1.trans (ZA hal H7.out.1.size)) (Za ((hal.block b (by
     rcases Nat.lt_or_ge b wr.heap.size with h|h
     ·exact h
     ·have:=H7.out.2.1
      rw[Array.getElem?_eq_none h] at this
      cases this)).trans H7.out.2.1) (ZJ H7.out.2.2 (.cells #[] 22))))
    clear H7 hal;go_upto_region 22 with fail
    clear hmk x1 x2;obtain ⟨V2,hV2⟩:∃V,wr.alloc (.cells #[] 22)=V:=⟨_,rfl⟩
    rw[hV2] at HA;rw[hV2];obtain ⟨z9,hz9⟩:∃z,wr.heap.size=z:=⟨_,rfl⟩
    rw[hz9];clear hV2 hz9;have hrg:=run_range_map (P:=Tryz.prog) V2 263 _ _ b #[] 0 Tryz.underlying263 HA.out.2.1;have m0:=HA.out.2.2;go_upto_region 23 with fail
    have hal3:=ZN V2 (.mapIter (some b) 0 #[] 0);have hb3:(V2.alloc (.mapIter (some b) 0 #[] 0)).heap[b]? = some (.map #[] 0):=(hal3.block b (by
     rcases Nat.lt_or_ge b V2.heap.size with h|h
     ·exact h
     ·have:=HA.out.2.1
      rw[Array.getElem?_eq_none h] at this
      cases this)).trans HA.out.2.1
    have hr3:(V2.alloc (.mapIter (some b) 0 #[] 0)).heap[V2.heap.size]? = some (.mapIter (some b) 0 #[] 0):=by unfold World.alloc;exact Array.getElem?_push_size
    have hnx:∀ty,(Instr.next (.pointer (some ⟨V2.heap.size,0,none⟩)) false ty).run Tryz.prog (V2.alloc (.mapIter (some b) 0 #[] 0))=.ok (.tuple #[.bool false]) (V2.alloc (.mapIter (some b) 0 #[] 0)):=fun ty=>by
     rcases run_next_at (P:=Tryz.prog) (V2.alloc (.mapIter (some b) 0 #[] 0)) ty V2.heap.size b 0 0 #[] #[] 0 hr3 hb3 (by simp) (by omega) with ⟨-,h⟩|⟨e,he,-⟩
     ·exact h
     ·simp[leftOf] at he
    have HFIN:=Zh (HA.out.1.trans (ZA hal3 HA.out.1.size));clear hrg m0 hal3 hb3 hr3;obtain ⟨V3,hV3⟩:∃V,V2.alloc (.mapIter (some b) 0 #[] 0)=V:=⟨_,rfl⟩
    obtain ⟨r3',hr3'⟩:∃r,V2.heap.size=r:=⟨_,rfl⟩
    rw[hV3] at hnx HFIN ⊢;rw[hr3'] at hnx ⊢;clear hV3 hr3' HA
    go_loopw [110] (fun _ W=>W=V3) (fun _ _=>0)
    case atStart=>rfl
    case round=>
     subst hrel;go_wp2_with fail
     go_ret2
     exact ⟨⟨_,_,rfl⟩,HFIN.out⟩
end Go.Proofs.YtggmkofbikafhaaGreatDoor
namespace Go.Proofs.YtggmkofbikafhaaGreatDoor
open Go.RowKit
attribute [local go_sem] ZAo ZA1
theorem ZCV (A:Option Addr) (c:Nat) (pv:Value) (w:World) :
  Calls Tryz.prog 160 #[.slice A 0 c,pv] w fun e w'=>e=.returned (.tuple #[])∧w'=w:=by
 go_enter Tryz.func160,Tryz.ntmps160
 go_wp2_with fail
 go_loopw [7] (fun v W=>v=.int .i64 0∧W=w) (fun _ _=>0)
 case atStart=>exact ⟨rfl,rfl⟩
 case round=>
  obtain ⟨rfl,rfl⟩:=hrel;go_wp2_with fail
  go_end0
  exact ⟨rfl,rfl⟩
theorem lf_exR:exR ⟨3,-1,-1,0,0⟩=[]:=by decide
theorem ZJm (kp:Option Addr) (g:Nat) (w:World) (hb:ZAV w (.slice (some ⟨g,0,none⟩) 1 1) Lf.bl) (hk:Zj w) (ht:ZFM w) :
  Calls Tryz.prog 127 #[.pointer kp,.agg #[.string ⟨#[102]⟩,.int .i64 0,.int .i64 0,.slice none 0 0,.slice (some ⟨g,0,none⟩) 1 1]] w fun e w'=>e=.returned (.tuple #[])∧Below w.heap.size w w':=by
 have HIN:=Zh (fun W (h:Below w.heap.size w W)=>lf_in (hb.below h) (hk.below h));have HTZ:=Zh (fun W (h:Below w.heap.size w W)=>ht.below h);have HBL:=Zh (fun W (h:Below w.heap.size w W)=>hb.below h);have hal:=ZN w (.cells #[.pointer kp] 243);have hal2:=hal.trans (ZA (ZN (w.alloc (.cells #[.pointer kp] 243)) (.cells #[.string ⟨#[102]⟩,.int .i64 0,.int .i64 0,.slice none 0 0,.slice (some ⟨g,0,none⟩) 1 1] 82)) hal.size);have hx:=ZY (w:=w.alloc (.cells #[.pointer kp] 243)) (n:=w.heap.size+1) (by simp[World.size_alloc]) 82 #[.string ⟨#[102]⟩,.int .i64 0,.int .i64 0,.slice none 0 0,.slice (some ⟨g,0,none⟩) 1 1];clear hb hk ht hal;go_enter Tryz.func127,Tryz.ntmps127
 go_upto_region 1 with fail
 obtain ⟨w1,hw1⟩:∃W,(w.alloc (.cells #[.pointer kp] 243)).alloc (.cells #[.string ⟨#[102]⟩,.int .i64 0,.int .i64 0,.slice none 0 0,.slice (some ⟨g,0,none⟩) 1 1] 82)=W:=⟨_,rfl⟩
 obtain ⟨q,hq⟩:∃q,w.heap.size+1=q:=⟨_,rfl⟩
 rw[hw1,hq] at hx;rw[hw1] at hal2 ⊢;rw[hq];have H1:=Zh (Za hx hal2);have HRE:=Zh (ZC8 Lf (.slice none 0 0) (.slice (some ⟨g,0,none⟩) 1 1) w1 (HIN.out _ hal2));unfold fnv Lf at HRE;have x0:w1.cell? ⟨q,0,none⟩=some (.string ⟨#[102]⟩):=(hx.cell 0).trans rfl;have x1:w1.cell? ⟨q,1,none⟩=some (.int .i64 0):=(hx.cell 1).trans rfl;have x2:w1.cell? ⟨q,2,none⟩=some (.int .i64 0):=(hx.cell 2).trans rfl;have x3:w1.cell? ⟨q,3,none⟩=some (.slice none 0 0):=(hx.cell 3).trans rfl;have x4:w1.cell? ⟨q,4,none⟩=some (.slice (some ⟨g,0,none⟩) 1 1):=(hx.cell 4).trans rfl;clear hw1 hq hx hal2;go_wp2_with fail
 clear x0 x1 x2 x3 x4;refine HRE.out.mono ?_;rintro e w2 ⟨⟨hf,-⟩|⟨-,gr,rfl,hrow,-⟩,hb2⟩
 ·exact absurd ZGq (by have h9:fnB Lf=false:=hf;rw[h9];decide)
 have hrow':ZAH w2 gr [true]:=by rw[←ZEv];exact hrow
 obtain ⟨rb,hrb,hrc⟩:=hrow'.val 0 (by decide);have hrbt:rb=true:=by simpa using hrb.symm
 subst hrbt;have H2:=Zh (Za (H1.out.1.below hb2 H1.out.1.lt) (Za (H1.out.2.trans (ZA hb2 H1.out.2.size)) hrc));have x0:w2.cell? ⟨q,0,none⟩=some (.string ⟨#[102]⟩):=(H2.out.1.cell 0).trans rfl;have x1:w2.cell? ⟨q,1,none⟩=some (.int .i64 0):=(H2.out.1.cell 1).trans rfl;have x2:w2.cell? ⟨q,2,none⟩=some (.int .i64 0):=(H2.out.1.cell 2).trans rfl;have x3:w2.cell? ⟨q,3,none⟩=some (.slice none 0 0):=(H2.out.1.cell 3).trans rfl;have x4:w2.cell? ⟨q,4,none⟩=some (.slice (some ⟨g,0,none⟩) 1 1):=(H2.out.1.cell 4).trans rfl;have HLI:=Zh (ZEs Lf (.slice none 0 0) (.slice (some ⟨g,0,none⟩) 1 1) w2 (HIN.out _ H2.out.2.1) (HTZ.out _ H2.out.2.1));unfold fnv Lf at HLI;clear HRE hrow hrow' hrb hrc hb2 H1;go_wp2_with fail
 clear x0 x1 x2 x3 x4;refine HLI.out.mono ?_;rintro e w3 ⟨⟨hf,-⟩|⟨-,gI,gO,rfl,⟨BI,hri⟩,-,⟨BO,tO,hro,htl,ht0⟩,-⟩,hb3⟩
 ·exact absurd ZGq (by have h9:fnB Lf=false:=hf;rw[h9];decide)
 have hri':Zf w3 BI gI [[]]:=by rw[←lf_live];exact hri
 have htO:tO=[[]]:=by
  have h1:tO.length=1:=htl;have h2:=ht0 (by decide)
  match tO,h1 with
  | [a],_=>rw[h2 a (by simp)]
 subst htO;obtain ⟨vi,hvi,hoi⟩:=hri'.cell 0 (by decide);obtain ⟨vo,hvo,hoo⟩:=hro.cell 0 (by decide);obtain ⟨Ai,ci,rfl,-,-⟩:=hoi.form;obtain ⟨Ao,co,rfl,-,-⟩:=hoo.form;have hgr:gr<w2.heap.size:=cell_lt H2.out.2.2;have H3:=Zh (Za (H2.out.1.below hb3 H2.out.1.lt) (Za (H2.out.2.1.trans (ZA hb3 H2.out.2.1.size)) (Za ((hb3.cell (p:=⟨gr,0,none⟩) hgr).trans H2.out.2.2) (Za hvi hvo))));have x4:w3.cell? ⟨q,4,none⟩=some (.slice (some ⟨g,0,none⟩) 1 1):=(H3.out.1.cell 4).trans rfl;have hal:=ZN w3 (.cells #[.slice (some ⟨gI,0,none⟩) 1 1,.slice (some ⟨gO,0,none⟩) 1 1] 237);have hlv:=Blk.new w3 237 #[.slice (some ⟨gI,0,none⟩) 1 1,.slice (some ⟨gO,0,none⟩) 1 1];clear HLI hri hri' hro htl ht0 hoi hoo hb3 hgr H2 hvi hvo;go_upto_region 3 with fail
 obtain ⟨w4,hw4⟩:∃W,w3.alloc (.cells #[.slice (some ⟨gI,0,none⟩) 1 1,.slice (some ⟨gO,0,none⟩) 1 1] 237)=W:=⟨_,rfl⟩
 obtain ⟨gl,hgl⟩:∃x,w3.heap.size=x:=⟨_,rfl⟩
 rw[hw4] at hal hlv ⊢;rw[hgl] at hlv ⊢;have H4:=Zh (Za (H3.out.2.1.trans (ZA hal H3.out.2.1.size)) (Za ((hal.cell (cell_lt H3.out.2.2.1)).trans H3.out.2.2.1) (Za ((hal.cell (cell_lt H3.out.2.2.2.1)).trans H3.out.2.2.2.1) (Za ((hal.cell (cell_lt H3.out.2.2.2.2)).trans H3.out.2.2.2.2) hlv))));have y4:w4.cell? ⟨q,4,none⟩=some (.slice (some ⟨g,0,none⟩) 1 1):=(hal.cell (cell_lt x4)).trans x4;clear hw4 hgl hal hlv x4 H3;go_upto_region 5 with fail
 clear y4
 go_loopw [29] (fun v W=>∃k:Nat,k≤1∧v=.int .i64 k∧Hid (Below w4.heap.size w4 W)) (fun v _=>1-(intOf v).toNat)
 case atStart=>exact ⟨0,by omega,rfl,Below.refl _ _⟩
 case round=>
  obtain ⟨k,hk,rfl,HW⟩:=hrel
  match k,hk with
  | 0,_=>
   obtain ⟨g',o',c',he,-,-,-,hc⟩:=(HBL.out wr (H4.out.1.trans (ZA HW.out H4.out.1.size))).open_ (by decide);injection he with he1 he2 he3
   injection he1 with he1
   injection he1 with he4 he5
   subst he4 he5;obtain ⟨ov,hov⟩:=hc 0 (by decide);have c0:wr.cell? ⟨g,0,none⟩=some ov:=hov.c0;have c1:wr.cell? ⟨g,1,none⟩=some (.int .i64 3):=hov.c1;have c2:wr.cell? ⟨g,2,none⟩=some (.int .i64 (-1)):=hov.c2;have c3:wr.cell? ⟨g,3,none⟩=some (.int .i64 (-1)):=hov.c3;have c4:wr.cell? ⟨g,4,none⟩=some (.int .i64 0):=hov.c4;have c5:wr.cell? ⟨g,5,none⟩=some (.int .i64 0):=hov.c5;obtain ⟨As,cs,hovf⟩:∃A c,ov=.slice A 0 c:=by
    obtain ⟨vs,-,h9,-⟩:=hov.os;obtain ⟨A,c,e,-,-⟩:=h9.form;exact ⟨A,c,e⟩
   subst hovf;have q1:=(HW.out.cell (cell_lt H4.out.2.1)).trans H4.out.2.1;have q2:=(HW.out.cell (cell_lt H4.out.2.2.1)).trans H4.out.2.2.1;have q3:=(HW.out.cell (cell_lt H4.out.2.2.2.1)).trans H4.out.2.2.2.1;have hlv:=H4.out.2.2.2.2.below HW.out H4.out.2.2.2.2.lt;have q4:wr.cell? ⟨gl,0,none⟩=some (.slice (some ⟨gI,0,none⟩) 1 1):=(hlv.cell 0).trans rfl;have q5:wr.cell? ⟨gl,1,none⟩=some (.slice (some ⟨gO,0,none⟩) 1 1):=(hlv.cell 1).trans rfl;have q1':=ZJ q1 (.cells #[.slice As 0 cs,.int .i64 3,.int .i64 (-1),.int .i64 (-1),.int .i64 0,.int .i64 0] 159);have q2':=ZJ q2 (.cells #[.slice As 0 cs,.int .i64 3,.int .i64 (-1),.int .i64 (-1),.int .i64 0,.int .i64 0] 159);have q3':=ZJ q3 (.cells #[.slice As 0 cs,.int .i64 3,.int .i64 (-1),.int .i64 (-1),.int .i64 0,.int .i64 0] 159);have q4':=ZJ q4 (.cells #[.slice As 0 cs,.int .i64 3,.int .i64 (-1),.int .i64 (-1),.int .i64 0,.int .i64 0] 159);have q5':=ZJ q5 (.cells #[.slice As 0 cs,.int .i64 3,.int .i64 (-1),.int .i64 (-1),.int .i64 0,.int .i64 0] 159);have hal:=ZN wr (.cells #[.slice As 0 cs,.int .i64 3,.int .i64 (-1),.int .i64 (-1),.int .i64 0,.int .i64 0] 159);have HN:=Zh (HW.out.trans (ZA hal HW.out.size));clear hc hov he2 he3 q1 q2 q3 q4 q5 hlv hal;have HEX:=Zh (fun W=>ZCC ⟨3,-1,-1,0,0⟩ W);unfold exv at HEX;rw[lf_exR] at HEX;go_wp2_with fail
   refine (ZCV _ _ _ _).mono ?_;rintro e wA ⟨rfl,rfl⟩;go_wp2_with fail
   refine (ZCV _ _ _ _).mono ?_;rintro e wA ⟨rfl,rfl⟩;go_wp2_with fail
   go_loopw [56] (fun v W=>v=.int .i64 0∧W=wr.alloc (.cells #[.slice As 0 cs,.int .i64 3,.int .i64 (-1),.int .i64 (-1),.int .i64 0,.int .i64 0] 159)) (fun _ _=>0)
   case atStart=>exact ⟨rfl,rfl⟩
   case round=>
    obtain ⟨rfl,rfl⟩:=hrel;clear q1' q2' q3' q4' q5' c0 c1 c2 c3 c4 c5;go_wp2_with fail
    refine (HEX.out _).mono ?_;rintro e w8 ⟨⟨a,b,rfl,⟨ha,-⟩,⟨hb,-⟩⟩,hb8⟩;obtain ⟨Aa,ca,rfl,-,-⟩:=ha.form;obtain ⟨Ab,cb,rfl,-,-⟩:=hb.form;have HN8:=Zh (HN.out.trans (ZA hb8 HN.out.size));have t1:w8.cell? ⟨_,1,none⟩=some (.int .i64 3):=(((Blk.new wr 159 #[.slice As 0 cs,.int .i64 3,.int .i64 (-1),.int .i64 (-1),.int .i64 0,.int .i64 0]).below hb8 (Blk.new wr _ _).lt).cell 1).trans rfl;clear ha hb hb8 HN HEX;dsimp only[List.length_nil];go_wp2_with fail
    refine (ZCV _ _ _ _).mono ?_;rintro e wA ⟨rfl,rfl⟩;go_wp2_with fail
    go_roundw
    case rel=>exact ⟨1,by omega,by go_num,HN8.out⟩
    case measure=>first|(simp[intOf];done)|(simp[intOf];omega)
  | 1,_=>
   have HFIN:=Zh (H4.out.1.trans (ZA HW.out H4.out.1.size));clear H4 HW;go_wp2_with fail
   go_end0
   exact ⟨rfl,HFIN.out⟩
end Go.Proofs.YtggmkofbikafhaaGreatDoor
namespace Go.Proofs.YtggmkofbikafhaaGreatDoor
open Go.RowKit
theorem ZJt:setF Lf 0=false:=by decide +kernel
theorem ZIl (g:Nat) (w:World) (h:ZG9 w Lf (.slice none 0 0) (.slice (some ⟨g,0,none⟩) 1 1)) (ht:ZFM w) :
  Calls Tryz.prog 129 #[.agg #[.string ⟨#[102]⟩,.int .i64 0,.int .i64 0,.slice none 0 0,.slice (some ⟨g,0,none⟩) 1 1]] w fun e w'=>e=.returned (.tuple #[.slice none 0 0,.int .i64 0])∧Below w.heap.size w w':=by
 have he:fnv Lf (.slice none 0 0) (.slice (some ⟨g,0,none⟩) 1 1)=.agg #[.string ⟨#[102]⟩,.int .i64 0,.int .i64 0,.slice none 0 0,.slice (some ⟨g,0,none⟩) 1 1]:=by unfold fnv Lf;rfl
 have hb1:=ZN w (.cells #[.string ⟨#[102]⟩,.int .i64 0,.int .i64 0,.slice none 0 0,.slice (some ⟨g,0,none⟩) 1 1] 82);have HBX:=Zh hb1;have HLK:=Zh (ZII Lf (.slice none 0 0) (.slice (some ⟨g,0,none⟩) 1 1) _ (h.below hb1) (ht.below hb1));rw[he] at HLK;clear h ht hb1 he;go_enter Tryz.func129,Tryz.ntmps129
 go_wp2_with fail
 refine HLK.out.mono ?_;rintro e w1 ⟨⟨hf0,rfl⟩|⟨hf,gp,rv,tov,inv,ouv,rfl,hp⟩,hb1⟩
 ·exact absurd ZGq (by rw[hf0];decide)
 ·have HB1:=Zh (HBX.out.trans (ZA hb1 HBX.out.size))
  have p4:w1.cell? ⟨gp,4,none⟩=some (.slice (some ⟨g,0,none⟩) 1 1):=(hp.pb.cell 4).trans rfl;have HIS:=Zh (fun W (hW:Below w1.heap.size w1 W)=>ZJ5 gp Lf _ _ rv tov inv ouv 0 (by decide) W (hp.below hW));rw[ZJt] at HIS;clear hb1 hp hf HBX HLK;go_wp2_with fail
  go_loopw [26,6] (fun i ov wr=>∃k:Nat,k≤1∧i=.int .i64 k∧ov=.slice none 0 0∧Hid (Below w1.heap.size w1 wr)) (fun i _ _=>1-(intOf i).toNat)
  case atStart=>exact ⟨0,by omega,rfl,rfl,Below.refl _ _⟩
  case round=>
   clear p4;obtain ⟨k,hk,rfl,rfl,HW⟩:=hrel
   match k,hk with
   | 0,_=>
    have HI:Hid (Calls Tryz.prog 166 #[.pointer (some ⟨gp,0,none⟩),.int .i64 0] wr fun e w'=>e=.returned (.bool false)∧Below wr.heap.size wr w'):=Zh (HIS.out wr HW.out);go_wp2_with fail
    refine HI.out.mono ?_;rintro e w2 ⟨rfl,hb2⟩;have HN:=Zh (HW.out.trans (ZA hb2 HW.out.size));clear hb2 HW HI;go_wp2_with fail
    go_roundw
    case rel=>exact ⟨1,by omega,by go_num,rfl,HN.out⟩
    case measure=>first|(simp[intOf];done)|(simp[intOf];omega)
   | 1,_=>
    have HFIN:=Zh (HB1.out.trans (ZA HW.out HB1.out.size));clear HW HB1;go_wp2_with fail
    go_ret2
    exact ⟨rfl,HFIN.out⟩
end Go.Proofs.YtggmkofbikafhaaGreatDoor
