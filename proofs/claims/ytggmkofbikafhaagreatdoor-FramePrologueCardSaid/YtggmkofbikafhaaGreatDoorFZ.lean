/- Walks and plain laws on the way to FramePrologue (KK, KH, KU, FU, FV, FZ). Conditions: those that each theorem states. -/
import Derived.Test.YtggmkofbikafhaaGreatDoorFT
import Derived.Test.YtggmkofbikafhaaGreatDoorKA
set_option linter.unusedVariables false
set_option linter.unusedSimpArgs false
set_option maxRecDepth 100000
set_option maxHeartbeats 40000000
namespace Go.Proofs.YtggmkofbikafhaaGreatDoor
open Go.RowKit
def lfA (g:Nat):Array Value:=#[.string ⟨#[102]⟩,.int .i64 0,.int .i64 0,.slice none 0 0,.slice (some ⟨g,0,none⟩) 1 1]
structure KwS (w W:World) (q p g:Nat) (v0 v1 v2:Value):Prop where
 x:Blk W q 82 (lfA g)
 r:Blk W (q+1) 193 #[.slice none 0 0,.slice none 0 0,.slice none 0 0,.slice none 0 0]
 k:Blk W p 193 #[v0,v1,v2,.slice none 0 0]
 b:Below w.heap.size w W
 q0:w.heap.size≤q
 qp:q+1<p
theorem KwS.bel {w W W':World} {q p g:Nat} {v0 v1 v2:Value} (h:KwS w W q p g v0 v1 v2) (hb:Below W.heap.size W W'):KwS w W' q p g v0 v1 v2:=
 ⟨h.x.below hb h.x.lt,h.r.below hb h.r.lt,h.k.below hb h.k.lt,h.b.trans (ZA hb h.b.size),h.q0,h.qp⟩
theorem KwS.cells {w W:World} {q p g:Nat} {v0 v1 v2:Value} (h:KwS w W q p g v0 v1 v2):W.cell? ⟨q,0,none⟩=some (.string ⟨#[102]⟩)∧W.cell? ⟨q,1,none⟩=some (.int .i64 0)∧W.cell? ⟨q,2,none⟩=some (.int .i64 0)∧W.cell? ⟨q,3,none⟩=some (.slice none 0 0)∧W.cell? ⟨q,4,none⟩=some (.slice (some ⟨g,0,none⟩) 1 1):=
 ⟨(h.x.cell 0).trans rfl,(h.x.cell 1).trans rfl,(h.x.cell 2).trans rfl,(h.x.cell 3).trans rfl,(h.x.cell 4).trans rfl⟩
theorem KwS.put0 {w W:World} {q p g:Nat} {v0 v1 v2:Value} (h:KwS w W q p g v0 v1 v2) (u:Value):KwS w (W.setCell ⟨p,0,none⟩ u) q p g u v1 v2:=by
 have hk:ZE (fun i=>i=p) W (W.setCell ⟨p,0,none⟩ u):=(ZE.refl (fun i=>i=p) W).setCell (p:=⟨p,0,none⟩) (Or.inr rfl) _;have h1:=h.qp;have h2:=h.q0;have h3:=h.k.lt;exact ⟨h.x.keeps hk (by omega),h.r.keeps hk (by omega),h.k.set_ 0 u,h.b.trans (hk.toBelow h.b.size (fun i hi e=>by omega)),h.q0,h.qp⟩
theorem ZJ0 (g:Nat) (w:World) (hb:ZAV w (.slice (some ⟨g,0,none⟩) 1 1) Lf.bl) (hk:Zj w) (ht:ZFM w) :
  Calls Tryz.prog 92 #[.agg #[.string ⟨#[102]⟩,.int .i64 0,.int .i64 0,.slice none 0 0,.slice (some ⟨g,0,none⟩) 1 1]] w fun e w'=>(∃A0 n0 c0 A1 n1 c1 A2 n2 c2 A3 n3 c3,e=.returned (.tuple #[.agg #[.slice A0 n0 c0,.slice A1 n1 c1,.slice A2 n2 c2,.slice A3 n3 c3],.int .i64 0]))∧Below w.heap.size w w':=by
 have HIN:=Zh (fun W (h:Below w.heap.size w W)=>lf_in (hb.below h) (hk.below h));have HTZ:=Zh (fun W (h:Below w.heap.size w W)=>ht.below h);have HKE:=Zh (fun W (h:Below w.heap.size w W)=>hk.below h);have HBL:=Zh (fun W (h:Below w.heap.size w W)=>hb.below h);have hal:=ZN w (.cells (lfA g) 82);have hal2:=hal.trans (ZA (ZN (w.alloc (.cells (lfA g) 82)) (.cells #[.slice none 0 0,.slice none 0 0,.slice none 0 0,.slice none 0 0] 193)) hal.size);have hx:=(Blk.new w 82 (lfA g)).alloc (.cells #[.slice none 0 0,.slice none 0 0,.slice none 0 0,.slice none 0 0] 193);have hr:=ZY (w:=w.alloc (.cells (lfA g) 82)) (n:=w.heap.size+1) (by simp[World.size_alloc]) 193 #[.slice none 0 0,.slice none 0 0,.slice none 0 0,.slice none 0 0];unfold lfA at hal2 hx hr;clear hb hk ht hal;go_enter Tryz.func92,Tryz.ntmps92
 go_upto_region 1 with fail
 obtain ⟨w1,hw1⟩:∃W,(w.alloc (.cells #[.string ⟨#[102]⟩,.int .i64 0,.int .i64 0,.slice none 0 0,.slice (some ⟨g,0,none⟩) 1 1] 82)).alloc (.cells #[.slice none 0 0,.slice none 0 0,.slice none 0 0,.slice none 0 0] 193)=W:=⟨_,rfl⟩
 rw[hw1] at hal2 hx hr ⊢;obtain ⟨q,hq⟩:∃q,w.heap.size=q:=⟨_,rfl⟩
 rw[hq] at hx hr ⊢;have HQ:=Zh hq;have H1:=Zh (Za hx (Za hr hal2));have HCF:=Zh (check_any Lf (.slice none 0 0) (.slice (some ⟨g,0,none⟩) 1 1) w1 (HIN.out _ hal2));have he:errV Lf=.int .i64 0:=by rw[errV,ZGq];rfl
 rw[he] at HCF;unfold fnv Lf at HCF;have x0:w1.cell? ⟨q,0,none⟩=some (.string ⟨#[102]⟩):=(hx.cell 0).trans rfl;have x1:w1.cell? ⟨q,1,none⟩=some (.int .i64 0):=(hx.cell 1).trans rfl;have x2:w1.cell? ⟨q,2,none⟩=some (.int .i64 0):=(hx.cell 2).trans rfl;have x3:w1.cell? ⟨q,3,none⟩=some (.slice none 0 0):=(hx.cell 3).trans rfl;have x4:w1.cell? ⟨q,4,none⟩=some (.slice (some ⟨g,0,none⟩) 1 1):=(hx.cell 4).trans rfl;clear hw1 hq hx hal2 hr he;go_wp2_with fail
 clear x0 x1 x2 x3 x4;refine HCF.out.mono ?_;rintro e w2 ⟨rfl,hb2⟩;have H2:=Zh (Za (H1.out.1.below hb2 H1.out.1.lt) (Za (H1.out.2.1.below hb2 H1.out.2.1.lt) (H1.out.2.2.trans (ZA hb2 H1.out.2.2.size))));have x2:w2.cell? ⟨q,2,none⟩=some (.int .i64 0):=(H2.out.1.cell 2).trans rfl;clear HCF hb2 H1;go_upto_region 4 with fail
 have hmk:∀W,(Instr.makeSlice 190 (.int .i64 0) (.int .i64 0)).run Tryz.prog W=.ok (.slice (some ⟨W.heap.size,0,none⟩) 0 0) (W.alloc (.cells #[] 4)):=fun W=>ZEJ 0 (by decide) W;have x2a:=fun o=>ZJ x2 o;have x2b:=fun o o2=>ZJ (ZJ x2 o) o2
 go_cut [5] from 34 to 40 (fun s5 wx=>∃p A1 n1 c1 A2 n2 c2,s5=.pointer (some ⟨p,0,none⟩)∧Hid (KwS w wx q p g (.slice none 0 0) (.slice A1 n1 c1) (.slice A2 n2 c2)))
 case first=>
  go_region
  all_goals
   go_wp2_with fail
   go_meet
   exact ⟨_,_,_,_,_,_,_,rfl,⟨(((H2.out.1.alloc _).alloc _).alloc _).drew,(((H2.out.2.1.alloc _).alloc _).alloc _).drew,by first|exact blk3a _ _ _ _ _|exact blk3b _ _ _ _ _|exact blk3c _ _ _ _ _,H2.out.2.2.trans (ZA (bel3 _ _ _ _) H2.out.2.2.size),by have:=HQ.out;omega,by have:=H2.out.2.1.lt;omega⟩⟩
 case rest=>
  obtain ⟨p,A1,n1,c1,A2,n2,c2,rfl,HK⟩:=hcut;clear x2 x2a x2b H2 hmk;obtain ⟨y0,y1,y2,y3,y4⟩:=HK.out.cells;have k0:wc.cell? ⟨p,0,none⟩=some (.slice none 0 0):=(HK.out.k.cell 0).trans rfl;have HCL:=Zh (ZKe g wc (HBL.out _ HK.out.b) (HKE.out _ HK.out.b));go_wp2_with fail
  clear y0 y1 y2 y3 y4 k0;refine HCL.out.mono ?_;rintro e w5 ⟨⟨Ac,cc,rfl⟩,hb5⟩;have HK5:=Zh (HK.out.bel hb5);have k0:w5.cell? ⟨p,0,none⟩=some (.slice none 0 0):=(HK5.out.k.cell 0).trans rfl;have f0:=HK5.out.k.frozen 0;clear HCL HK hb5;go_upto_region 6 with fail
  have HK6:=Zh (HK5.out.put0 (.slice Ac 0 cc));obtain ⟨w6,hw6⟩:∃W,w5.setCell ⟨p,0,none⟩ (.slice Ac 0 cc)=W:=⟨_,rfl⟩
  rw[hw6] at HK6 ⊢;clear hw6 k0 f0 HK5;obtain ⟨y0,y1,y2,y3,y4⟩:=HK6.out.cells;go_wp2_with fail
  go_loopw [49] (fun v W=>v=.int .i64 0∧W=w6) (fun _ _=>0)
  case atStart=>exact ⟨rfl,rfl⟩
  case round=>
   obtain ⟨rfl,rfl⟩:=hrel;have HNE:=Zh (ZJm (some ⟨p,0,none⟩) g wr (HBL.out _ HK6.out.b) (HKE.out _ HK6.out.b) (HTZ.out _ HK6.out.b));go_wp2_with fail
   clear y0 y1 y2 y3 y4;refine HNE.out.mono ?_;rintro e w7 ⟨rfl,hb7⟩;have HK7:=Zh (HK6.out.bel hb7);clear HNE HK6 hb7;obtain ⟨y0,y1,y2,y3,y4⟩:=HK7.out.cells;have HAC:=Zh (ZIo g w7 (HBL.out _ HK7.out.b) (HKE.out _ HK7.out.b) (HTZ.out _ HK7.out.b));go_wp2_with fail
   clear y0 y1 y2 y3 y4;refine HAC.out.mono ?_;rintro e w8 ⟨⟨Aa,ca,rfl⟩,hb8⟩;have HK8:=Zh (HK7.out.bel hb8);clear HAC HK7 hb8;go_wp2_with fail
   go_loopw [92] (fun v W=>v=.int .i64 0∧W=w8) (fun _ _=>0)
   case atStart=>exact ⟨rfl,rfl⟩
   case round=>
    obtain ⟨rfl,rfl⟩:=hrel;obtain ⟨y0,y1,y2,y3,y4⟩:=HK8.out.cells;have HAN:=Zh (ZIl g wr (HIN.out _ HK8.out.b) (HTZ.out _ HK8.out.b));go_wp2_with fail
    clear y0 y1 y2 y3 y4;refine HAN.out.mono ?_;rintro e w9 ⟨rfl,hb9⟩;have HK9:=Zh (HK8.out.bel hb9);clear HAN HK8 hb9;obtain ⟨y0,y1,y2,y3,y4⟩:=HK9.out.cells;have HLI:=Zh (ZEs Lf (.slice none 0 0) (.slice (some ⟨g,0,none⟩) 1 1) w9 (HIN.out _ HK9.out.b) (HTZ.out _ HK9.out.b));unfold fnv Lf at HLI;go_wp2_with fail
    clear y0 y1 y2 y3 y4;refine HLI.out.mono ?_;rintro e w10 ⟨⟨hf,-⟩|⟨-,gI,gO,rfl,-⟩,hb10⟩
    ·exact absurd ZGq (by have h9:fnB Lf=false:=hf;rw[h9];decide)
    have HK10:=Zh (HK9.out.bel hb10);clear HLI HK9 hb10;have hal:=ZN w10 (.cells #[.slice (some ⟨gI,0,none⟩) 1 1,.slice (some ⟨gO,0,none⟩) 1 1] 237);go_upto_region 26 with fail
    obtain ⟨w11,hw11⟩:∃W,w10.alloc (.cells #[.slice (some ⟨gI,0,none⟩) 1 1,.slice (some ⟨gO,0,none⟩) 1 1] 237)=W:=⟨_,rfl⟩
    rw[hw11] at hal ⊢;have HK11:=Zh (HK10.out.bel hal);clear hw11 hal HK10;go_wp2_with fail
    go_loopw [113] (fun v W=>v=.int .i64 0∧W=w11) (fun _ _=>0)
    case atStart=>exact ⟨rfl,rfl⟩
    case round=>
     obtain ⟨rfl,rfl⟩:=hrel;have k0:wr.cell? ⟨p,0,none⟩=some (.slice Ac 0 cc):=(HK11.out.k.cell 0).trans rfl;have k1:wr.cell? ⟨p,1,none⟩=some (.slice A1 n1 c1):=(HK11.out.k.cell 1).trans rfl;have k2:wr.cell? ⟨p,2,none⟩=some (.slice A2 n2 c2):=(HK11.out.k.cell 2).trans rfl;have k3:wr.cell? ⟨p,3,none⟩=some (.slice none 0 0):=(HK11.out.k.cell 3).trans rfl;have r0:wr.cell? ⟨q+1,0,none⟩=some (.slice none 0 0):=(HK11.out.r.cell 0).trans rfl;have r1:wr.cell? ⟨q+1,1,none⟩=some (.slice none 0 0):=(HK11.out.r.cell 1).trans rfl;have r2:wr.cell? ⟨q+1,2,none⟩=some (.slice none 0 0):=(HK11.out.r.cell 2).trans rfl;have r3:wr.cell? ⟨q+1,3,none⟩=some (.slice none 0 0):=(HK11.out.r.cell 3).trans rfl;have f0:=HK11.out.r.frozen 0;have f1:=HK11.out.r.frozen 1;have f2:=HK11.out.r.frozen 2;have f3:=HK11.out.r.frozen 3;have hB3:=(((HK11.out.r.set_ 0 (.slice Ac 0 cc)).set_ 1 (.slice A1 n1 c1)).set_ 2 (.slice A2 n2 c2)).set_ 3 (.slice none 0 0);have d0:=(hB3.cell 0).trans rfl;have d1:=(hB3.cell 1).trans rfl;have d2:=(hB3.cell 2).trans rfl;have d3:=(hB3.cell 3).trans rfl;have HFIN:=Zh ((((HK11.out.b.setCell (p:=⟨q+1,0,none⟩) (by have:=HK11.out.q0;show _≤q+1;omega) (.slice Ac 0 cc)).setCell (p:=⟨q+1,1,none⟩) (by have:=HK11.out.q0;show _≤q+1;omega) (.slice A1 n1 c1)).setCell (p:=⟨q+1,2,none⟩) (by have:=HK11.out.q0;show _≤q+1;omega) (.slice A2 n2 c2)).setCell (p:=⟨q+1,3,none⟩) (by have:=HK11.out.q0;show _≤q+1;omega) (.slice none 0 0));clear HK11 hB3;go_wp2_with fail
     refine bodyPost_ret (v:=.tuple #[.agg #[.slice Ac 0 cc,.slice A1 n1 c1,.slice A2 n2 c2,.slice none 0 0],.int .i64 0]) (by simp[results,Tryz.results92,go_sem,d0,d1,d2,d3]) rfl ⟨⟨_,_,_,_,_,_,_,_,_,_,_,_,rfl⟩,HFIN.out⟩
theorem ZG2 (g:Nat) (w:World) (hb:ZAV w (.slice (some ⟨g,0,none⟩) 1 1) Lf.bl) (hk:Zj w) (ht:ZFM w) :
  Calls Tryz.prog 49 #[.agg #[.string ⟨#[102]⟩,.int .i64 0,.int .i64 0,.slice none 0 0,.slice (some ⟨g,0,none⟩) 1 1],.agg #[.slice none 0 0,.int .i64 0]] w fun e w'=>e=.returned (.int .i64 0)∧Below w.heap.size w w':=by
 have HTZ:=Zh (fun W (h:Below w.heap.size w W)=>ht.below h);have HKE:=Zh (fun W (h:Below w.heap.size w W)=>hk.below h);have HBL:=Zh (fun W (h:Below w.heap.size w W)=>hb.below h);have hal:=ZN w (.cells (lfA g) 82);have hal2:=hal.trans (ZA (ZN (w.alloc (.cells (lfA g) 82)) (.cells #[.slice none 0 0,.int .i64 0] 85)) hal.size);have hx:=(Blk.new w 82 (lfA g)).alloc (.cells #[.slice none 0 0,.int .i64 0] 85);have hr:=ZY (w:=w.alloc (.cells (lfA g) 82)) (n:=w.heap.size+1) (by simp[World.size_alloc]) 85 #[.slice none 0 0,.int .i64 0];unfold lfA at hal2 hx hr;clear hb hk ht hal;go_enter Tryz.func49,Tryz.ntmps49
 go_upto_region 1 with fail
 obtain ⟨w1,hw1⟩:∃W,(w.alloc (.cells #[.string ⟨#[102]⟩,.int .i64 0,.int .i64 0,.slice none 0 0,.slice (some ⟨g,0,none⟩) 1 1] 82)).alloc (.cells #[.slice none 0 0,.int .i64 0] 85)=W:=⟨_,rfl⟩
 rw[hw1] at hal2 hx hr ⊢;obtain ⟨q,hq⟩:∃q,w.heap.size=q:=⟨_,rfl⟩
 rw[hq] at hx hr ⊢;have H1:=Zh (Za hx (Za hr hal2));have HKN:=Zh (ZJ0 g w1 (HBL.out _ hal2) (HKE.out _ hal2) (HTZ.out _ hal2));have x0:w1.cell? ⟨q,0,none⟩=some (.string ⟨#[102]⟩):=(hx.cell 0).trans rfl;have x1:w1.cell? ⟨q,1,none⟩=some (.int .i64 0):=(hx.cell 1).trans rfl;have x2:w1.cell? ⟨q,2,none⟩=some (.int .i64 0):=(hx.cell 2).trans rfl;have x3:w1.cell? ⟨q,3,none⟩=some (.slice none 0 0):=(hx.cell 3).trans rfl;have x4:w1.cell? ⟨q,4,none⟩=some (.slice (some ⟨g,0,none⟩) 1 1):=(hx.cell 4).trans rfl;clear hw1 hq hx hal2 hr;go_wp2_with fail
 clear x0 x1 x2 x3 x4;refine HKN.out.mono ?_;rintro e w2 ⟨⟨A0,n0,c0,A1,n1,c1,A2,n2,c2,A3,n3,c3,rfl⟩,hb2⟩;have hx2:=H1.out.1.below hb2 H1.out.1.lt;have hr2:=H1.out.2.1.below hb2 H1.out.2.1.lt;have hal:=ZN w2 (.cells #[.slice A0 n0 c0,.slice A1 n1 c1,.slice A2 n2 c2,.slice A3 n3 c3] 193);have HFIN:=Zh ((H1.out.2.2.trans (ZA hb2 H1.out.2.2.size)).trans (ZA hal (H1.out.2.2.trans (ZA hb2 H1.out.2.2.size)).size));have hx3:=hx2.below hal hx2.lt;have hr3:=hr2.below hal hr2.lt;go_upto_region 2 with fail
 obtain ⟨w3,hw3⟩:∃W,w2.alloc (.cells #[.slice A0 n0 c0,.slice A1 n1 c1,.slice A2 n2 c2,.slice A3 n3 c3] 193)=W:=⟨_,rfl⟩
 rw[hw3] at hal hx3 hr3 HFIN ⊢;have y2:w3.cell? ⟨q,2,none⟩=some (.int .i64 0):=(hx3.cell 2).trans rfl;have a0:w3.cell? ⟨q+1,0,none⟩=some (.slice none 0 0):=(hr3.cell 0).trans rfl;have a1:w3.cell? ⟨q+1,1,none⟩=some (.int .i64 0):=(hr3.cell 1).trans rfl;clear hw3 hx2 hr2 hal hx3 hr3 hb2 H1 HKN;go_wp2_with fail
 go_loopw [37] (fun v W=>v=.int .i64 0∧W=w3) (fun _ _=>0)
 case atStart=>exact ⟨rfl,rfl⟩
 case round=>
  obtain ⟨rfl,rfl⟩:=hrel;go_wp2_with fail
  go_loopw [70] (fun v W=>v=.int .i64 0∧W=wr) (fun _ _=>0)
  case atStart=>exact ⟨rfl,rfl⟩
  case round=>
   obtain ⟨rfl,rfl⟩:=hrel;clear y2 a0 a1;go_wp2_with fail
   go_ret;exact ⟨rfl,HFIN.out⟩
theorem used_any (w:World):Calls Tryz.prog 95 #[.agg #[.slice none 0 0,.int .i64 0]] w fun e w'=>e=.returned (.slice none 0 0)∧Below w.heap.size w w':=by
 have hal:=ZN w (.cells #[.slice none 0 0,.int .i64 0] 85);have HAL:=Zh hal;clear hal;go_enter Tryz.func95,Tryz.ntmps95
 go_wp2_with fail
 go_loopw [9,3] (fun v ov W=>v=.int .i64 0∧ov=.slice none 0 0∧W=w.alloc (.cells #[.slice none 0 0,.int .i64 0] 85)) (fun _ _ _=>0)
 case atStart=>exact ⟨rfl,rfl,rfl⟩
 case round=>
  obtain ⟨rfl,rfl,rfl⟩:=hrel;go_wp2_with fail
  refine (Tryz.slices_Sort_int_none none 0 _).mono ?_;rintro e w1 ⟨rfl,rfl⟩;go_wp2_with fail
  refine (Tryz.slices_Compact_int_empty none 0 _).mono ?_;rintro e w1 ⟨rfl,rfl⟩;go_wp2_with fail
  go_ret;exact ⟨rfl,HAL.out⟩
theorem ZBO (w:World):Calls Tryz.prog 51 #[.agg #[.slice none 0 0,.int .i64 0]] w fun e w'=>e=.returned (.slice none 0 0)∧Below w.heap.size w w':=by
 have hal:=ZN w (.cells #[.slice none 0 0,.int .i64 0] 85);have HAL:=Zh hal;have HU:=Zh (used_any (w.alloc (.cells #[.slice none 0 0,.int .i64 0] 85)));clear hal;go_enter Tryz.func51,Tryz.ntmps51
 go_wp2_with fail
 refine HU.out.mono ?_;rintro e w1 ⟨rfl,hb1⟩;have HF:=Zh (HAL.out.trans (ZA hb1 HAL.out.size));clear HAL HU hb1;go_wp2_with fail
 go_loopw [9,3] (fun v ov W=>v=.int .i64 0∧ov=.slice none 0 0∧W=w1) (fun _ _ _=>0)
 case atStart=>exact ⟨rfl,rfl,rfl⟩
 case round=>
  obtain ⟨rfl,rfl,rfl⟩:=hrel;go_wp2_with fail
  go_ret;exact ⟨rfl,HF.out⟩
theorem outs_any (g:Nat) (w:World) (hb:ZAV w (.slice (some ⟨g,0,none⟩) 1 1) Lf.bl) (hk:Zj w) :
  Calls Tryz.prog 50 #[.agg #[.string ⟨#[102]⟩,.int .i64 0,.int .i64 0,.slice none 0 0,.slice (some ⟨g,0,none⟩) 1 1]] w fun e w'=>e=.returned (.tuple #[.int .i64 0,.int .i64 0])∧Below w.heap.size w w':=by
 have HBL:=Zh (fun W (h:Below w.heap.size w W)=>hb.below h);have hal:=ZN w (.cells (lfA g) 82);have hx:=Blk.new w 82 (lfA g);have HCF:=Zh (check_any Lf (.slice none 0 0) (.slice (some ⟨g,0,none⟩) 1 1) _ (lf_in (hb.below hal) (hk.below hal)));have he:errV Lf=.int .i64 0:=by rw[errV,ZGq];rfl
 rw[he] at HCF;unfold fnv Lf at HCF;have HX:=Zh (Za hx hal);unfold lfA at HCF HX;clear hb hk hal hx he;go_enter Tryz.func50,Tryz.ntmps50
 go_wp2_with fail
 refine HCF.out.mono ?_;rintro e w1 ⟨rfl,hb1⟩;have HX1:=Zh (Za (HX.out.1.below hb1 HX.out.1.lt) (HX.out.2.trans (ZA hb1 HX.out.2.size)));have x4:w1.cell? ⟨w.heap.size,4,none⟩=some (.slice (some ⟨g,0,none⟩) 1 1):=(HX1.out.1.cell 4).trans rfl;clear HCF HX hb1;go_upto_region 6 with fail
 clear x4
 go_loopw [18,5] (fun v nv W=>∃k:Nat,k≤1∧v=.int .i64 k∧nv=.int .i64 0∧Hid (Below w1.heap.size w1 W)) (fun v _ _=>1-(intOf v).toNat)
 case atStart=>exact ⟨0,by omega,rfl,rfl,Below.refl _ _⟩
 case round=>
  obtain ⟨k,hk,rfl,rfl,HW⟩:=hrel
  match k,hk with
  | 0,_=>
   obtain ⟨g',o',c',he,-,-,-,hc⟩:=(HBL.out wr (HX1.out.2.trans (ZA HW.out HX1.out.2.size))).open_ (by decide);injection he with he1 he2 he3
   injection he1 with he1
   injection he1 with he4 he5
   subst he4 he5;obtain ⟨ov,hov⟩:=hc 0 (by decide);have c0:wr.cell? ⟨g,0,none⟩=some ov:=hov.c0;have c1:wr.cell? ⟨g,1,none⟩=some (.int .i64 3):=hov.c1;have c2:wr.cell? ⟨g,2,none⟩=some (.int .i64 (-1)):=hov.c2;have c3:wr.cell? ⟨g,3,none⟩=some (.int .i64 (-1)):=hov.c3;have c4:wr.cell? ⟨g,4,none⟩=some (.int .i64 0):=hov.c4;have c5:wr.cell? ⟨g,5,none⟩=some (.int .i64 0):=hov.c5;obtain ⟨As,cs,hovf⟩:∃A c,ov=.slice A 0 c:=by
    obtain ⟨vs,-,h9,-⟩:=hov.os;obtain ⟨A,c,e,-,-⟩:=h9.form;exact ⟨A,c,e⟩
   subst hovf;have HN:=Zh (HW.out.trans (ZA (ZN wr (.cells #[.slice As 0 cs,.int .i64 3,.int .i64 (-1),.int .i64 (-1),.int .i64 0,.int .i64 0] 159)) HW.out.size));clear hc hov he2 he3 HW;go_wp2_with fail
   go_loopw [25,5] (fun v nv W=>v=.int .i64 0∧nv=.int .i64 0∧W=wr.alloc (.cells #[.slice As 0 cs,.int .i64 3,.int .i64 (-1),.int .i64 (-1),.int .i64 0,.int .i64 0] 159)) (fun _ _ _=>0)
   case atStart=>exact ⟨rfl,rfl,rfl⟩
   case round=>
    obtain ⟨rfl,rfl,rfl⟩:=hrel;clear c0 c1 c2 c3 c4 c5;go_wp2_with fail
    go_roundw
    case rel=>exact ⟨1,by omega,by go_num,rfl,HN.out⟩
    case measure=>first|(simp[intOf];done)|(simp[intOf];omega)
  | 1,_=>
   have HFIN:=Zh (HX1.out.2.trans (ZA HW.out HX1.out.2.size));clear HX1 HW;go_wp2_with fail
   go_ret2
   exact ⟨rfl,HFIN.out⟩
end Go.Proofs.YtggmkofbikafhaaGreatDoor
namespace Go.Proofs.YtggmkofbikafhaaGreatDoor
open Go.RowKit Go.Lib
theorem up00 (w:World):Calls Tryz.prog 57 #[.int .i64 0,.int .i64 4] w fun e w'=>e=.returned (.int .i64 0)∧w'=w:=by
 go_enter Tryz.func57,Tryz.ntmps57
 go_wp2_with fail
 go_ret;exact ⟨rfl,rfl⟩
theorem up44 (w:World):Calls Tryz.prog 57 #[.int .i64 4,.int .i64 4] w fun e w'=>e=.returned (.int .i64 4)∧w'=w:=by
 go_enter Tryz.func57,Tryz.ntmps57
 go_wp2_with fail
 go_ret;exact ⟨rfl,rfl⟩
theorem up416 (w:World):Calls Tryz.prog 57 #[.int .i64 4,.int .i64 16] w fun e w'=>e=.returned (.int .i64 16)∧w'=w:=by
 go_enter Tryz.func57,Tryz.ntmps57
 go_wp2_with fail
 go_ret;exact ⟨rfl,rfl⟩
theorem put1_any (g:Nat) (a:Int) (cs:Array Value) (o:Int) (ho:cs[1]? = some (.int .i64 o)) (w:World) (h:Blk w g 24 cs):Calls Tryz.prog 52 #[.int .i64 a,.pointer (some ⟨g,0,none⟩)] w fun e w'=>e=.returned (.tuple #[])∧w'=w.setCell ⟨g,1,none⟩ (.int .i64 a):=by
 have h1:w.cell? ⟨g,1,none⟩=some (.int .i64 o):=h.cellp ho;have h2:=h.frozen 1;clear h;go_enter Tryz.func52,Tryz.ntmps52
 go_wp2_with fail
 go_end0
 exact ⟨rfl,rfl⟩
theorem put2_any (g:Nat) (a:Int) (cs:Array Value) (o:Int) (ho:cs[2]? = some (.int .i64 o)) (w:World) (h:Blk w g 24 cs):Calls Tryz.prog 53 #[.int .i64 a,.pointer (some ⟨g,0,none⟩)] w fun e w'=>e=.returned (.tuple #[])∧w'=w.setCell ⟨g,2,none⟩ (.int .i64 a):=by
 have h1:w.cell? ⟨g,2,none⟩=some (.int .i64 o):=h.cellp ho;have h2:=h.frozen 2;clear h;go_enter Tryz.func53,Tryz.ntmps53
 go_wp2_with fail
 go_end0
 exact ⟨rfl,rfl⟩
theorem put3_any (g:Nat) (a:Int) (cs:Array Value) (o:Int) (ho:cs[3]? = some (.int .i64 o)) (w:World) (h:Blk w g 24 cs):Calls Tryz.prog 54 #[.int .i64 a,.pointer (some ⟨g,0,none⟩)] w fun e w'=>e=.returned (.tuple #[])∧w'=w.setCell ⟨g,3,none⟩ (.int .i64 a):=by
 have h1:w.cell? ⟨g,3,none⟩=some (.int .i64 o):=h.cellp ho;have h2:=h.frozen 3;clear h;go_enter Tryz.func54,Tryz.ntmps54
 go_wp2_with fail
 go_end0
 exact ⟨rfl,rfl⟩
theorem put4_any (g:Nat) (a:Int) (cs:Array Value) (o:Int) (ho:cs[4]? = some (.int .i64 o)) (w:World) (h:Blk w g 24 cs):Calls Tryz.prog 55 #[.int .i64 a,.pointer (some ⟨g,0,none⟩)] w fun e w'=>e=.returned (.tuple #[])∧w'=w.setCell ⟨g,4,none⟩ (.int .i64 a):=by
 have h1:w.cell? ⟨g,4,none⟩=some (.int .i64 o):=h.cellp ho;have h2:=h.frozen 4;clear h;go_enter Tryz.func55,Tryz.ntmps55
 go_wp2_with fail
 go_end0
 exact ⟨rfl,rfl⟩
theorem ZCs {w:World} {q i:Nat} {t:TypeId} {cs:Array Value} {v:Value} (h:Blk w q t cs) (hv:cs[i]? = some v):ZE (· = q) w (w.setCell ⟨q,i,none⟩ v)∧Blk (w.setCell ⟨q,i,none⟩ v) q t cs:=by
 refine ⟨(ZE.refl (fun x=>x=q) w).setCell (p:=⟨q,i,none⟩) (Or.inr rfl) v,?_⟩;have h1:=h.set_ i v;have h2:cs.setIfInBounds i v=cs:=by
  apply Array.ext_getElem?
  intro j;rw[Array.getElem?_setIfInBounds]
  split
  ·rename_i e
   subst e
   split
   ·exact hv.symm
   ·rename_i hn
    rw[Array.getElem?_eq_none (by omega)]
  ·rfl
 rw[h2] at h1;exact h1
theorem laid_any (q g c:Nat) (cs:Array Value) (hc:∀i,1≤i→i≤4→cs[i]? = some (.int .i64 0)) (w:World) (h:Blk w q 24 cs) (hr:Blk w g 149 #[.int .i64 0,.int .i64 0,.func (.func 52) #[] #[.pointer (some ⟨q,0,none⟩)],.int .i64 0,.int .i64 0,.func (.func 53) #[] #[.pointer (some ⟨q,0,none⟩)],.int .i64 0,.int .i64 0,.func (.func 54) #[] #[.pointer (some ⟨q,0,none⟩)],.int .i64 0,.int .i64 4,.func (.func 55) #[] #[.pointer (some ⟨q,0,none⟩)]]) :
  Calls Tryz.prog 58 #[.slice (some ⟨g,0,none⟩) 4 c] w fun e w'=>e=.returned (.int .i64 4)∧ZE (· = q) w w'∧Blk w' q 24 cs:=by
 have hqg:g≠q:=hr.ne_ h (by decide);have HC:=Zh (Za hc (Za hqg (Za h hr)));clear hc hqg h hr;go_enter Tryz.func58,Tryz.ntmps58
 go_wp2_with fail
 go_loopw [8,3] (fun v u W=>∃k:Nat,k≤4∧v=.int .i64 k∧u=.int .i64 (if k=4 then 4 else 0)∧Hid (ZE (· = q) w W∧Blk W q 24 cs)) (fun v _ _=>4-(Go.RowKit.intOf v).toNat)
 case atStart=>exact ⟨0,by omega,rfl,rfl,ZE.refl _ _,HC.out.2.2.1⟩
 case round=>
  obtain ⟨k,hk,rfl,rfl,HW⟩:=hrel;have HG:=Zh (show Blk wr g 149 #[.int .i64 0,.int .i64 0,.func (.func 52) #[] #[.pointer (some ⟨q,0,none⟩)],.int .i64 0,.int .i64 0,.func (.func 53) #[] #[.pointer (some ⟨q,0,none⟩)],.int .i64 0,.int .i64 0,.func (.func 54) #[] #[.pointer (some ⟨q,0,none⟩)],.int .i64 0,.int .i64 4,.func (.func 55) #[] #[.pointer (some ⟨q,0,none⟩)]] from HC.out.2.2.2.keeps HW.out.1 HC.out.2.1);rcases (show k=0∨k=1∨k=2∨k=3∨k=4 by omega) with rfl|rfl|rfl|rfl|rfl
  ·have c0:wr.cell? ⟨g,0,none⟩=some (.int .i64 0):=HG.out.cellp rfl
   have c1:wr.cell? ⟨g,1,none⟩=some (.int .i64 0):=HG.out.cellp rfl;have c2:wr.cell? ⟨g,2,none⟩=some (.func (.func 52) #[] #[.pointer (some ⟨q,0,none⟩)]):=HG.out.cellp rfl;go_wp2_with fail
   obtain ⟨wb,hwb⟩:∃wb,wr.alloc (.cells #[.int .i64 0,.int .i64 0,Value.nilFunc] 149)=wb:=⟨_,rfl⟩
   obtain ⟨p,hp⟩:∃p,wr.heap.size=p:=⟨_,rfl⟩
   have HB:Hid (Blk wb p 149 #[.int .i64 0,.int .i64 0,Value.nilFunc]∧Below p wr wb):=by
    subst hwb hp;exact ⟨Blk.new _ _ _,ZV _ _⟩
   first|rw[hwb,hp]|(rw[hwb];try rw[hp])
   have HPZ:=Zh hp;clear hwb hp c0 c1 c2;have x1:wb.cell? ⟨p,1,none⟩=some (.int .i64 0):=HB.out.1.cellp rfl;have x2:wb.cell? ⟨p,2,none⟩=some Value.nilFunc:=HB.out.1.cellp rfl;have f2:=HB.out.1.frozen 2;have hst:(store ⟨p,2,none⟩ (.func (.func 52) #[] #[.pointer (some ⟨q,0,none⟩)])).run Tryz.prog wb=.ok () (wb.setCell ⟨p,2,none⟩ (.func (.func 52) #[] #[.pointer (some ⟨q,0,none⟩)])):=by
    rw[run_store Tryz.prog wb ⟨p,2,none⟩ (.func (.func 52) #[] #[.pointer (some ⟨q,0,none⟩)]) .plain rfl];simp[stored,x2,f2]
   rw[hst];have HV:Hid (Blk (wb.setCell ⟨p,2,none⟩ (.func (.func 52) #[] #[.pointer (some ⟨q,0,none⟩)])) p 149 #[.int .i64 0,.int .i64 0,.func (.func 52) #[] #[.pointer (some ⟨q,0,none⟩)]]):=HB.out.1.set_ 2 _;have HK:Hid (Below p wr (wb.setCell ⟨p,2,none⟩ (.func (.func 52) #[] #[.pointer (some ⟨q,0,none⟩)]))):=HB.out.2.setCell (Nat.le_refl _) _;generalize wb.setCell ⟨p,2,none⟩ (.func (.func 52) #[] #[.pointer (some ⟨q,0,none⟩)])=wv at HV HK ⊢;clear x1 x2 f2 hst HB;have x1:wv.cell? ⟨p,1,none⟩=some (.int .i64 0):=HV.out.cellp rfl;have x2:wv.cell? ⟨p,2,none⟩=some (.func (.func 52) #[] #[.pointer (some ⟨q,0,none⟩)]):=HV.out.cellp rfl;go_wp2_with fail
   have HQ1:Hid (Blk wv q 24 cs):=HW.out.2.below HK.out (by rw[←HPZ.out];exact HW.out.2.lt);refine (put1_any q 0 cs 0 (HC.out.1 1 (by decide) (by decide)) wv HQ1.out).mono ?_;rintro e w2 ⟨rfl,hw2⟩;have HS:Hid (ZE (· = q) w w2∧Blk w2 q 24 cs∧w2.cell? ⟨p,1,none⟩=some (.int .i64 0)):=by
    have hs:=ZCs HQ1.out (HC.out.1 1 (by decide) (by decide))
    rw[←hw2] at hs
    have hqp:p≠q:=by have:=HW.out.2.lt;rw[HPZ.out] at this;omega
    have kb:ZE (· = q) wr wv:=⟨HK.out.os,HK.out.tape,HK.out.output,HK.out.size,fun i hi _=>HK.out.block i (by rw[←HPZ.out];exact hi)⟩
    exact ⟨HW.out.1.trans (kb.trans hs.1 (fun _ _ h=>h)) (fun _ _ h=>h),hs.2,(hs.1.cell (p:=⟨p,1,none⟩) HV.out.lt hqp).trans x1⟩
   clear hw2 x1 x2 HV HK HQ1 HW HG;have x1:=HS.out.2.2;go_wp2_with fail
   refine (up00 w2).mono ?_;rintro e w3 ⟨rfl,hw3⟩;subst hw3;go_wp2_with fail
   go_roundw
   case rel=>exact ⟨1,by omega,by first|rfl|go_num,by first|rfl|go_num,HS.out.1,HS.out.2.1⟩
   case measure=>first|(simp[Go.RowKit.intOf];done)|(simp[Go.RowKit.intOf];omega)
  ·have c0:wr.cell? ⟨g,3,none⟩=some (.int .i64 0):=HG.out.cellp rfl
   have c1:wr.cell? ⟨g,4,none⟩=some (.int .i64 0):=HG.out.cellp rfl;have c2:wr.cell? ⟨g,5,none⟩=some (.func (.func 53) #[] #[.pointer (some ⟨q,0,none⟩)]):=HG.out.cellp rfl;go_wp2_with fail
   obtain ⟨wb,hwb⟩:∃wb,wr.alloc (.cells #[.int .i64 0,.int .i64 0,Value.nilFunc] 149)=wb:=⟨_,rfl⟩
   obtain ⟨p,hp⟩:∃p,wr.heap.size=p:=⟨_,rfl⟩
   have HB:Hid (Blk wb p 149 #[.int .i64 0,.int .i64 0,Value.nilFunc]∧Below p wr wb):=by
    subst hwb hp;exact ⟨Blk.new _ _ _,ZV _ _⟩
   first|rw[hwb,hp]|(rw[hwb];try rw[hp])
   have HPZ:=Zh hp;clear hwb hp c0 c1 c2;have x1:wb.cell? ⟨p,1,none⟩=some (.int .i64 0):=HB.out.1.cellp rfl;have x2:wb.cell? ⟨p,2,none⟩=some Value.nilFunc:=HB.out.1.cellp rfl;have f2:=HB.out.1.frozen 2;have hst:(store ⟨p,2,none⟩ (.func (.func 53) #[] #[.pointer (some ⟨q,0,none⟩)])).run Tryz.prog wb=.ok () (wb.setCell ⟨p,2,none⟩ (.func (.func 53) #[] #[.pointer (some ⟨q,0,none⟩)])):=by
    rw[run_store Tryz.prog wb ⟨p,2,none⟩ (.func (.func 53) #[] #[.pointer (some ⟨q,0,none⟩)]) .plain rfl];simp[stored,x2,f2]
   rw[hst];have HV:Hid (Blk (wb.setCell ⟨p,2,none⟩ (.func (.func 53) #[] #[.pointer (some ⟨q,0,none⟩)])) p 149 #[.int .i64 0,.int .i64 0,.func (.func 53) #[] #[.pointer (some ⟨q,0,none⟩)]]):=HB.out.1.set_ 2 _;have HK:Hid (Below p wr (wb.setCell ⟨p,2,none⟩ (.func (.func 53) #[] #[.pointer (some ⟨q,0,none⟩)]))):=HB.out.2.setCell (Nat.le_refl _) _;generalize wb.setCell ⟨p,2,none⟩ (.func (.func 53) #[] #[.pointer (some ⟨q,0,none⟩)])=wv at HV HK ⊢;clear x1 x2 f2 hst HB;have x1:wv.cell? ⟨p,1,none⟩=some (.int .i64 0):=HV.out.cellp rfl;have x2:wv.cell? ⟨p,2,none⟩=some (.func (.func 53) #[] #[.pointer (some ⟨q,0,none⟩)]):=HV.out.cellp rfl;go_wp2_with fail
   have HQ1:Hid (Blk wv q 24 cs):=HW.out.2.below HK.out (by rw[←HPZ.out];exact HW.out.2.lt);refine (put2_any q 0 cs 0 (HC.out.1 2 (by decide) (by decide)) wv HQ1.out).mono ?_;rintro e w2 ⟨rfl,hw2⟩;have HS:Hid (ZE (· = q) w w2∧Blk w2 q 24 cs∧w2.cell? ⟨p,1,none⟩=some (.int .i64 0)):=by
    have hs:=ZCs HQ1.out (HC.out.1 2 (by decide) (by decide))
    rw[←hw2] at hs
    have hqp:p≠q:=by have:=HW.out.2.lt;rw[HPZ.out] at this;omega
    have kb:ZE (· = q) wr wv:=⟨HK.out.os,HK.out.tape,HK.out.output,HK.out.size,fun i hi _=>HK.out.block i (by rw[←HPZ.out];exact hi)⟩
    exact ⟨HW.out.1.trans (kb.trans hs.1 (fun _ _ h=>h)) (fun _ _ h=>h),hs.2,(hs.1.cell (p:=⟨p,1,none⟩) HV.out.lt hqp).trans x1⟩
   clear hw2 x1 x2 HV HK HQ1 HW HG;have x1:=HS.out.2.2;go_wp2_with fail
   refine (up00 w2).mono ?_;rintro e w3 ⟨rfl,hw3⟩;subst hw3;go_wp2_with fail
   go_roundw
   case rel=>exact ⟨2,by omega,by first|rfl|go_num,by first|rfl|go_num,HS.out.1,HS.out.2.1⟩
   case measure=>first|(simp[Go.RowKit.intOf];done)|(simp[Go.RowKit.intOf];omega)
  ·have c0:wr.cell? ⟨g,6,none⟩=some (.int .i64 0):=HG.out.cellp rfl
   have c1:wr.cell? ⟨g,7,none⟩=some (.int .i64 0):=HG.out.cellp rfl;have c2:wr.cell? ⟨g,8,none⟩=some (.func (.func 54) #[] #[.pointer (some ⟨q,0,none⟩)]):=HG.out.cellp rfl;go_wp2_with fail
   obtain ⟨wb,hwb⟩:∃wb,wr.alloc (.cells #[.int .i64 0,.int .i64 0,Value.nilFunc] 149)=wb:=⟨_,rfl⟩
   obtain ⟨p,hp⟩:∃p,wr.heap.size=p:=⟨_,rfl⟩
   have HB:Hid (Blk wb p 149 #[.int .i64 0,.int .i64 0,Value.nilFunc]∧Below p wr wb):=by
    subst hwb hp;exact ⟨Blk.new _ _ _,ZV _ _⟩
   first|rw[hwb,hp]|(rw[hwb];try rw[hp])
   have HPZ:=Zh hp;clear hwb hp c0 c1 c2;have x1:wb.cell? ⟨p,1,none⟩=some (.int .i64 0):=HB.out.1.cellp rfl;have x2:wb.cell? ⟨p,2,none⟩=some Value.nilFunc:=HB.out.1.cellp rfl;have f2:=HB.out.1.frozen 2;have hst:(store ⟨p,2,none⟩ (.func (.func 54) #[] #[.pointer (some ⟨q,0,none⟩)])).run Tryz.prog wb=.ok () (wb.setCell ⟨p,2,none⟩ (.func (.func 54) #[] #[.pointer (some ⟨q,0,none⟩)])):=by
    rw[run_store Tryz.prog wb ⟨p,2,none⟩ (.func (.func 54) #[] #[.pointer (some ⟨q,0,none⟩)]) .plain rfl];simp[stored,x2,f2]
   rw[hst];have HV:Hid (Blk (wb.setCell ⟨p,2,none⟩ (.func (.func 54) #[] #[.pointer (some ⟨q,0,none⟩)])) p 149 #[.int .i64 0,.int .i64 0,.func (.func 54) #[] #[.pointer (some ⟨q,0,none⟩)]]):=HB.out.1.set_ 2 _;have HK:Hid (Below p wr (wb.setCell ⟨p,2,none⟩ (.func (.func 54) #[] #[.pointer (some ⟨q,0,none⟩)]))):=HB.out.2.setCell (Nat.le_refl _) _;generalize wb.setCell ⟨p,2,none⟩ (.func (.func 54) #[] #[.pointer (some ⟨q,0,none⟩)])=wv at HV HK ⊢;clear x1 x2 f2 hst HB;have x1:wv.cell? ⟨p,1,none⟩=some (.int .i64 0):=HV.out.cellp rfl;have x2:wv.cell? ⟨p,2,none⟩=some (.func (.func 54) #[] #[.pointer (some ⟨q,0,none⟩)]):=HV.out.cellp rfl;go_wp2_with fail
   have HQ1:Hid (Blk wv q 24 cs):=HW.out.2.below HK.out (by rw[←HPZ.out];exact HW.out.2.lt);refine (put3_any q 0 cs 0 (HC.out.1 3 (by decide) (by decide)) wv HQ1.out).mono ?_;rintro e w2 ⟨rfl,hw2⟩;have HS:Hid (ZE (· = q) w w2∧Blk w2 q 24 cs∧w2.cell? ⟨p,1,none⟩=some (.int .i64 0)):=by
    have hs:=ZCs HQ1.out (HC.out.1 3 (by decide) (by decide))
    rw[←hw2] at hs
    have hqp:p≠q:=by have:=HW.out.2.lt;rw[HPZ.out] at this;omega
    have kb:ZE (· = q) wr wv:=⟨HK.out.os,HK.out.tape,HK.out.output,HK.out.size,fun i hi _=>HK.out.block i (by rw[←HPZ.out];exact hi)⟩
    exact ⟨HW.out.1.trans (kb.trans hs.1 (fun _ _ h=>h)) (fun _ _ h=>h),hs.2,(hs.1.cell (p:=⟨p,1,none⟩) HV.out.lt hqp).trans x1⟩
   clear hw2 x1 x2 HV HK HQ1 HW HG;have x1:=HS.out.2.2;go_wp2_with fail
   refine (up00 w2).mono ?_;rintro e w3 ⟨rfl,hw3⟩;subst hw3;go_wp2_with fail
   go_roundw
   case rel=>exact ⟨3,by omega,by first|rfl|go_num,by first|rfl|go_num,HS.out.1,HS.out.2.1⟩
   case measure=>first|(simp[Go.RowKit.intOf];done)|(simp[Go.RowKit.intOf];omega)
  ·have c0:wr.cell? ⟨g,9,none⟩=some (.int .i64 0):=HG.out.cellp rfl
   have c1:wr.cell? ⟨g,10,none⟩=some (.int .i64 4):=HG.out.cellp rfl;have c2:wr.cell? ⟨g,11,none⟩=some (.func (.func 55) #[] #[.pointer (some ⟨q,0,none⟩)]):=HG.out.cellp rfl;go_wp2_with fail
   obtain ⟨wb,hwb⟩:∃wb,wr.alloc (.cells #[.int .i64 0,.int .i64 4,Value.nilFunc] 149)=wb:=⟨_,rfl⟩
   obtain ⟨p,hp⟩:∃p,wr.heap.size=p:=⟨_,rfl⟩
   have HB:Hid (Blk wb p 149 #[.int .i64 0,.int .i64 4,Value.nilFunc]∧Below p wr wb):=by
    subst hwb hp;exact ⟨Blk.new _ _ _,ZV _ _⟩
   first|rw[hwb,hp]|(rw[hwb];try rw[hp])
   have HPZ:=Zh hp;clear hwb hp c0 c1 c2;have x1:wb.cell? ⟨p,1,none⟩=some (.int .i64 4):=HB.out.1.cellp rfl;have x2:wb.cell? ⟨p,2,none⟩=some Value.nilFunc:=HB.out.1.cellp rfl;have f2:=HB.out.1.frozen 2;have hst:(store ⟨p,2,none⟩ (.func (.func 55) #[] #[.pointer (some ⟨q,0,none⟩)])).run Tryz.prog wb=.ok () (wb.setCell ⟨p,2,none⟩ (.func (.func 55) #[] #[.pointer (some ⟨q,0,none⟩)])):=by
    rw[run_store Tryz.prog wb ⟨p,2,none⟩ (.func (.func 55) #[] #[.pointer (some ⟨q,0,none⟩)]) .plain rfl];simp[stored,x2,f2]
   rw[hst];have HV:Hid (Blk (wb.setCell ⟨p,2,none⟩ (.func (.func 55) #[] #[.pointer (some ⟨q,0,none⟩)])) p 149 #[.int .i64 0,.int .i64 4,.func (.func 55) #[] #[.pointer (some ⟨q,0,none⟩)]]):=HB.out.1.set_ 2 _;have HK:Hid (Below p wr (wb.setCell ⟨p,2,none⟩ (.func (.func 55) #[] #[.pointer (some ⟨q,0,none⟩)]))):=HB.out.2.setCell (Nat.le_refl _) _;generalize wb.setCell ⟨p,2,none⟩ (.func (.func 55) #[] #[.pointer (some ⟨q,0,none⟩)])=wv at HV HK ⊢;clear x1 x2 f2 hst HB;have x1:wv.cell? ⟨p,1,none⟩=some (.int .i64 4):=HV.out.cellp rfl;have x2:wv.cell? ⟨p,2,none⟩=some (.func (.func 55) #[] #[.pointer (some ⟨q,0,none⟩)]):=HV.out.cellp rfl;go_wp2_with fail
   have HQ1:Hid (Blk wv q 24 cs):=HW.out.2.below HK.out (by rw[←HPZ.out];exact HW.out.2.lt);refine (put4_any q 0 cs 0 (HC.out.1 4 (by decide) (by decide)) wv HQ1.out).mono ?_;rintro e w2 ⟨rfl,hw2⟩;have HS:Hid (ZE (· = q) w w2∧Blk w2 q 24 cs∧w2.cell? ⟨p,1,none⟩=some (.int .i64 4)):=by
    have hs:=ZCs HQ1.out (HC.out.1 4 (by decide) (by decide))
    rw[←hw2] at hs
    have hqp:p≠q:=by have:=HW.out.2.lt;rw[HPZ.out] at this;omega
    have kb:ZE (· = q) wr wv:=⟨HK.out.os,HK.out.tape,HK.out.output,HK.out.size,fun i hi _=>HK.out.block i (by rw[←HPZ.out];exact hi)⟩
    exact ⟨HW.out.1.trans (kb.trans hs.1 (fun _ _ h=>h)) (fun _ _ h=>h),hs.2,(hs.1.cell (p:=⟨p,1,none⟩) HV.out.lt hqp).trans x1⟩
   clear hw2 x1 x2 HV HK HQ1 HW HG;have x1:=HS.out.2.2;go_wp2_with fail
   refine (up44 w2).mono ?_;rintro e w3 ⟨rfl,hw3⟩;subst hw3;go_wp2_with fail
   go_roundw
   case rel=>exact ⟨4,by omega,by first|rfl|go_num,by first|rfl|go_num,HS.out.1,HS.out.2.1⟩
   case measure=>first|(simp[Go.RowKit.intOf];done)|(simp[Go.RowKit.intOf];omega)
  ·go_wp2_with fail
   go_ret;exact ⟨rfl,HW.out.1,HW.out.2⟩
end Go.Proofs.YtggmkofbikafhaaGreatDoor
