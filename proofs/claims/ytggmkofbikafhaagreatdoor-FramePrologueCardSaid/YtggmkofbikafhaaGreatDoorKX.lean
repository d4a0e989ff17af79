/- Walks and plain laws on the way to FramePrologue (E4, W3, W4, W5, W6, KL, KE, KX). Conditions: those that each theorem states. -/
import Derived.Lib.SliceRun
import Derived.Test.YtggmkofbikafhaaGreatDoorE3
set_option linter.unusedVariables false
set_option linter.unusedSimpArgs false
set_option maxRecDepth 100000
set_option maxHeartbeats 40000000
namespace Go.Proofs.YtggmkofbikafhaaGreatDoor
open Go.RowKit
theorem blk2a (w:World) (t:TypeId) (cs:Array Value) (b:Obj):Blk ((w.alloc (.cells cs t)).alloc b).drew w.heap.size t cs:=((Blk.new w t cs).alloc b).drew
theorem blk2b (w:World) (t:TypeId) (cs:Array Value) (a:Obj):Blk ((w.alloc a).alloc (.cells cs t)).drew (w.heap.size+1) t cs:=(ZY (w:=w.alloc a) (by simp[World.size_alloc]) t cs).drew
theorem ZJi (x:Ex):(ZAY (exT x)).length≤2:=Nat.le_trans (ZDF _) (ZE0 x)
theorem ZKW (F:Fn) (sv bv:Value) (w:World) (h:ZG9 w F sv bv) :
  Calls Tryz.prog 196 #[fnv F sv bv] w fun e w'=>(fnB F=false∧e=.returned (.tuple #[.slice none 0 0,.slice none 0 0,errV F])∨fnB F=true∧∃gO A n c,e=.returned (.tuple #[.slice (some ⟨gO,0,none⟩) F.bl.length F.bl.length,.slice A n c,.int .i64 0])∧(∃B,Zf w' B gO (edgL F))∧w.heap.size≤gO)∧Below w.heap.size w w':=by
 obtain ⟨A,c,rfl,h1,h2⟩:=h.bl.form;obtain ⟨As,cs,rfl,-,-⟩:=RowOf.form h.sl;unfold maxLen at h2;have hb1:=ZN w (.cells #[.string F.nm,.int .i64 F.ps,.int .i64 F.rs,.slice As F.sl.length cs,.slice A F.bl.length c] 82);have HD:=Zh (ZDU F (.slice As F.sl.length cs) (.slice A F.bl.length c) _ (h.below hb1));have HE:=Zh (show fnB F=false→errV F=.int .i64 180 from fun hb=>by rw[errV,hb];rfl);have HB0:=Zh hb1;clear h hb1;unfold fnv at HD;unfold fnv;go_enter Tryz.func196,Tryz.ntmps196
 go_wp2_with fail
 refine HD.out.mono ?_;rintro e w1 ⟨⟨hb,rfl⟩|⟨hb,gg,rfl,hgr⟩,hb1⟩
 ·have hb2:=Zh (HB0.out.trans (ZA hb1 HB0.out.size))
  have HB:=Zh hb;rw[HE.out hb];clear hb hb1;go_wp2_with fail
  refine bodyPost_ret (v:=.tuple #[.slice none 0 0,.slice none 0 0,.int .i64 180]) (by simp[results,Tryz.results196,go_sem]) rfl ⟨Or.inl ⟨HB.out,by rw[HE.out HB.out]⟩,hb2.out⟩
 ·obtain ⟨hge,tov,gr,hg,how,hbr,hggr⟩:=hgr
  have hok:=ZEQ hb;have hto:=how.to;obtain ⟨tl,htl⟩:∃tl,toL F=tl:=⟨_,rfl⟩
  have hn:tl.length=F.bl.length:=by rw[←htl,ZAD]
  have hn1:1≤tl.length:=by rw[hn];exact hok.b1
  have hn2:tl.length≤4096:=by rw[hn];exact hok.b2
  have HX:=Zh (show ∀l∈tl,l.length≤2∧∀t∈l,0≤t∧t<(tl.length:Int) from by
   intro l hl
   rw[←htl] at hl
   obtain ⟨b,hbm,rfl⟩:=List.mem_map.1 hl;refine ⟨ZJi _,fun t ht=>?_⟩;have:=ZHc (hok.ex b hbm) t (ZB7.1 ht);rw[hn]
   omega)
  rw[htl] at hto;have HTL:=Zh (Za htl hn);have HB:=Zh hb;have HB2:=Zh (HB0.out.trans (ZA hb1 HB0.out.size));have HTO:=Zh hto;obtain ⟨At,ct,rfl,t1,t2⟩:=hto.form;unfold maxLen at t2;have g5:w1.cell? ⟨gg,5,none⟩=some (.slice At tl.length ct):=(hg.cell 5).trans rfl;have HGG:=Zh (show gg<w1.heap.size from hg.lt);have HG5:=Zh g5;have HMK:=Zh (fun W=>ZDI tl.length (by omega) W);clear hb hb1 hge hg how hbr hggr hto hok htl hn;go_upto_region 4 with fail
  go_cut [7,8] from 13 to 32 (fun s7 s8 wx=>∃gO gB,s7=.slice (some ⟨gO,0,none⟩) tl.length tl.length∧s8=.slice (some ⟨gB,0,none⟩) tl.length tl.length∧Hid (∃co cb,EdC w1 tl gO gB 0 0 co cb wx))
  case first=>
   have hmk:=HMK.out;have f4a:=fun o=>ZJ g5 o;have f4b:=fun o o2=>ZJ (ZJ g5 o) o2;go_region
   all_goals
    go_wp2_with fail
    go_meet
    exact ⟨_,_,rfl,rfl,_,_,EdC.start (ZA7 (((Below.refl _ _).alloc (Nat.le_refl _) _).alloc (by simp only[World.size_alloc];omega) _))
     (by first|exact blk2a _ _ _ _|exact blk2b _ _ _ _)
     (by first|exact blk2a _ _ _ _|exact blk2b _ _ _ _) (by omega) (by omega) (by omega)⟩
  case rest=>
   obtain ⟨gO,gB,rfl,rfl,HW0⟩:=hcut;have g5c:wc.cell? ⟨gg,5,none⟩=some (.slice At tl.length ct):=by
    obtain ⟨co,cb,hE⟩:=HW0.out;exact (hE.be.cell (p:=⟨gg,5,none⟩) HGG.out).trans HG5.out
   clear g5;go_wp2_with fail
   go_loopw [38] (fun i wr=>∃k:Nat,k≤tl.length∧i=.int .i64 k∧Hid (∃co cb,EdC w1 tl gO gB k (2*k) co cb wr)) (fun i _=>tl.length-(intOf i).toNat)
   case atStart=>exact ⟨0,Nat.zero_le _,rfl,HW0.out⟩
   case round=>
    clear HW0 g5c;obtain ⟨k,hk,rfl,HW⟩:=hrel
    by_cases hlt:k<tl.length
    ·obtain ⟨co,cb,hE⟩:=HW.out
     obtain ⟨gt,ot,cap',ea,h3,h4,hg,hcc⟩:=HTO.out.open_ (by omega)
     cases ea
     obtain ⟨v,d00,hv⟩:=hcc k hlt;have d0:=(hE.be.cell (p:=⟨gt,ot+k,none⟩) hg).trans d00;obtain ⟨Al,cl,rfl,q1,q2⟩:=hv.form;unfold maxLen at q2;obtain ⟨l,hl⟩:∃l,tl[k]=l:=⟨_,rfl⟩
     have hlx:=HX.out l (by rw[←hl];exact List.getElem_mem hlt);have hlg:tl.getD k []=l:=by simp[hlt,hl]
     rw[hl] at hv d0 q1;obtain ⟨hl2,hlt2⟩:=hlx;have HLT:=Zh hlt2;have HLG:=Zh hlg;have HV:=Zh hv;have HE2:=Zh (show ∃co cb,EdC w1 tl gO gB k (2*k+0) co cb wr from ⟨co,cb,hE⟩);clear hE hv hl hlt2 hlg HW hcc d00;go_wp2_with fail
     go_loopw [45] (fun i wq=>∃j:Nat,j≤l.length∧i=.int .i64 j∧Hid (∃co cb,EdC w1 tl gO gB k (2*k+j) co cb wq) ) (fun i _=>l.length-(intOf i).toNat)
     case atStart=>exact ⟨0,Nat.zero_le _,rfl,HE2.out⟩
     case round=>
      clear HE2 d0;obtain ⟨j,hj,rfl,HQ⟩:=hrel;obtain ⟨co,cb,hE⟩:=HQ.out
      by_cases hjt:j<l.length
      ·obtain ⟨gl,ol,cl',ea,y3,y4,yg,ycc⟩:=HV.out.open_ (Nat.lt_of_le_of_lt (Nat.zero_le _) hjt)
       cases ea
       have c0:=(hE.be.cell (p:=⟨gl,ol+j,none⟩) yg).trans (ycc j hjt);have htt:=HLT.out l[j] (List.getElem_mem hjt);obtain ⟨t,ht⟩:∃t:Nat,l[j]=(t:Int):=⟨l[j].toNat,by omega⟩
       rw[ht] at c0 htt;have htn:t<tl.length:=by omega
       obtain ⟨A1,n1,c1,A2,n2,c2,W1,b0,hap,⟨b1,b2⟩,hN⟩:=hE.push t htn (by omega) (k:Int) 22;have HAP:=Zh hap;have HN:=Zh (show ∃co cb,EdC w1 tl gO gB k (2*k+(j+1)) co cb (W1.setCell ⟨gB,t,none⟩ (.slice A2 n2 c2)) from ⟨co,hN⟩);clear hap hN hE HQ ht htt ycc;go_wp2_with (at_builtin;refine ZK rfl (.tmp 54) (.tmp 56) 22 rfl rfl rfl HAP.out ?_)
       go_roundw
       case rel=>exact ⟨j+1,by omega,by go_num,HN.out⟩
       case measure=>simp[intOf];omega
      ·have hje:j=l.length:=by omega
       subst hje;have HVA:=Zh (ZHs Al l.length cl wr);have hal:=ZN wr (.cells #[.slice Al l.length cl] 22);have HSO:=Zh (ZHv wr.heap.size l (.slice Al l.length cl) (wr.alloc (.cells #[.slice Al l.length cl] 22)) (by omega) (by simp[World.size_alloc]) (((Blk.new wr 22 #[.slice Al l.length cl]).cell 0).trans rfl) ((HV.out.below hE.be).below hal));have HE:=Zh hE;have HAL:=Zh hal;clear hE HQ hal;go_wp2_with fail
       refine HVA.out.mono ?_;rintro e w3 ⟨rfl,rfl⟩;go_wp2_with fail
       refine HSO.out.mono ?_;rintro e w4 ⟨⟨v,rfl,ho⟩,hb4⟩;have hB4:Below wr.heap.size wr w4:=HAL.out.trans (ZA hb4 HAL.out.size);have hE4:=HE.out.below hB4;obtain ⟨Av,cv,rfl,-,-⟩:=ho.form;have e0:∃u,w4.cell? ⟨gO,k,none⟩=some u:=⟨_,(hE4.o.cell k).trans (Array.getElem?_eq_getElem (by rw[hE4.on];exact hlt))⟩
       obtain ⟨u0,e0⟩:=e0;have e1:=hE4.o.frozen k;have HN:=Zh (show ∃co cb,EdC w1 tl gO gB (k+1) (2*(k+1)) co cb (w4.setCell ⟨gO,k,none⟩ (.slice Av (sortL l).length cv)) from by
        obtain ⟨co',h⟩:=HE.out.put hB4 hlt (v:=.slice Av (sortL l).length cv) (by rw[HLG.out];exact ho.lower (by simp[World.size_alloc]));exact ⟨co',cb,h.mono (by omega)⟩)
       obtain ⟨sl,hsl⟩:∃sl,sortL l=sl:=⟨_,rfl⟩
       rw[hsl] at HN ⊢;clear hE4 ho hb4 hB4 HE HSO HVA HAL hsl;go_wp2_with fail
       go_roundw
       case rel=>exact ⟨k+1,by omega,by go_num,HN.out⟩
       case measure=>simp[intOf];omega
    ·have hke:k=tl.length:=by omega
     subst hke;obtain ⟨co,cb,hE⟩:=HW.out;have HN:=Zh (show tl.length=F.bl.length∧(∃B,Zf wr B gO (edgL F))∧w.heap.size≤gO∧Below w.heap.size w wr from by
      refine ⟨HTL.out.2,⟨w1.heap.size,?_⟩,Nat.le_trans HB2.out.size hE.bO,HB2.out.trans (ZA hE.be HB2.out.size)⟩;obtain ⟨e1,e2⟩:=HTL.out;subst e1;rw[e2] at hE;exact hE.end_)
     clear hE HW;go_wp2_with fail
     refine bodyPost_ret (v:=.tuple #[.slice (some ⟨gO,0,none⟩) tl.length tl.length,.slice (some ⟨gB,0,none⟩) tl.length tl.length,.int .i64 0]) (by simp[results,Tryz.results196,go_sem]) rfl ⟨Or.inr ⟨HB.out,gO,_,_,_,by rw[←HN.out.1],HN.out.2.1,HN.out.2.2.1⟩,HN.out.2.2.2⟩
def psA (F:Fn) (sv bv rv tov inv ouv:Value):Array Value:=#[.string F.nm,.int .i64 F.ps,.int .i64 F.rs,sv,bv,rv,tov,inv,ouv]
structure PassAt (W:World) (gp:Nat) (F:Fn) (sv bv rv tov inv ouv:Value):Prop where
 pb:Blk W gp 291 (psA F sv bv rv tov inv ouv)
 rc:Bools W rv (ZEg F)
 ed:ZF9 W tov (edgL F)
 li:ZF9 W inv (ZBQ F)
 fi:ZG9 W F sv bv
 ok:ZEW F
 ll:∀l∈ZBQ F,l.length≤4096∧∀r∈l,0≤r∧r<F.rs
theorem PassAt.below {W W':World} {gp:Nat} {F:Fn} {sv bv rv tov inv ouv:Value} (h:PassAt W gp F sv bv rv tov inv ouv) (hb:Below W.heap.size W W'):PassAt W' gp F sv bv rv tov inv ouv:=
 ⟨h.pb.below hb h.pb.lt,h.rc.below hb,h.ed.below hb,h.li.below hb,h.fi.below hb,h.ok,h.ll⟩
theorem edgL_len (F:Fn):(edgL F).length=F.bl.length:=by simp[edgL,ZAD]
theorem five {W:World} {g:Nat} {t:TypeId} {a b c d e:Value} (h:Blk W g t #[a,b,c,d,e]):W.cell? ⟨g,0,none⟩=some a∧W.cell? ⟨g,1,none⟩=some b∧W.cell? ⟨g,2,none⟩=some c∧W.cell? ⟨g,3,none⟩=some d∧W.cell? ⟨g,4,none⟩=some e:=
 ⟨(h.cell 0).trans rfl,(h.cell 1).trans rfl,(h.cell 2).trans rfl,(h.cell 3).trans rfl,(h.cell 4).trans rfl⟩
theorem ZCG {B g j:Nat} {w W:World} (h:Below B w W) (hg:B≤g) (u:Value):Below B w (W.setCell ⟨g,j,none⟩ u):=h.setCell (p:=⟨g,j,none⟩) hg u
theorem ps5 {W:World} {gp:Nat} {F:Fn} {sv bv a b c d:Value} (h:Blk W gp 291 (psA F sv bv a b c d)) (u:Value):Blk (W.setCell ⟨gp,5,none⟩ u) gp 291 (psA F sv bv u b c d):=h.set_ 5 u
theorem ps6 {W:World} {gp:Nat} {F:Fn} {sv bv a b c d:Value} (h:Blk W gp 291 (psA F sv bv a b c d)) (u:Value):Blk (W.setCell ⟨gp,6,none⟩ u) gp 291 (psA F sv bv a u c d):=h.set_ 6 u
theorem ps78 {W:World} {gp:Nat} {F:Fn} {sv bv a b c d:Value} (h:Blk W gp 291 (psA F sv bv a b c d)) (u v:Value):Blk ((W.setCell ⟨gp,7,none⟩ u).setCell ⟨gp,8,none⟩ v) gp 291 (psA F sv bv a b u v):=(h.set_ 7 u).set_ 8 v
theorem ZF9.keeps {W W':World} {G:Nat→Prop} {v:Value} {tl:List (List Int)} (h:ZF9 W v tl) (hk:ZE G W W') (hv:∀g,v.ownBlock=some g→¬G g) (hi:∀u l,l∈tl→Ints W u l→Ints W' u l):ZF9 W' v tl:=by
 obtain ⟨vs,h1,h2,h3⟩:=h;exact ⟨vs,h1,h2.keeps hk hv,fun i a b=>hi _ _ (List.getElem_mem a) (h3 i a b)⟩
theorem ZII (F:Fn) (sv bv:Value) (w:World) (h:ZG9 w F sv bv) (ht:ZFM w) :
  Calls Tryz.prog 165 #[fnv F sv bv] w fun e w'=>(fnB F=false∧e=.returned (.tuple #[.pointer none,errV F])∨fnB F=true∧∃gp rv tov inv ouv,e=.returned (.tuple #[.pointer (some ⟨gp,0,none⟩),.int .i64 0])∧PassAt w' gp F sv bv rv tov inv ouv)∧Below w.heap.size w w':=by
 obtain ⟨A,c,rfl,h1,h2⟩:=h.bl.form;obtain ⟨As,cs,rfl,-,-⟩:=RowOf.form h.sl;unfold maxLen at h2;have hb1:=ZN w (.cells #[.string F.nm,.int .i64 F.ps,.int .i64 F.rs,.slice As F.sl.length cs,.slice A F.bl.length c] 82);have HBX:=Zh (Za (Blk.new w 82 #[.string F.nm,.int .i64 F.ps,.int .i64 F.rs,.slice As F.sl.length cs,.slice A F.bl.length c]) hb1);have HCK:=Zh (check_any F (.slice As F.sl.length cs) (.slice A F.bl.length c) _ (h.below hb1));have HE:=Zh (show errV F=.int .i64 (if fnB F then 0 else 180) from rfl);have HI:=Zh (Za h ht);clear h hb1 ht;unfold fnv at HCK;unfold fnv;go_enter Tryz.func165,Tryz.ntmps165
 go_wp2_with fail
 refine HCK.out.mono ?_;rintro e w1 ⟨rfl,hb1⟩;have hB1:=HBX.out.2.trans (ZA hb1 HBX.out.2.size);have hX1:=HBX.out.1.below hb1 HBX.out.1.lt;rw[HE.out]
 cases hf:fnB F with
 | false=>
  have HB:=Zh (Za hf hB1);clear hb1 hB1 hX1 hf;simp only[Bool.false_eq_true,if_false];go_wp2_with fail
  refine bodyPost_ret (v:=.tuple #[.pointer none,.int .i64 180]) (by simp[results,Tryz.results165,go_sem]) rfl ⟨Or.inl ⟨HB.out.1,by rw[HE.out,HB.out.1];rfl⟩,HB.out.2⟩
 | true=>
  simp only[if_true];have hok:=ZEQ hf;have hn1:=hok.b1;have hn2:=hok.b2;have HF:=Zh hf;obtain ⟨gp,hgp⟩:∃gp,w1.heap.size=gp:=⟨_,rfl⟩
  have hal:=ZN w1 (.cells #[.string F.nm,.int .i64 F.ps,.int .i64 F.rs,.slice As F.sl.length cs,.slice A F.bl.length c,.slice none 0 0,.slice none 0 0,.slice none 0 0,.slice none 0 0] 291);have HP0:=Zh (Za (show Blk (w1.alloc (.cells #[.string F.nm,.int .i64 F.ps,.int .i64 F.rs,.slice As F.sl.length cs,.slice A F.bl.length c,.slice none 0 0,.slice none 0 0,.slice none 0 0,.slice none 0 0] 291)) gp 291 (psA F (.slice As F.sl.length cs) (.slice A F.bl.length c) (.slice none 0 0) (.slice none 0 0) (.slice none 0 0) (.slice none 0 0)) from by rw[←hgp];exact Blk.new _ _ _) (Za (hX1.below hal hX1.lt) (hB1.trans (ZA hal hB1.size))));have HGP:=Zh (show w.heap.size<gp from by rw[←hgp];exact hX1.lt);have HRE:=Zh (ZC8 F (.slice As F.sl.length cs) (.slice A F.bl.length c) _ (HI.out.1.below HP0.out.2.2));unfold fnv at HRE;clear hb1 hB1 hf hok hal;obtain ⟨x0,x1,x2,x3,x4⟩:=five HP0.out.2.1;have HXX:=Zh (five hX1);clear hX1;obtain ⟨z0,z1,z2,z3,z4⟩:=HXX.out;go_wp2_with fail
  refine HRE.out.mono ?_;rintro e w2 ⟨⟨hf0,-⟩|⟨-,gr,rfl,hbr,hgr⟩,hb2⟩
  ·rw[HF.out] at hf0;cases hf0
  have hp2:=HP0.out.1.below hb2 HP0.out.1.lt;have hx2:=HP0.out.2.1.below hb2 HP0.out.2.1.lt;have hB2:=HP0.out.2.2.trans (ZA hb2 HP0.out.2.2.size);have f5:=hp2.frozen 5;have p5:w2.cell? ⟨gp,5,none⟩=some (.slice none 0 0):=(hp2.cell 5).trans rfl;have hgrp:gp<gr:=by have:=HP0.out.1.lt;omega
  have k5:ZE (fun q=>q=gp) w2 (w2.setCell ⟨gp,5,none⟩ (.slice (some ⟨gr,0,none⟩) F.bl.length F.bl.length)):=(ZE.refl (fun q=>q=gp) w2).setCell (p:=⟨gp,5,none⟩) (Or.inr rfl) _;have HP2:=Zh (Za (ps5 hp2 (.slice (some ⟨gr,0,none⟩) F.bl.length F.bl.length)) (Za (hx2.keeps k5 (by have:=HGP.out;omega)) (Za (ZCG (g:=gp) (j:=5) hB2 (by have:=HGP.out;omega) (.slice (some ⟨gr,0,none⟩) F.bl.length F.bl.length)) (hbr.keeps k5 (by omega)))));have HED:=Zh (ZKW F (.slice As F.sl.length cs) (.slice A F.bl.length c) _ (HI.out.1.below HP2.out.2.2.1));unfold fnv at HED;obtain ⟨y0,y1,y2,y3,y4⟩:=five HP2.out.2.1;clear hp2 hx2 hB2 k5 hbr hb2 hgr x0 x1 x2 x3 x4 z0 z1 z2 z3 z4 HRE HCK;go_wp2_with fail
  refine HED.out.mono ?_;rintro e w3 ⟨⟨hf0,-⟩|⟨-,gE,Ab,nb,cb,rfl,⟨BE,hre⟩,hgE⟩,hb3⟩
  ·rw[HF.out] at hf0;cases hf0
  have hgpl:=HP2.out.1.lt;have hp3:=HP2.out.1.below hb3 hgpl;have hx3:=HP2.out.2.1.below hb3 HP2.out.2.1.lt;have hB3:=HP2.out.2.2.1.trans (ZA hb3 HP2.out.2.2.1.size);have hr3:=HP2.out.2.2.2.below hb3;have f6:=hp3.frozen 6;have p6:w3.cell? ⟨gp,6,none⟩=some (.slice none 0 0):=(hp3.cell 6).trans rfl;have k6:ZE (fun q=>q=gp) w3 (w3.setCell ⟨gp,6,none⟩ (.slice (some ⟨gE,0,none⟩) F.bl.length F.bl.length)):=(ZE.refl (fun q=>q=gp) w3).setCell (p:=⟨gp,6,none⟩) (Or.inr rfl) _;have HP3:=Zh (Za (ps6 hp3 (.slice (some ⟨gE,0,none⟩) F.bl.length F.bl.length)) (Za (hx3.keeps k6 (by have:=HGP.out;omega)) (Za (ZCG (g:=gp) (j:=6) hB3 (by have:=HGP.out;omega) (.slice (some ⟨gE,0,none⟩) F.bl.length F.bl.length)) (Za (hr3.keeps k6 (by omega)) (hre.other k6 hp3 (by decide) (by omega))))));have HLV:=Zh (ZEs F (.slice As F.sl.length cs) (.slice A F.bl.length c) _ (HI.out.1.below HP3.out.2.2.1) (HI.out.2.below HP3.out.2.2.1));unfold fnv at HLV;obtain ⟨v0,v1,v2,v3,v4⟩:=five HP3.out.2.1;have hgE2:gp<gE:=by omega
  clear hp3 hx3 hB3 hr3 k6 hre hb3 hgE y0 y1 y2 y3 y4 HED hgpl HP2;go_wp2_with fail
  refine HLV.out.mono ?_;rintro e w4 ⟨⟨hf0,-⟩|⟨-,gI,gO,rfl,⟨BI,hri⟩,hgI,⟨BO,tO,hro,htO⟩,hll⟩,hb4⟩
  ·rw[HF.out] at hf0;cases hf0
  have hgpl:=HP3.out.1.lt;have hp4:=HP3.out.1.below hb4 hgpl;have hB4:=HP3.out.2.2.1.trans (ZA hb4 HP3.out.2.2.1.size);have hr4:=HP3.out.2.2.2.1.below hb4;have he4:=HP3.out.2.2.2.2.below hb4;have f7:=hp4.frozen 7;have f8:=hp4.frozen 8;have p7:w4.cell? ⟨gp,7,none⟩=some (.slice none 0 0):=(hp4.cell 7).trans rfl;have p8:w4.cell? ⟨gp,8,none⟩=some (.slice none 0 0):=(hp4.cell 8).trans rfl;have k7:ZE (fun q=>q=gp) w4 ((w4.setCell ⟨gp,7,none⟩ (.slice (some ⟨gI,0,none⟩) F.bl.length F.bl.length)).setCell ⟨gp,8,none⟩ (.slice (some ⟨gO,0,none⟩) F.bl.length F.bl.length)):=((ZE.refl (fun q=>q=gp) w4).setCell (p:=⟨gp,7,none⟩) (Or.inr rfl) _).setCell (p:=⟨gp,8,none⟩) (Or.inr rfl) _;have hB5:=ZCG (g:=gp) (j:=8) (ZCG (g:=gp) (j:=7) hB4 (by have:=HGP.out;omega) (.slice (some ⟨gI,0,none⟩) F.bl.length F.bl.length)) (by have:=HGP.out;omega) (.slice (some ⟨gO,0,none⟩) F.bl.length F.bl.length);have HP4:=Zh (show PassAt ((w4.setCell ⟨gp,7,none⟩ (.slice (some ⟨gI,0,none⟩) F.bl.length F.bl.length)).setCell ⟨gp,8,none⟩ (.slice (some ⟨gO,0,none⟩) F.bl.length F.bl.length)) gp F (.slice As F.sl.length cs) (.slice A F.bl.length c) (.slice (some ⟨gr,0,none⟩) F.bl.length F.bl.length) (.slice (some ⟨gE,0,none⟩) F.bl.length F.bl.length) (.slice (some ⟨gI,0,none⟩) F.bl.length F.bl.length) (.slice (some ⟨gO,0,none⟩) F.bl.length F.bl.length) from
   ⟨ps78 hp4 _ _,(hr4.keeps k7 (by omega)).bools (ZEQ HF.out).rch.1 (by unfold maxLen;omega),(he4.other k7 hp4 (by decide) (by omega)).to (edgL_len F) (by unfold maxLen;omega),(hri.other k7 hp4 (by decide) (by omega)).to (ZEK F) (by unfold maxLen;omega),HI.out.1.below hB5,ZEQ HF.out,hll⟩)
  have HB5:=Zh hB5;clear hp4 hB4 hr4 he4 k7 hB5 hri hro hb4 hgI v0 v1 v2 v3 v4 HLV hgpl HP3;go_wp2_with fail
  refine bodyPost_ret (v:=.tuple #[.pointer (some ⟨gp,0,none⟩),.int .i64 0]) (by simp[results,Tryz.results165,go_sem]) rfl ⟨Or.inr ⟨HF.out,gp,_,_,_,_,rfl,HP4.out⟩,HB5.out⟩
theorem OwnI.set_ {W:World} {B g c n:Nat} {l:List Int} (h:OwnI W B (.slice (some ⟨g,0,none⟩) n c) l) (hn:l.length=n) {j:Nat} (hj:j<l.length) (u:Int):OwnI (W.setCell ⟨g,j,none⟩ (.int .i64 u)) B (.slice (some ⟨g,0,none⟩) n c) (l.set j u):=by
 subst hn;unfold OwnI at h ⊢;rw[List.length_set,List.map_set];exact ZDC h (by simpa using hj) (iv u)
theorem OwnI.parts {W:World} {B g n c:Nat} {cur:List Int} (h:OwnI W B (.slice (some ⟨g,0,none⟩) n c) cur) (hn:cur.length=n):g<W.heap.size∧(∀j (hj:j<cur.length),W.cell? ⟨g,j,none⟩=some (.int .i64 cur[j]))∧∀j,W.frozen? ⟨g,j,none⟩=false:=by
 subst hn;obtain ⟨-,p2,p3,p4,p5,p6⟩:=Zc h;exact ⟨p2,fun j hj=>p5 j (iv cur[j]) (by simp[hj]),p6⟩
theorem PassAt.bl_ {W:World} {gp:Nat} {F:Fn} {sv bv rv tov inv ouv:Value} (h:PassAt W gp F sv bv rv tov inv ouv) {b:Nat} (hb:b<F.bl.length) :
  ∃g off cap Ao co,bv=.slice (some ⟨g,off,none⟩) F.bl.length cap∧F.bl.length≤cap∧cap≤maxLen∧g<W.heap.size∧ZCc W g (off+b*6) (blk F b) (.slice Ao (blk F b).os.length co):=by
 obtain ⟨g,off,cap,e,q1,q2,q3,q4⟩:=h.fi.bl.open_ (by omega);obtain ⟨ov,hc⟩:=q4 b hb;obtain ⟨Ao,co,e2,-,-⟩:=hc.os.form;rw[ZAc hb];exact ⟨g,off,cap,Ao,co,e,q1,q2,q3,e2▸hc⟩
theorem PassAt.rc_ {W:World} {gp:Nat} {F:Fn} {sv bv rv tov inv ouv:Value} (h:PassAt W gp F sv bv rv tov inv ouv) {b:Nat} (hb:b<F.bl.length) :
  ∃g off cap rb,rv=.slice (some ⟨g,off,none⟩) F.bl.length cap∧F.bl.length≤cap∧cap≤maxLen∧g<W.heap.size∧(ZEg F).getD b false=rb∧W.cell? ⟨g,off+b,none⟩=some (.bool rb):=by
 have hl:=h.ok.rch.1;obtain ⟨g,off,cap,e,q1,q2,q3,q4⟩:=h.rc.open_ (by rw[hl];omega);rw[hl] at e q1;exact ⟨g,off,cap,(ZEg F)[b]'(by rw[hl];exact hb),e,q1,q2,q3,by simp[hl,hb],q4 b (by rw[hl];exact hb)⟩
def setF (F:Fn) (b:Nat):Bool:=(ZEg F).getD b false&&((blk F b).x.k==4)
theorem ZJ5 (gp:Nat) (F:Fn) (sv bv rv tov inv ouv:Value) (b:Nat) (hb:b<F.bl.length) (w:World) (h:PassAt w gp F sv bv rv tov inv ouv) :
  Calls Tryz.prog 166 #[.pointer (some ⟨gp,0,none⟩),.int .i64 b] w fun e w'=>e=.returned (.bool (setF F b))∧Below w.heap.size w w':=by
 have hn2:=h.ok.b2;obtain ⟨g1,o1,c1,rb,rfl,q1,q2,q3,q4,q5⟩:=h.rc_ hb;obtain ⟨g2,o2,c2,Ao,co,rfl,r1,r2,r3,r4⟩:=h.bl_ hb;have p4:w.cell? ⟨gp,4,none⟩=some (.slice (some ⟨g2,o2,none⟩) F.bl.length c2):=(h.pb.cell 4).trans rfl;have p5:w.cell? ⟨gp,5,none⟩=some (.slice (some ⟨g1,o1,none⟩) F.bl.length c1):=(h.pb.cell 5).trans rfl;have HS:=Zh (show setF F b=(rb&&((blk F b).x.k==4)) from by rw[setF,q4]);obtain ⟨bb,hbb⟩:∃bb,blk F b=bb:=⟨_,rfl⟩
 rw[hbb] at r4 HS;obtain ⟨s0,s1,s2,s3,s4,s5,s6⟩:=r4;have hlt:(b:Int)<(F.bl.length:Int):=by omega
 clear h hbb q4 s6
 cases rb with
 | false=>
  go_enter Tryz.func166,Tryz.ntmps166
  go_wp2_with fail
  go_ret;exact ⟨by rw[HS.out];rfl,Below.refl _ _⟩
 | true=>
  go_enter Tryz.func166,Tryz.ntmps166
  go_wp2_with fail
  go_ret;exact ⟨by rw[HS.out];simp,Below.refl _ _⟩
def Lf:Fn:=⟨⟨#[102]⟩,0,0,[],[⟨[],⟨3,-1,-1,0,0⟩⟩]⟩
theorem ZGq:fnB Lf=true:=by decide +kernel
theorem lf_small:Small Lf:=⟨by decide,by decide,by decide +kernel,by decide +kernel⟩
theorem lf_in {W:World} {bv:Value} (h:ZAV W bv Lf.bl) (hk:Zj W):ZG9 W Lf (.slice none 0 0) bv:=⟨⟨none,0,rfl,Nat.le_refl _,by decide,fun h=>absurd h (by decide)⟩,h,hk,lf_small⟩
theorem lf_live:ZBQ Lf=[[]]:=by decide +kernel
theorem ZEv:ZEg Lf=[true]:=by decide +kernel
theorem lf_bls {W:World} {g:Nat} (h:Blk W g 159 #[.slice none 0 0,.int .i64 3,.int .i64 (-1),.int .i64 (-1),.int .i64 0,.int .i64 0]):ZAV W (.slice (some ⟨g,0,none⟩) 1 1) Lf.bl:=by
 refine ⟨[.slice none 0 0],rfl,⟨_,_,rfl,Nat.le_refl _,by decide,fun _=>⟨g,0,rfl,h.lt,fun j u hj=>?_⟩⟩,fun i a b=>?_⟩
 ·rw[Nat.zero_add,h.cell,←Array.getElem?_toList];exact hj
 ·match i,a,b with
  | 0,_,_=>exact ⟨[],rfl,⟨none,0,rfl,Nat.le_refl _,by decide,fun h=>absurd h (by show ¬0<0;decide)⟩,fun i a b=>absurd a (by simp[Lf])⟩
  | n+1,a,_=>exact absurd a (by simp[Lf])
theorem leaf_any (w:World) :
  Calls Tryz.prog 21 #[] w fun e w'=>(∃g,e=.returned (fnv Lf (.slice none 0 0) (.slice (some ⟨g,0,none⟩) 1 1))∧ZAV w' (.slice (some ⟨g,0,none⟩) 1 1) Lf.bl)∧Below w.heap.size w w':=by
 go_enter Tryz.func21,Tryz.ntmps21
 go_wp2_with fail
 refine bodyPost_ret (v:=fnv Lf (.slice none 0 0) (.slice (some ⟨w.heap.size+1,0,none⟩) 1 1)) (by simp[results,Tryz.results21,go_sem,fnv,Lf]) rfl ⟨⟨_,rfl,lf_bls (ZY (by simp[World.size_alloc]) _ _)⟩,below2 w _ _⟩
theorem ZHe (gl gg:Nat) (sv bv tov:Value) (gr:Nat) (inv:Value) (gs:List Nat) (ins:List (List Nat)) (fv:Value) (w:World) (h:ZG8 w gl gg Lf sv bv tov gr inv gs ins) :
  Calls Tryz.prog 156 #[.pointer (some ⟨gl,0,none⟩),fv] w fun e w'=>e=.returned (.tuple #[])∧Below w.heap.size w w':=by
 have HL:=Zh h;have HSE:=Zh (ZD6 gl gg Lf sv bv tov gr inv gs ins w h);obtain ⟨g,o,c,Ao,co,rfl,-,-,hg,hc⟩:=h.bl_ (b:=0) (by decide);have HC:=Zh (Za hg hc);obtain ⟨rb,hrb,hrc⟩:=h.rc.val 0 (by decide);have hrbt:rb=true:=by
  rw[ZEv] at hrb
  simpa using hrb.symm
 subst hrbt;have HR:=Zh (Za hrc h.rc.lt);have HB:=Zh (Za h.lb h.gb);clear h hg hc hrb hrc;go_enter Tryz.func156,Tryz.ntmps156
 go_wp2_with fail
 refine HSE.out.mono ?_;rintro e w1 ⟨⟨g2,rfl,hg2,hs2⟩,hb1⟩;have HL1:=Zh (HL.out.below hb1);have HS1:=Zh hs2;have H1:=Zh hb1;have b1:=HB.out.1.below hb1 HB.out.1.lt;have b2:=HB.out.2.below hb1 HB.out.2.lt;have y0:w1.cell? ⟨gl,0,none⟩=some (.pointer (some ⟨gg,0,none⟩)):=(b1.cell 0).trans rfl;have y4:w1.cell? ⟨gg,4,none⟩=some (.slice (some ⟨g,o,none⟩) 1 c):=(b2.cell 4).trans rfl;clear hb1 hs2 b1 b2 hg2 HSE HL;go_upto_region 2 with fail
 go_loopw [21] (fun v W=>∃k:Nat,k≤1∧v=.int .i64 k∧Hid (Below w1.heap.size w1 W)) (fun v _=>1-(intOf v).toNat)
 case atStart=>exact ⟨0,by omega,rfl,Below.refl _ _⟩
 case round=>
  obtain ⟨k,hk,rfl,HW⟩:=hrel;clear y0 y4
  match k,hk with
  | 0,_=>
   have hbw:=H1.out.trans (ZA HW.out H1.out.size);have hl:=HL1.out.below HW.out;have y0:wr.cell? ⟨gl,0,none⟩=some (.pointer (some ⟨gg,0,none⟩)):=(hl.lb.cell 0).trans rfl;have y6:wr.cell? ⟨gg,6,none⟩=some (.slice (some ⟨gr,0,none⟩) 1 1):=(hl.gb.cell 6).trans rfl;have z0:wr.cell? ⟨gr,0,none⟩=some (.bool true):=(hbw.cell (p:=⟨gr,0,none⟩) HR.out.2).trans HR.out.1;have c0:wr.cell? ⟨g,o,none⟩=some (.slice Ao 0 co):=(hbw.cell (p:=⟨g,o,none⟩) HC.out.1).trans HC.out.2.c0;have c1:wr.cell? ⟨g,o+1,none⟩=some (.int .i64 3):=(hbw.cell (p:=⟨g,o+1,none⟩) HC.out.1).trans HC.out.2.c1;have c2:wr.cell? ⟨g,o+2,none⟩=some (.int .i64 (-1)):=(hbw.cell (p:=⟨g,o+2,none⟩) HC.out.1).trans HC.out.2.c2;have c3:wr.cell? ⟨g,o+3,none⟩=some (.int .i64 (-1)):=(hbw.cell (p:=⟨g,o+3,none⟩) HC.out.1).trans HC.out.2.c3;have c4:wr.cell? ⟨g,o+4,none⟩=some (.int .i64 0):=(hbw.cell (p:=⟨g,o+4,none⟩) HC.out.1).trans HC.out.2.c4;have c5:wr.cell? ⟨g,o+5,none⟩=some (.int .i64 0):=(hbw.cell (p:=⟨g,o+5,none⟩) HC.out.1).trans HC.out.2.c5;have HLw:=Zh hl;have HSw:=Zh (HS1.out.below HW.out);clear hl hbw;have y0':=ZJ y0 (.cells #[.slice Ao 0 co,.int .i64 3,.int .i64 (-1),.int .i64 (-1),.int .i64 0,.int .i64 0] 159);have y6':=ZJ y6 (.cells #[.slice Ao 0 co,.int .i64 3,.int .i64 (-1),.int .i64 (-1),.int .i64 0,.int .i64 0] 159);have z0':=ZJ z0 (.cells #[.slice Ao 0 co,.int .i64 3,.int .i64 (-1),.int .i64 (-1),.int .i64 0,.int .i64 0] 159);have hal:=ZN wr (.cells #[.slice Ao 0 co,.int .i64 3,.int .i64 (-1),.int .i64 (-1),.int .i64 0,.int .i64 0] 159);have HPT:=Zh (ZFd gl gg Lf sv _ tov gr inv gs ins _ g2 0 (by decide) _ (HLw.out.below hal) (HSw.out.below hal));have HBL:=Zh (Za (Blk.new wr 159 #[.slice Ao 0 co,.int .i64 3,.int .i64 (-1),.int .i64 (-1),.int .i64 0,.int .i64 0]) hal);clear y0 y6 z0 HLw HSw hal;go_wp2_with fail
   refine HPT.out.mono ?_;rintro e w3 ⟨⟨g3,rfl,hg3,hs3⟩,hb3⟩;have HW3:=Zh (HW.out.trans (ZA (HBL.out.2.trans (ZA hb3 HBL.out.2.size)) HW.out.size));have t0:=((HBL.out.1.below hb3 HBL.out.1.lt).cell 0).trans rfl;clear HPT hs3 hb3 hg3 y0' y6' z0' c0 c1 c2 c3 c4 c5 HBL;go_wp2_with fail
   go_loopw [8] (fun v W=>v=.int .i64 (-1)∧W=w3) (fun _ _=>0)
   case atStart=>exact ⟨rfl,rfl⟩
   case round=>
    obtain ⟨rfl,rfl⟩:=hrel;clear t0;go_wp2_with fail
    go_roundw
    case rel=>exact ⟨1,by omega,by go_num,HW3.out⟩
    case measure=>first|(simp[intOf];done)|(simp[intOf];omega)
  | 1,_=>
   clear HL1 HS1 HC HR HB;go_wp2_with fail
   go_end0
   exact ⟨rfl,H1.out.trans (ZA HW.out H1.out.size)⟩
attribute [local go_sem] ZAo ZA1
theorem ZHa (g:Nat) (w:World) (hb:ZAV w (.slice (some ⟨g,0,none⟩) 1 1) Lf.bl) (hk:Zj w) :
  Calls Tryz.prog 151 #[.agg #[.string ⟨#[102]⟩,.int .i64 0,.int .i64 0,.slice none 0 0,.slice (some ⟨g,0,none⟩) 1 1]] w fun e w'=>(∃gl gg tov gr inv gs,e=.returned (.tuple #[.pointer (some ⟨gl,0,none⟩),.int .i64 0])∧ZG8 w' gl gg Lf (.slice none 0 0) (.slice (some ⟨g,0,none⟩) 1 1) tov gr inv gs (ZAx Lf))∧Below w.heap.size w w':=by
 have h:=ZFv Lf (.slice none 0 0) (.slice (some ⟨g,0,none⟩) 1 1) w (lf_in hb hk);refine h.mono ?_;rintro e w1 ⟨⟨hb,-⟩|⟨-,wb,gl,gg,tov,gr,inv,gs,rfl,hlb,hls⟩,hb1⟩
 ·exact absurd ZGq (by rw[hb];decide)
 ·exact ⟨⟨gl,gg,tov,gr,inv,gs,rfl,hls.at_ hlb⟩,hb1⟩
theorem ZIo (g:Nat) (w:World) (hb:ZAV w (.slice (some ⟨g,0,none⟩) 1 1) Lf.bl) (hk:Zj w) (ht:ZFM w) :
  Calls Tryz.prog 128 #[.agg #[.string ⟨#[102]⟩,.int .i64 0,.int .i64 0,.slice none 0 0,.slice (some ⟨g,0,none⟩) 1 1]] w fun e w'=>(∃A c,e=.returned (.tuple #[.slice A 0 c,.int .i64 0]))∧Below w.heap.size w w':=by
 have hal:=ZN w (.cells #[.string ⟨#[102]⟩,.int .i64 0,.int .i64 0,.slice none 0 0,.slice (some ⟨g,0,none⟩) 1 1] 82);have HF:=Zh (ZHa g _ (hb.below hal) (hk.below hal));have HX:=Zh (Za (Blk.new w 82 #[.string ⟨#[102]⟩,.int .i64 0,.int .i64 0,.slice none 0 0,.slice (some ⟨g,0,none⟩) 1 1]) hal);have HT:=Zh ht;clear hal hb hk ht;go_enter Tryz.func128,Tryz.ntmps128
 go_wp2_with fail
 refine HF.out.mono ?_;rintro e w1 ⟨⟨gl,gg,tov,gr,inv,gs,rfl,hlv⟩,hb1⟩;have HX1:=Zh (Za (HX.out.1.below hb1 HX.out.1.lt) (HX.out.2.trans (ZA hb1 HX.out.2.size)));have HLV:=Zh hlv;have x2:w1.cell? ⟨w.heap.size,2,none⟩=some (.int .i64 0):=(HX1.out.1.cell 2).trans rfl;clear HF HX hlv hb1;have HNS:=Zh (ZEY w1 0);have hal:=ZN w1 (.cells (Tryz.zeroCells268.setIfInBounds 64 (.int .i64 ((0:Nat):Int))) 268);go_upto_region 5 with fail
 have hB5:=hal.trans (ZA (ZN (w1.alloc (.cells (Tryz.zeroCells268.setIfInBounds 64 (.int .i64 ((0:Nat):Int))) 268)) (.cells #[.pointer (some ⟨w1.heap.size,0,none⟩)] 264)) hal.size);have hpt:=ZY (w:=w1.alloc (.cells (Tryz.zeroCells268.setIfInBounds 64 (.int .i64 ((0:Nat):Int))) 268)) (n:=w1.heap.size+1) (by simp[World.size_alloc]) 264 #[.pointer (some ⟨w1.heap.size,0,none⟩)];have hs5:=HNS.out.below (ZN _ (.cells #[.pointer (some ⟨w1.heap.size,0,none⟩)] 264));obtain ⟨w5,hw5⟩:∃W,(w1.alloc (.cells (Tryz.zeroCells268.setIfInBounds 64 (.int .i64 0)) 268)).alloc (.cells #[.pointer (some ⟨w1.heap.size,0,none⟩)] 264)=W:=⟨_,rfl⟩
 rw[show (((0:Nat):Int))=0 from rfl,hw5] at hB5 hpt hs5;rw[hw5];obtain ⟨gs0,hgs0⟩:∃x,w1.heap.size=x:=⟨_,rfl⟩
 rw[hgs0] at hpt hs5 ⊢;have H5:=Zh (Za (HX1.out.2.trans (ZA hB5 HX1.out.2.size)) (Za hpt hs5));have HEA:=Zh (fun fv=>ZHe gl gg _ _ tov gr inv gs _ fv w5 (HLV.out.below hB5));clear hB5 hpt hs5 hw5 hgs0 HNS HLV HX1 x2 hal;go_wp2_with fail
 refine (HEA.out _).mono ?_;rintro e w6 ⟨rfl,hb6⟩;have H6:=Zh (Za (H5.out.1.trans (ZA hb6 H5.out.1.size)) (Za (H5.out.2.1.below hb6 H5.out.2.1.lt) (H5.out.2.2.below hb6)));clear H5 HEA hb6;have p0:w6.cell? ⟨gs0+1,0,none⟩=some (.pointer (some ⟨gs0,0,none⟩)):=(H6.out.2.1.cell 0).trans rfl;have HLI:=Zh (ZEt gs0 Ze 0 w6 H6.out.2.2 (by decide) (HT.out.below H6.out.1));go_wp2_with fail
 clear p0;refine HLI.out.mono ?_;rintro e w7 ⟨⟨v,rfl,ho⟩,hb7⟩;obtain ⟨A,c,rfl,-,-⟩:=ho.form;have HF:=Zh (H6.out.1.trans (ZA hb7 H6.out.1.size));clear ho hb7 HLI H6;rw[show (listW Ze ((0+63) / 64)).length=0 from by decide];go_wp2_with fail
 go_ret2
 exact ⟨⟨A,c,rfl⟩,HF.out⟩
end Go.Proofs.YtggmkofbikafhaaGreatDoor
