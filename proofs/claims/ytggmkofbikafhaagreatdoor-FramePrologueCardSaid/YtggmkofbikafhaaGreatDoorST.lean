/- Walks and plain laws on the way to FramePrologue (LK, ST). Conditions: those that each theorem states. -/
import Derived.Test.YtggmkofbikafhaaGreatDoorCL
import Derived.Test.YtggmkofbikafhaaGreatDoorMN
import Derived.Test.YtggmkofbikafhaaGreatDoorXX2
set_option linter.unusedVariables false
set_option linter.unusedSimpArgs false
set_option maxRecDepth 100000
set_option maxHeartbeats 40000000
namespace Go.Proofs.YtggmkofbikafhaaGreatDoor
open Go.RowKit Go.Lib
def ZC0 (w:World) (ev ov:Value) (tx:List UInt8) (lb:List Lb):Prop:=∀W,Below w.heap.size w W→Calls Tryz.prog 29 #[ev,ov] W fun e w'=>(∃tv lv r rv,e=.returned (.tuple #[.agg #[tv,.slice none 0 0,lv,.slice (some ⟨r,0,none⟩) 0 0],rv,.agg #[.int .i64 0,.int .i64 0]])∧OwnB w' W.heap.size tv tx∧OwnL w' W.heap.size lv lb∧ZAg w' W.heap.size rv (ZC4 (upN tx.length)))∧Below W.heap.size W w'
def imgZ:Array Value:=#[.slice none 0 0,.slice none 0 0,.int .i64 0]
structure LK (w W:World) (p q:Nat) (tv lv Rv rv:Value) (tx:List UInt8) (lb:List Lb) (T:Nat):Prop where
 be:Below p w W
 pq:p+2≤q
 res:Blk W p 46 imgZ
 flt:Blk W (p+1) 38 #[.int .i64 0,.int .i64 0]
 box:Blk W q 36 #[tv,.slice none 0 0,lv,Rv]
 jf:Blk W (q+1) 38 #[.int .i64 0,.int .i64 0]
 tx:OwnB W (p+2) tv tx
 lb:OwnL W (p+2) lv lb
 rg:ZAg W (p+2) rv (ZC4 T)
theorem LK.bel {w W W':World} {p q:Nat} {tv lv Rv rv:Value} {tx:List UInt8} {lb:List Lb} {T:Nat} (h:LK w W p q tv lv Rv rv tx lb T) (hb:Below W.heap.size W W'):LK w W' p q tv lv Rv rv tx lb T:=
 ⟨h.be.trans (ZA hb (by have:=h.flt.lt;omega)),h.pq,h.res.below hb h.res.lt,h.flt.below hb h.flt.lt,h.box.below hb h.box.lt,h.jf.below hb h.jf.lt,ZB h.tx (ZC (fun _=>False) hb) (fun _ _=>id),h.lb.below hb,h.rg.below hb⟩
theorem und_fls:Tryz.prog.underlying 44=some (.slice 114):=by kernel_rfl
theorem inf_fl:(Tryz.prog.info? 114).map (fun i=>(i.zero,i.size,i.bytes))=some (some (.agg #[.int .i64 0,.slice none 0 0]),2,32):=by kernel_rfl
theorem arowF:ZHl 44 114 2 32:=ZAy und_fls inf_fl rfl (by decide)
def ZIV (w:World) (p:Nat) (a b c e f:Value):World:=(((((w.setCell ⟨p,0,none⟩ a).setCell ⟨p,1,none⟩ b).setCell ⟨p,2,none⟩ c).setCell ⟨p+1,0,none⟩ e).setCell ⟨p+1,1,none⟩ f)
theorem fill5_at {w:World} {p:Nat} {x1 x2 x3 y1 y2:Value} {t u:TypeId} (h0:Blk w p t #[x1,x2,x3]) (h1:Blk w (p+1) u #[y1,y2]) (a b c e f:Value) :
  Blk (ZIV w p a b c e f) p t #[a,b,c]∧Blk (ZIV w p a b c e f) (p+1) u #[e,f]∧ZE (fun k=>k=p∨k=p+1) w (ZIV w p a b c e f):=by
 unfold ZIV;refine ⟨((((h0.set_ 0 a).set_ 1 b).set_ 2 c).far (p:=⟨p+1,0,none⟩) (by simp) e).far (p:=⟨p+1,1,none⟩) (by simp) f,
  (((((h1.far (p:=⟨p,0,none⟩) (by simp) a).far (p:=⟨p,1,none⟩) (by simp) b).far (p:=⟨p,2,none⟩) (by simp) c).set_ 0 e).set_ 1 f),?_⟩
 exact (((((ZE.refl _ w).setCell (p:=⟨p,0,none⟩) (Or.inr (by simp)) a).setCell (p:=⟨p,1,none⟩) (Or.inr (by simp)) b).setCell (p:=⟨p,2,none⟩) (Or.inr (by simp)) c).setCell (p:=⟨p+1,0,none⟩) (Or.inr (by simp)) e).setCell (p:=⟨p+1,1,none⟩) (Or.inr (by simp)) f
theorem link_any (es:ByteArray) (ev ov:Value) (hev:∃A n c,ev=.slice A n c) (hov:∃A n c,ov=.slice A n c) (tx:List UInt8) (lb:List Lb) (w:World) (hpl:ZC0 w ev ov tx lb) (htx:tx.length≤100000) (htx0:0<tx.length) (hlb:lb.length≤1000) (hlb0:0<lb.length)
  (h0:str lb[0].nm=es∧lb[0].at_=0) (hne:∀k (hk:k<lb.length),0<k→str lb[k].nm≠es) :
  Calls Tryz.prog 9 #[.string es,ev,ov] w fun e w'=>(∃gr cr gF cF bv,e=.returned (.tuple #[.agg #[.slice (some ⟨gr,0,none⟩) 3 cr,.slice (some ⟨gF,0,none⟩) 1 cF,.int .i64 4096],.agg #[.int .i64 0,.int .i64 0]])∧ZAg w' w.heap.size (.slice (some ⟨gr,0,none⟩) 3 cr) (ZC4 (upN tx.length))∧w'.cell? ⟨gF,0,none⟩=some (.int .i64 4096)∧w'.cell? ⟨gF,1,none⟩=some bv∧OwnB w' w.heap.size bv tx)∧Below w.heap.size w w':=by
 obtain ⟨Ae,ne,ce,rfl⟩:=hev;obtain ⟨Ao,no,co,rfl⟩:=hov;obtain ⟨p,hp⟩:∃p,w.heap.size=p:=⟨_,rfl⟩
 have HP:=Zh hp;have hst:Below w.heap.size w ((w.alloc (.cells imgZ 46)).alloc (.cells #[.int .i64 0,.int .i64 0] 38)):=bel2 _ _ _;have HJ:=Zh (hpl _ hst);have HST:Hid (Below p w ((w.alloc (.cells imgZ 46)).alloc (.cells #[.int .i64 0,.int .i64 0] 38))∧Blk ((w.alloc (.cells imgZ 46)).alloc (.cells #[.int .i64 0,.int .i64 0] 38)) p 46 imgZ∧Blk ((w.alloc (.cells imgZ 46)).alloc (.cells #[.int .i64 0,.int .i64 0] 38)) (p+1) 38 #[.int .i64 0,.int .i64 0]):=by
  subst hp;exact ⟨hst,(Blk.new w _ _).alloc _,ZY (by simp[World.size_alloc]) _ _⟩
 have HNE:=Zh hne;have HE0:=Zh h0;clear hst hpl hne h0;have hsz:((w.alloc (.cells imgZ 46)).alloc (.cells #[.int .i64 0,.int .i64 0] 38)).heap.size=p+2:=by simp[World.size_alloc,hp]
 rw[hsz] at HJ;clear hsz;rw[hp];go_enter Tryz.func9,Tryz.ntmps9
 go_wp2_with fail
 obtain ⟨W1,hW1⟩:∃W1,(w.alloc (.cells imgZ 46)).alloc (.cells #[.int .i64 0,.int .i64 0] 38)=W1:=⟨_,rfl⟩
 show Calls _ _ _ ((w.alloc (.cells imgZ 46)).alloc (.cells #[.int .i64 0,.int .i64 0] 38)) _;rw[hW1] at HJ HST ⊢;refine HJ.out.mono ?_;rintro e w2 ⟨⟨tv,lv,r0,rv,rfl,ht2,hl2,hr2⟩,hb2⟩;have HS2:=Zh (Za (HST.out.1.trans (ZA hb2 (by omega))) (Za (HST.out.2.1.below hb2 (by omega)) (Za (HST.out.2.2.below hb2 (by omega)) (Za ht2 (Za hl2 hr2)))));obtain ⟨At,ct,rfl,-,-⟩:=ZR ht2;obtain ⟨Al,cl,rfl,-,-⟩:=hl2.form;obtain ⟨gr,cr,rfl,-,-⟩:=hr2.rc3;obtain ⟨n1,hn1⟩:∃n1,tx.length=n1:=⟨_,rfl⟩
 obtain ⟨n3,hn3⟩:∃n3,lb.length=n3:=⟨_,rfl⟩
 obtain ⟨T,hT⟩:∃T,upN tx.length=T:=⟨_,rfl⟩
 rw[hT] at HS2;rw[hn1,hn3] at HS2;rw[hn1] at htx htx0 ⊢;rw[hn3] at hlb ⊢;have HL1:=Zh hn1;have HL3:=Zh hn3;have HTT:=Zh hT;clear ht2 hl2 hr2 hb2 HJ HST hW1 hn1 hn3 hT;go_upto_region 2 with fail
 obtain ⟨q,hq⟩:∃q,w2.heap.size=q:=⟨_,rfl⟩
 obtain ⟨w3,hw3⟩:∃w3,(w2.alloc (.cells #[.slice At n1 ct,.slice none 0 0,.slice Al n3 cl,.slice (some ⟨r0,0,none⟩) 0 0] 36)).alloc (.cells #[.int .i64 0,.int .i64 0] 38)=w3:=⟨_,rfl⟩
 have HS3:Hid (LK w w3 p q (.slice At n1 ct) (.slice Al n3 cl) (.slice (some ⟨r0,0,none⟩) 0 0) (.slice (some ⟨gr,0,none⟩) 3 cr) tx lb T):=by
  have hb:Below w2.heap.size w2 w3:=by rw[←hw3];exact bel2 _ _ _
  have h0:=HS2.out.2.2.1.lt;have hn:=(Blk.new w2 36 #[.slice At n1 ct,.slice none 0 0,.slice Al n3 cl,.slice (some ⟨r0,0,none⟩) 0 0]).alloc (.cells #[.int .i64 0,.int .i64 0] 38);have hn2:Blk ((w2.alloc (.cells #[.slice At n1 ct,.slice none 0 0,.slice Al n3 cl,.slice (some ⟨r0,0,none⟩) 0 0] 36)).alloc (.cells #[.int .i64 0,.int .i64 0] 38)) (q+1) 38 #[.int .i64 0,.int .i64 0]:=ZY (by simp[World.size_alloc,hq]) _ _;rw[hw3] at hn hn2;rw[hq] at hn;exact ⟨HS2.out.1.trans (ZA hb (by omega)),by omega,HS2.out.2.1.below hb HS2.out.2.1.lt,HS2.out.2.2.1.below hb HS2.out.2.2.1.lt,hn,hn2,ZB HS2.out.2.2.2.1 (ZC (fun _=>False) hb) (fun _ _=>id),OwnL.below HS2.out.2.2.2.2.1 hb,ZAg.below HS2.out.2.2.2.2.2 hb⟩
 first|rw[hw3,hq]|(rw[hw3];try rw[hq])
 clear hw3 hq HS2;have b0:w3.cell? ⟨q,0,none⟩=some (.slice At n1 ct):=HS3.out.box.cellq rfl;have b1:w3.cell? ⟨q,1,none⟩=some (.slice none 0 0):=HS3.out.box.cellq rfl;have j1:w3.cell? ⟨q+1,1,none⟩=some (.int .i64 0):=HS3.out.jf.cellq rfl;go_upto_region 4 with fail
 clear j1;have HBT:Hid (∀W,Below w3.heap.size w3 W→Calls Tryz.prog 30 #[.slice At n1 ct] W fun e w'=>(∃v',e=.returned v'∧OwnB w' W.heap.size v' tx)∧Below W.heap.size W w'):=fun W hW=>by
  have h1:=ZCD (.slice At tx.length ct) tx W (by
   have h2:=(RowOf.own HS3.out.tx).below hW
   rwa[←HL1.out] at h2) (by rw[HL1.out];omega)
  rwa[HL1.out] at h1
 have HBD:=Zh (fun W=>ZCD (.slice none 0 0) [] W ⟨none,0,rfl,Nat.le_refl _,by decide,fun h=>absurd h (by decide)⟩ (by simp));refine wp_region_held_drew (S:=(fun W=>W.cell? ⟨q,0,none⟩=some (.slice At n1 ct)∧W.cell? ⟨q,1,none⟩=some (.slice none 0 0))) (by kernel_rfl) ?_ (fun hHeld=>?_)
 ·exact ⟨b0,b1⟩
 have HB4:Hid (Below w3.heap.size w3 w3.drew):=ZAO (Below.refl _ _);clear b0 b1;generalize w3.drew=w4 at HB4 hHeld ⊢;refine FU 8 rfl ?_;iterate 2 (refine TN 8 rfl ?_;try simp only[AP,Nat.reduceAdd,Nat.reduceSub])
 refine TW 3 rfl ?_;try simp only[AP]
 refine TW 4 rfl ?_;try simp only[AP]
 refine RW 2 rfl fun K hK=>?_;go_simp;go_at_call 30;refine (HBT.out _ HB4.out).mono ?_;rintro e w5 ⟨⟨bv,rfl,ho5⟩,hb5⟩;obtain ⟨Ab,cb,rfl,-,-⟩:=ZR ho5;rw[HL1.out] at ho5 ⊢;try go_simp
 refine hK.out _ _ (show _∧_ from ⟨(hb5.cell (cell_lt hHeld.1)).trans hHeld.1,(hb5.cell (cell_lt hHeld.2)).trans hHeld.2⟩) (fun hHeld=>?_);have HB5:=Zh (show Below w3.heap.size w3 w5∧OwnB w5 w4.heap.size (.slice Ab n1 cb) tx from ⟨HB4.out.trans (ZA hb5 HB4.out.size),ho5⟩);clear hb5 ho5;clear hK K;try simp only[AP]
 refine RW 5 rfl fun K hK=>?_;go_simp;go_at_call 30;refine (HBD.out _).mono ?_;rintro e w6 ⟨⟨dv,rfl,ho6⟩,hb6⟩;obtain ⟨Ad,cd,rfl,-,-⟩:=ZR ho6;try go_simp
 refine hK.out _ _ (show _∧_ from ⟨(hb6.cell (cell_lt hHeld.1)).trans hHeld.1,(hb6.cell (cell_lt hHeld.2)).trans hHeld.2⟩) (fun hHeld=>?_);have HB6:=Zh (show Below w3.heap.size w3 w6∧OwnB w6 w4.heap.size (.slice Ab n1 cb) tx from ⟨HB5.out.1.trans (ZA hb6 HB5.out.1.size),ZB HB5.out.2 (ZC (fun _=>False) hb6) (fun _ _=>id)⟩);clear hb6 ho6 HB5;clear hK K;try simp only[AP]
 refine RW 6 rfl fun K hK=>?_;go_simp;have hal6:=ZV w6 (.cells #[.slice Ab n1 cb,.slice Ad 0 cd] 32);have hbl6:=Blk.new w6 32 #[.slice Ab n1 cb,.slice Ad 0 cd];obtain ⟨gp,hgp⟩:∃gp,w6.heap.size=gp:=⟨_,rfl⟩
 obtain ⟨w7,hw7⟩:∃w7,w6.alloc (.cells #[.slice Ab n1 cb,.slice Ad 0 cd] 32)=w7:=⟨_,rfl⟩
 try simp only[List.length_nil]
 rw[hw7] at hal6 hbl6 ⊢;rw[hgp] at hbl6;try rw[hgp]
 refine hK.out _ _ (show _∧_ from ⟨(hal6.cell (cell_lt hHeld.1)).trans hHeld.1,(hal6.cell (cell_lt hHeld.2)).trans hHeld.2⟩) (fun hHeld=>?_);have H7:=Zh (show Below w3.heap.size w3 w7∧OwnB w7 w4.heap.size (.slice Ab n1 cb) tx∧Blk w7 gp 32 #[.slice Ab n1 cb,.slice Ad 0 cd]∧p+2≤gp from ⟨HB6.out.1.trans (ZA hal6 HB6.out.1.size),ZB HB6.out.2 (ZC (fun _=>False) hal6) (fun _ _=>id),hbl6,by have:=HB6.out.1.size;have:=HS3.out.flt.lt;omega⟩);clear hal6 hbl6 hw7 hgp HB6;clear hK K;try simp only[AP]
 refine TW 7 rfl ?_;try simp only[AP]
 refine wpAnyH_done (by kernel_rfl) ?_ _;clear hHeld HBT HBD;have HS7:=Zh (HS3.out.bel H7.out.1);have H7':Hid (OwnB w7 (p+2) (.slice Ab n1 cb) tx∧Blk w7 gp 32 #[.slice Ab n1 cb,.slice Ad 0 cd]∧p+2≤gp):=⟨ZO H7.out.2.1 (by have:=HB4.out.size;have:=HS3.out.flt.lt;omega),H7.out.2.2⟩
 clear HS3 H7 HB4;have b3:w7.cell? ⟨q,3,none⟩=some (.slice (some ⟨r0,0,none⟩) 0 0):=HS7.out.box.cellq rfl;go_wp2_with fail
 go_loopw [12] (fun iv W=>iv=.int .i64 0∧W=w7) (fun _ _=>0)
 case atStart=>exact ⟨rfl,rfl⟩
 case round=>
  obtain ⟨rfl,rfl⟩:=hrel;go_wp2_with fail
  obtain ⟨wB,hwB⟩:∃wB,wB=wr:=⟨_,rfl⟩
  subst hwB;clear b3;have b2:wB.cell? ⟨q,2,none⟩=some (.slice Al n3 cl):=HS7.out.box.cellq rfl
  go_loopw [18,17] (fun iv av W=>∃k:Nat,k≤n3∧iv=.int .i64 k∧av=.int .i64 (if k=0 then -1 else 4096)∧W=wB) (fun iv _ _=>n3-(Go.RowKit.intOf iv).toNat)
  case atStart=>exact ⟨0,by omega,rfl,rfl,rfl⟩
  case round=>
   obtain ⟨k,hk,rfl,rfl,rfl⟩:=hrel;rcases Nat.lt_or_ge k n3 with hlt|hge
   ·have hkl:k<lb.length:=by rw[HL3.out];exact hlt
    have hrow:RowOf wr (.slice Al n3 cl) lb.length (lb.flatMap lbc):=by
     have:=RowOf.own HS7.out.lb;rwa[HL3.out] at this ⊢
    obtain ⟨g3,off3,rfl,hg3,hc3⟩:=ZAp hrow hkl;obtain ⟨c0,c1,c2,-⟩:=hc3 k hkl;have hk3:k<n3:=by omega
    rcases Nat.eq_zero_or_pos k with rfl|hkp
    ·rw[HE0.out.1] at c0
     rw[HE0.out.2] at c2;have he:(es.toList==es.toList)=true:=beq_self_eq_true _;simp only[Nat.zero_mul,Nat.add_zero] at c0 c1 c2;clear hc3 hrow hg3;go_wp2_with fail
     go_roundw
     case rel=>exact ⟨1,by omega,by go_num,rfl,trivial⟩
     case measure=>first|(simp[Go.RowKit.intOf];done)|(simp[Go.RowKit.intOf];omega)
    ·have hn:=HNE.out k hkl hkp
     obtain ⟨s1,hs1⟩:∃s,str lb[k].nm=s:=⟨_,rfl⟩
     rw[hs1] at c0 hn;have he:(s1.toList==es.toList)=false:=beq_eq_false_iff_ne.2 (fun e=>hn (eq_of_toList e));clear hs1 hn hc3 hrow hg3 c1 c2;rw[if_neg (by omega)];go_wp2_with fail
     go_roundw
     case rel=>exact ⟨k+1,by omega,by go_num,by rw[if_neg (by omega)],trivial⟩
     case measure=>first|(simp[Go.RowKit.intOf];done)|(simp[Go.RowKit.intOf];omega)
   ·have hkn:k=n3:=by omega
    subst hkn;have hn30:0<k:=by rw[←HL3.out];exact hlb0
    rw[if_neg (by omega)];go_wp2_with fail
    clear b2;obtain ⟨wC,hwC⟩:∃wC,wC=wr:=⟨_,rfl⟩
    subst hwC;obtain ⟨gI,hgI⟩:∃gI,wC.heap.size=gI:=⟨_,rfl⟩
    have hal:=ZV wC (.cells #[.slice (some ⟨gr,0,none⟩) 3 cr,.slice none 0 0,.int .i64 4096] 46);have hbl:=Blk.new wC 46 #[.slice (some ⟨gr,0,none⟩) 3 cr,.slice none 0 0,.int .i64 4096];obtain ⟨w8,hw8⟩:∃w8,wC.alloc (.cells #[.slice (some ⟨gr,0,none⟩) 3 cr,.slice none 0 0,.int .i64 4096] 46)=w8:=⟨_,rfl⟩
    rw[hw8] at hal hbl;rw[hgI] at hbl;have H8:Hid (LK w w8 p q (.slice At n1 ct) (.slice Al k cl) (.slice (some ⟨r0,0,none⟩) 0 0) (.slice (some ⟨gr,0,none⟩) 3 cr) tx lb T∧OwnB w8 (p+2) (.slice Ab n1 cb) tx∧Blk w8 gp 32 #[.slice Ab n1 cb,.slice Ad 0 cd]∧Blk w8 gI 46 #[.slice (some ⟨gr,0,none⟩) 3 cr,.slice none 0 0,.int .i64 4096]∧p+2≤gI∧RC3 w8 gr T):=by
     have h1:=HS7.out.bel hal;obtain ⟨g,c,e,hrc,-⟩:=h1.rg.rc3;injection e with e1 e2 e3
     injection e1 with e1
     injection e1 with e1
     subst e1;exact ⟨h1,ZB H7'.out.1 (ZC (fun _=>False) hal) (fun _ _=>id),H7'.out.2.1.below hal H7'.out.2.1.lt,hbl,by have:=HS7.out.flt.lt;omega,hrc⟩
    have HGP:=Zh H7'.out.2.2
    first|rw[hw8,hgI]|(rw[hw8];try rw[hgI])
    clear hw8 hgI hal hbl HS7 H7'
    go_loopw [20] (fun iv W=>∃j:Nat,j≤2∧iv=.int .i64 j∧Hid (j=0→W=w8)∧Hid (0<j→∃gF cF,LK w W p q (.slice At n1 ct) (.slice Al k cl) (.slice (some ⟨r0,0,none⟩) 0 0) (.slice (some ⟨gr,0,none⟩) 3 cr) tx lb T∧OwnB W (p+2) (.slice Ab n1 cb) tx∧Blk W gp 32 #[.slice Ab n1 cb,.slice Ad 0 cd]∧Blk W gI 46 #[.slice (some ⟨gr,0,none⟩) 3 cr,.slice (some ⟨gF,0,none⟩) 1 cF,.int .i64 4096]∧W.cell? ⟨gF,0,none⟩=some (.int .i64 4096)∧W.cell? ⟨gF,1,none⟩=some (.slice Ab n1 cb)∧p+2≤gF)) (fun iv _=>2-(Go.RowKit.intOf iv).toNat)
    case atStart=>exact ⟨0,by omega,rfl,fun _=>rfl,fun h=>by omega⟩
    case round=>
     obtain ⟨j,hj,rfl,HA,HB⟩:=hrel;rcases (show j=0∨j=1∨j=2 by omega) with rfl|rfl|rfl
     ·have hwa:=(HA.out rfl).symm
      clear HA HB;subst hwa;have p0:w8.cell? ⟨gp,0,none⟩=some (.slice Ab n1 cb):=H8.out.2.2.1.cellq rfl;have en:(0:Int)<(n1:Int):=by omega
      go_upto_region 28 with fail
      have hS00:(fun W:World=>W.cell? ⟨gI,1,none⟩=some (.slice none 0 0)∧W.cell? ⟨gr,1,none⟩=some (.int .i64 4096)∧W.cell? ⟨gp,0,none⟩=some (.slice Ab n1 cb)) w8.drew:=⟨(show w8.cell? _=_ from H8.out.2.2.2.1.cellq rfl),(show w8.cell? _=_ from H8.out.2.2.2.2.2.a1),(show w8.cell? _=_ from p0)⟩
      refine Zk (S:=(fun W:World=>W.cell? ⟨gI,1,none⟩=some (.slice none 0 0)∧W.cell? ⟨gr,1,none⟩=some (.int .i64 4096)∧W.cell? ⟨gp,0,none⟩=some (.slice Ab n1 cb))) 15 (by kernel_rfl) hS00 (fun hS0=>?_);have H9:Hid (LK w w8.drew p q (.slice At n1 ct) (.slice Al k cl) (.slice (some ⟨r0,0,none⟩) 0 0) (.slice (some ⟨gr,0,none⟩) 3 cr) tx lb T∧OwnB w8.drew (p+2) (.slice Ab n1 cb) tx∧Blk w8.drew gp 32 #[.slice Ab n1 cb,.slice Ad 0 cd]∧Blk w8.drew gI 46 #[.slice (some ⟨gr,0,none⟩) 3 cr,.slice none 0 0,.int .i64 4096]∧p+2≤gI):=⟨H8.out.1.bel (ZAO (Below.refl _ _)),H8.out.2.1,H8.out.2.2.1,H8.out.2.2.2.1,H8.out.2.2.2.2.1⟩
      clear hS00 p0 en H8;generalize w8.drew=w9 at H9 hS0 ⊢;have ha:=ZV w9 (.cells #[.int .i64 4096,.slice Ab n1 cb] 114);have hu:RowOf (w9.alloc (.cells #[.int .i64 4096,.slice Ab n1 cb] 114)) (.slice (some ⟨w9.heap.size,0,none⟩) 1 1) 1 [.int .i64 4096,.slice Ab n1 cb]:=by
       refine ⟨_,_,rfl,Nat.le_refl _,by decide,fun _=>⟨_,0,rfl,by simp[World.size_alloc],fun j u hj=>?_⟩⟩;rw[Nat.zero_add,(Blk.new w9 _ _).cell]
       simpa using hj
      obtain ⟨v',X,e1,e2,e3,e4⟩:=app_any arowF 44 (World.ownsRow_nil (w9.alloc (.cells #[.int .i64 4096,.slice Ab n1 cb] 114)) w9.heap.size 114 2) hu (by simp) (by intro y hy;simp at hy;rcases hy with rfl|rfl<;>rfl) (by decide) (by decide) (by simp[World.size_alloc]);rw[Nat.zero_add] at e2;obtain ⟨gF,cF,rfl⟩:=ZAJ e2 (by decide);obtain ⟨gF',off,cap,e,-,-,-,hcc⟩:=RowOf.open_ (RowOf.own e2) (by decide);injection e with ea eb ec
      injection ea with ea
      injection ea with ea eb'
      subst ea;subst eb';have hkx:Below w9.heap.size w9 X:=(ha.trans (((ZE.refl (fun _=>False) _).grown e3 (fun g hg=>by cases hg)).below.mono (by simp[World.size_alloc])))
      have hgF:=ZAB e2 (g:=gF) rfl;have f0:X.cell? ⟨gF,0,none⟩=some (.int .i64 4096):=hcc 0 _ rfl;have f1:X.cell? ⟨gF,1,none⟩=some (.slice Ab n1 cb):=hcc 1 _ rfl;have HRUN:=Zh e1;have hIX:=H9.out.2.2.2.1.below hkx H9.out.2.2.2.1.lt;have hkS:ZE (fun g=>g=gI) X (X.setCell ⟨gI,1,none⟩ (.slice (some ⟨gF,0,none⟩) 1 cF)):=(ZE.refl (fun g=>g=gI) X).setCell (p:=⟨gI,1,none⟩) (Or.inr rfl) _;have hX:=H9.out.1.bel hkx;have HN:=Zh (show LK w (X.setCell ⟨gI,1,none⟩ (.slice (some ⟨gF,0,none⟩) 1 cF)) p q (.slice At n1 ct) (.slice Al k cl) (.slice (some ⟨r0,0,none⟩) 0 0) (.slice (some ⟨gr,0,none⟩) 3 cr) tx lb T∧OwnB (X.setCell ⟨gI,1,none⟩ (.slice (some ⟨gF,0,none⟩) 1 cF)) (p+2) (.slice Ab n1 cb) tx∧Blk (X.setCell ⟨gI,1,none⟩ (.slice (some ⟨gF,0,none⟩) 1 cF)) gp 32 #[.slice Ab n1 cb,.slice Ad 0 cd]∧Blk (X.setCell ⟨gI,1,none⟩ (.slice (some ⟨gF,0,none⟩) 1 cF)) gI 46 #[.slice (some ⟨gr,0,none⟩) 3 cr,.slice (some ⟨gF,0,none⟩) 1 cF,.int .i64 4096]∧(X.setCell ⟨gI,1,none⟩ (.slice (some ⟨gF,0,none⟩) 1 cF)).cell? ⟨gF,0,none⟩=some (.int .i64 4096)∧(X.setCell ⟨gI,1,none⟩ (.slice (some ⟨gF,0,none⟩) 1 cF)).cell? ⟨gF,1,none⟩=some (.slice Ab n1 cb)∧p+2≤gF from by
       have hgI:=H9.out.2.2.2.2;have hlt9:=H9.out.2.2.2.1.lt;have hno:∀g t cs,Blk X g t cs→t≠46→¬g=gI:=fun g t cs hb ht e=>by
        subst e;exact ht (hb.kind hIX)
       refine ⟨⟨hX.be.trans (hkS.toBelow (by have:=hX.flt.lt;omega) (fun g hg e=>by omega)),hX.pq,hX.res.keeps hkS (fun e=>by omega),hX.flt.keeps hkS (fun e=>by omega),hX.box.keeps hkS (hno _ _ _ hX.box (by decide)),hX.jf.keeps hkS (hno _ _ _ hX.jf (by decide)),ZB hX.tx hkS (fun g hg e=>?_),ZB hX.lb hkS (fun g hg e=>?_),ZB hX.rg hkS (fun g hg e=>?_)⟩,ZB (ZB H9.out.2.1 (ZC (fun _=>False) hkx) (fun _ _=>id)) hkS (fun g hg e=>?_),(H9.out.2.2.1.below hkx H9.out.2.2.1.lt).keeps hkS (hno _ _ _ (H9.out.2.2.1.below hkx H9.out.2.2.1.lt) (by decide)),hIX.set_ 1 _,(hkS.cell (cell_lt f0) (show ¬gF=gI by omega)).trans f0,(hkS.cell (cell_lt f1) (show ¬gF=gI by omega)).trans f1,by omega⟩
       ·obtain ⟨cu,hcu⟩:=ZI hX.tx hg
        exact hno _ _ _ hcu (by decide) e
       ·obtain ⟨cu,hcu⟩:=ZI hX.lb hg
        exact hno _ _ _ hcu (by decide) e
       ·obtain ⟨cu,hcu⟩:=ZI hX.rg hg
        exact hno _ _ _ hcu (by decide) e
       ·obtain ⟨cu,hcu⟩:=ZI (ZB H9.out.2.1 (ZC (fun _=>False) hkx) (fun _ _=>id)) hg
        exact hno _ _ _ hcu (by decide) e)
      have hS1:X.cell? ⟨gI,1,none⟩=some (.slice none 0 0)∧X.cell? ⟨gr,1,none⟩=some (.int .i64 4096)∧X.cell? ⟨gp,0,none⟩=some (.slice Ab n1 cb):=⟨(hkx.cell (cell_lt hS0.1)).trans hS0.1,(hkx.cell (cell_lt hS0.2.1)).trans hS0.2.1,(hkx.cell (cell_lt hS0.2.2)).trans hS0.2.2⟩
      have HS1:=Zh hS1;have HFZ:=Zh (hIX.frozen 1);clear ha hu e1 e2 e3 e4 hcc hkx hgF f0 f1 hIX hkS hX H9 eb ec hS1;refine TE 0 0 rfl ?_;simp only[AP];refine TE 1 1 rfl ?_;simp only[AP];refine TE 2 2 rfl ?_;simp only[AP];refine TE 3 3 rfl ?_;simp only[AP];refine TE 4 4 rfl ?_;simp only[AP];refine TE 5 5 rfl ?_;simp only[AP];refine TE 6 6 rfl ?_;simp only[AP];refine TE 7 7 rfl ?_;simp only[AP];refine TE 8 8 rfl ?_;simp only[AP];refine TE 9 9 rfl ?_;simp only[AP];refine TE 10 10 rfl ?_;simp only[AP];refine TE 11 11 rfl ?_;simp only[AP];refine ZH (rs:=[12]) (by kernel_rfl) (by simp) ?_;refine ZG.cons rfl (fun K hK=>?_) ZG.nil;go_simp;refine hK.out _ _ (fun _=>(show _∧_∧_ from ⟨ZJ hS0.1 _,ZJ hS0.2.1 _,ZJ hS0.2.2 _⟩)) (fun hSq=>?_);clear hSq hK K hS0;try simp only[AP]
      refine ZH (rs:=[13]) (by kernel_rfl) (by simp) ?_;refine ZG.cons rfl (fun K hK=>?_) ZG.nil;refine ZL (by rfl) (.tmp 140) (.tmp 151) 44 (by rfl) (by rfl) (by rfl) HRUN.out ?_;refine hK.out _ _ (fun _=>HS1.out) (fun _=>?_);clear hK K HRUN;try simp only[AP]
      have hS1:=HS1.out;refine TE 14 14 rfl ?_;simp only[AP];have hct:=hS1.1;have hfl2:=HFZ.out;refine ZH (rs:=[15]) (by kernel_rfl) (by simp) ?_;refine ZG.cons rfl (fun K hK=>?_) ZG.nil;go_simp;refine hK.out _ _ (fun h=>absurd rfl h) (fun _=>?_);clear hK K;try simp only[AP]
      refine ZAL (by kernel_rfl) ?_ _;clear hct hfl2 hS1 HS1 HFZ;go_wp2_with fail
      go_roundw
      case rel=>exact ⟨1,by omega,by go_num,fun h=>by omega,fun _=>⟨gF,cF,HN.out⟩⟩
      case measure=>first|(simp[Go.RowKit.intOf];done)|(simp[Go.RowKit.intOf];omega)
     ·obtain ⟨gF,cF,hN⟩:=HB.out (by omega)
      have p1:wr.cell? ⟨gp,1,none⟩=some (.slice Ad 0 cd):=hN.2.2.1.cellq rfl;have HN:=Zh hN;clear hN HA HB;go_wp2_with fail
      go_roundw
      case rel=>exact ⟨2,by omega,by go_num,fun h=>by omega,fun _=>⟨gF,cF,HN.out⟩⟩
      case measure=>first|(simp[Go.RowKit.intOf];done)|(simp[Go.RowKit.intOf];omega)
     ·obtain ⟨gF,cF,hN⟩:=HB.out (by omega)
      have HN:=Zh hN;clear HA HB;have i0:wr.cell? ⟨gI,0,none⟩=some (.slice (some ⟨gr,0,none⟩) 3 cr):=hN.2.2.2.1.cellq rfl;have i1:wr.cell? ⟨gI,1,none⟩=some (.slice (some ⟨gF,0,none⟩) 1 cF):=hN.2.2.2.1.cellq rfl;have i2:wr.cell? ⟨gI,2,none⟩=some (.int .i64 4096):=hN.2.2.2.1.cellq rfl;have r0':=hN.1.res.cell 0;have r1:=hN.1.res.cell 1;have r2:=hN.1.res.cell 2;have f0:=hN.1.flt.cell 0;have f1:=hN.1.flt.cell 1;have m0:=hN.1.res.frozen 0;have m1:=hN.1.res.frozen 1;have m2:=hN.1.res.frozen 2;have m4:=hN.1.flt.frozen 0;have m5:=hN.1.flt.frozen 1;simp only[imgZ] at r0' r1 r2;clear hN;go_wp2_with fail
      show bodyPost _ _ _ _ _ (ZIV wr p (.slice (some ⟨gr,0,none⟩) 3 cr) (.slice (some ⟨gF,0,none⟩) 1 cF) (.int .i64 4096) (.int .i64 0) (.int .i64 0));have hF:=fill5_at HN.out.1.res HN.out.1.flt (.slice (some ⟨gr,0,none⟩) 3 cr) (.slice (some ⟨gF,0,none⟩) 1 cF) (.int .i64 4096) (.int .i64 0) (.int .i64 0);obtain ⟨W6,hW6⟩:∃W6,ZIV wr p (.slice (some ⟨gr,0,none⟩) 3 cr) (.slice (some ⟨gF,0,none⟩) 1 cF) (.int .i64 4096) (.int .i64 0) (.int .i64 0)=W6:=⟨_,rfl⟩
      rw[hW6] at hF ⊢;clear i0 i1 i2 r0' r1 r2 f0 f1 m0 m1 m2 m4 m5 hW6;obtain ⟨h0,h1,hk6⟩:=hF;have y0:=h0.cell 0;have y1:=h0.cell 1;have y2:=h0.cell 2;have u0:=h1.cell 0;have u1:=h1.cell 1;refine bodyPost_ret (v:=.tuple #[.agg #[.slice (some ⟨gr,0,none⟩) 3 cr,.slice (some ⟨gF,0,none⟩) 1 cF,.int .i64 4096],.agg #[.int .i64 0,.int .i64 0]]) (by simp[results,Tryz.results9,y0,y1,y2,u0,u1,go_sem]) rfl ?_;obtain ⟨n1',n2',-,-,n5',n6',n7'⟩:=HN.out;rw[HTT.out];refine ⟨⟨gr,cr,gF,cF,.slice Ab n1 cb,rfl,?_,(hk6.cell (cell_lt n5') (show ¬(gF=p∨gF=p+1) by omega)).trans n5',(hk6.cell (cell_lt n6') (show ¬(gF=p∨gF=p+1) by omega)).trans n6',?_⟩,?_⟩
      ·refine ZO (ZB n1'.rg hk6 (fun g hg h=>?_)) (by omega)
       have:=ZAg.ge n1'.rg g hg;omega
      ·refine ZO (ZB n2' hk6 (fun g hg h=>?_)) (by omega)
       have:=ZAB n2' hg;omega
      ·exact n1'.be.trans (hk6.toBelow (by have:=n1'.flt.lt;omega) (fun k hk h=>by omega))
theorem ZGS (v1 v2 v4:Value) (A3:Option Addr) (k3 gr nr cr n:Nat) (lb:List Lb) (w:World) (h:RowOf w (.slice A3 lb.length k3) lb.length (lb.flatMap lbc)) (hg:ZIs n lb) (hr:w.cell? ⟨gr,1,none⟩=some (.int .i64 4096)) (hnr:1≤nr) (j:Nat) (hj:j<lb.length) :
  Calls Tryz.prog 31 #[.agg #[v1,v2,.slice A3 lb.length k3,v4],.slice (some ⟨gr,0,none⟩) nr cr,.string (str lb[j].nm)] w fun e w'=>e=.returned (.tuple #[.int .i64 (4096+(lb[j].at_:Int)),.bool true])∧Below w.heap.size w w':=by
 have hb:=ZV w (.cells #[v1,v2,.slice A3 lb.length k3,v4] 36);have HR:=Zh (h.below hb);have HB:=Zh hb;have HG:=Zh hg;have HBL:=Zh (Blk.new w 36 #[v1,v2,.slice A3 lb.length k3,v4]);have HR0:=Zh (ZJ hr (.cells #[v1,v2,.slice A3 lb.length k3,v4] 36));have hlb:=hg.len;obtain ⟨at_,hat⟩:∃a,lb[j].at_=a:=⟨_,rfl⟩
 have hatl:at_≤1000000:=by
  have h1:=hg.at_ _ (List.getElem_mem hj);have h2:=hg.few;omega
 obtain ⟨s,hs⟩:∃s,str lb[j].nm=s:=⟨_,rfl⟩
 have HS:=Zh hs;have HAT:=Zh hat;have HJ:=Zh hj;rw[hs,hat];clear h hg hb hr hs hat;obtain ⟨n3,hn3⟩:∃n3,lb.length=n3:=⟨_,rfl⟩
 rw[hn3] at HR HB HBL hlb HR0 ⊢;have HN3:=Zh hn3;have hj3:j<n3:=by omega
 clear hn3;go_enter Tryz.func31,Tryz.ntmps31
 go_wp2_with fail
 obtain ⟨w1,hw1⟩:∃w1,w.alloc (.cells #[v1,v2,.slice A3 n3 k3,v4] 36)=w1:=⟨_,rfl⟩
 rw[hw1] at HR HB HBL HR0 ⊢;clear hw1
 go_loopw [8] (fun v W=>∃k:Nat,k≤j∧v=.int .i64 k∧W=w1) (fun v _=>j-(Go.RowKit.intOf v).toNat)
 case atStart=>exact ⟨0,by omega,rfl,rfl⟩
 case round=>
  obtain ⟨k,hk,rfl,rfl⟩:=hrel;have d2:wr.cell? ⟨w.heap.size,2,none⟩=some (.slice A3 n3 k3):=(HBL.out.cell 2).trans rfl;have hkl:k<lb.length:=by omega
  have hrow:RowOf wr (.slice A3 n3 k3) lb.length (lb.flatMap lbc):=by rw[HN3.out];exact HR.out
  obtain ⟨g3,off3,rfl,hg3,hc3⟩:=ZAp hrow hkl;obtain ⟨c0,c1,c2,-⟩:=hc3 k hkl;have hk3:k<n3:=by omega
  by_cases hlt:k<j
  ·have hne:=fun e=>HG.out.new k j hkl hj hlt (ZBq e)
   rw[HS.out] at hne;obtain ⟨s1,hs1⟩:∃s,str lb[k].nm=s:=⟨_,rfl⟩
   rw[hs1] at c0 hne;have he:(s1.toList==s.toList)=false:=beq_eq_false_iff_ne.2 (fun e=>hne (eq_of_toList e));clear hs1 hne hc3 hrow hg3 c1 c2;go_wp2_with fail
   go_roundw
   case rel=>exact ⟨k+1,by omega,by go_num,trivial⟩
   case measure=>first|(simp[Go.RowKit.intOf];done)|(simp[Go.RowKit.intOf];omega)
  ·have hkj:k=j:=by omega
   subst hkj;rw[HS.out] at c0;rw[HAT.out] at c2;have he:(s.toList==s.toList)=true:=beq_self_eq_true _;have r1:=HR0.out;have e1:IntKind.i64.wrap (4096+(at_:Int))=4096+(at_:Int):=IntWalk.i64_in _ (by omega);clear hc3 hrow hg3;go_wp2_with fail
   go_quiet (fail)
   go_wp2_with fail
   refine bodyPost_ret (v:=.tuple #[.int .i64 (4096+(at_:Int)),.bool true]) (by simp[results,Tryz.results31,go_sem]) rfl ?_;exact ⟨rfl,ZM HB.out _⟩
end Go.Proofs.YtggmkofbikafhaaGreatDoor
