/- Walks and plain laws on the way to FramePrologue (XX2). Conditions: those that each theorem states. -/
import Derived.Test.YtggmkofbikafhaaGreatDoorXX1
set_option linter.unusedVariables false
set_option linter.unusedSimpArgs false
set_option maxRecDepth 100000
set_option maxHeartbeats 40000000
namespace Go.Proofs.YtggmkofbikafhaaGreatDoor
open Go.RowKit Go.Lib
def ZHk (w:World) (ov:Value) (tx:List UInt8) (lb:List Lb):Prop:=∀W,Below w.heap.size w W→Calls Tryz.prog 69 #[ov] W fun e w'=>(∃tv lv r,e=.returned (.tuple #[.agg #[tv,.slice none 0 0,lv,.slice (some ⟨r,0,none⟩) 0 0],.agg #[.int .i64 0,.int .i64 0]])∧OwnB w' W.heap.size tv tx∧OwnL w' W.heap.size lv lb)∧Below W.heap.size W w'
theorem ZKs {w:World} {s:Nat} {t:TypeId} {a b c d e:Value} (h:Blk w s t #[a,b,c,d,e]) (x y:Value):Blk ((w.setCell ⟨s,1,none⟩ x).setCell ⟨s,2,none⟩ y) s t #[a,x,y,d,e]:=(h.set_ 1 x).set_ 2 y
def ZBr (F:Int):Rng:=⟨dataS,F,0,true,false⟩
def rngKF (F:Int):Rng:=⟨stackS,F,16384,true,false⟩
def ZJL (T:Nat) (F:Int):List Rng:=[ZAv T,ZBr F,rngKF F]
theorem rngsF_eq (T:Nat):ZJL T (4096+(T:Int))=ZC4 T:=rfl
def endS:ByteArray:={ data:=#[46,101,110,100] }
theorem ZH9 (gE cE:Nat) (ov:Value) (hov:∃A n c,ov=.slice A n c) (tx:List UInt8) (lb:List Lb) (w:World) (he:w.cell? ⟨gE,0,none⟩=some (.string stackS)∧w.cell? ⟨gE,1,none⟩=some (.int .i64 0)∧w.cell? ⟨gE,2,none⟩=some (.int .i64 16384)∧w.cell? ⟨gE,3,none⟩=some (.bool true)∧w.cell? ⟨gE,4,none⟩=some (.bool false))
  (hj:ZHk w ov tx lb) (htx:tx.length≤1000000) (hlb:lb.length≤1000) (hn1:∀x∈lb,str x.nm≠stackS) (hn2:∀x∈lb,str x.nm≠stackS++endS) :
  Calls Tryz.prog 29 #[.slice (some ⟨gE,0,none⟩) 1 cE,ov] w fun e w'=>(∃tv lv r rv,e=.returned (.tuple #[.agg #[tv,.slice none 0 0,lv,.slice (some ⟨r,0,none⟩) 0 0],rv,.agg #[.int .i64 0,.int .i64 0]])∧OwnB w' w.heap.size tv tx∧OwnL w' w.heap.size lv lb∧ZAg w' w.heap.size rv (ZC4 (upN tx.length)))∧Below w.heap.size w w':=by
 obtain ⟨Ao,no,co,rfl⟩:=hov;obtain ⟨p,hp⟩:∃p,w.heap.size=p:=⟨_,rfl⟩
 have HP:=Zh hp;have hst:Below w.heap.size w ((w.alloc (.cells ZAk 36)).alloc (.cells #[.int .i64 0,.int .i64 0] 38)):=bel2 _ _ _;have HJ:=Zh (hj _ hst);have HST:Hid (Below p w ((w.alloc (.cells ZAk 36)).alloc (.cells #[.int .i64 0,.int .i64 0] 38))∧Blk ((w.alloc (.cells ZAk 36)).alloc (.cells #[.int .i64 0,.int .i64 0] 38)) p 36 ZAk∧Blk ((w.alloc (.cells ZAk 36)).alloc (.cells #[.int .i64 0,.int .i64 0] 38)) (p+1) 38 #[.int .i64 0,.int .i64 0]):=by
  subst hp;exact ⟨hst,(Blk.new w _ _).alloc _,ZY (by simp[World.size_alloc]) _ _⟩
 have HE:=Zh he;have HN1:=Zh hn1;have HN2:=Zh hn2;clear hst hj he hn1 hn2;have hsz:((w.alloc (.cells ZAk 36)).alloc (.cells #[.int .i64 0,.int .i64 0] 38)).heap.size=p+2:=by simp[World.size_alloc,hp]
 rw[hsz] at HJ;clear hsz;rw[hp];go_enter Tryz.func29,Tryz.ntmps29
 go_wp2_with fail
 obtain ⟨W1,hW1⟩:∃W1,(w.alloc (.cells ZAk 36)).alloc (.cells #[.int .i64 0,.int .i64 0] 38)=W1:=⟨_,rfl⟩
 show Calls _ _ _ ((w.alloc (.cells ZAk 36)).alloc (.cells #[.int .i64 0,.int .i64 0] 38)) _;rw[hW1] at HJ HST ⊢;refine HJ.out.mono ?_;rintro e w2 ⟨⟨tv,lv,r0,rfl,ht2,hl2⟩,hb2⟩;have HS2:=Zh (Za (HST.out.1.trans (ZA hb2 (by omega))) (Za (HST.out.2.1.below hb2 (by omega)) (Za (HST.out.2.2.below hb2 (by omega)) (Za ht2 hl2))));obtain ⟨At,ct,rfl,-,-⟩:=ZR ht2;obtain ⟨Al,cl,rfl,-,-⟩:=hl2.form;obtain ⟨n1,hn1⟩:∃n1,tx.length=n1:=⟨_,rfl⟩
 obtain ⟨n3,hn3⟩:∃n3,lb.length=n3:=⟨_,rfl⟩
 rw[hn1,hn3] at HS2;rw[hn1] at htx ⊢;rw[hn3] at hlb ⊢;have HL1:=Zh hn1;have HL3:=Zh hn3;clear ht2 hl2 hb2 HJ HST hW1 hn1 hn3;have HUP:=Zh (fun W=>ZGO n1 W (by omega));have HUP0:=Zh (fun W=>show Calls Tryz.prog 70 #[.int .i64 0] W fun e w'=>e=.returned (.int .i64 0)∧w'=W from ZGO 0 W (by omega));have hT:upN n1≤1000015:=by unfold upN;omega
 obtain ⟨T,hTT⟩:∃T,upN n1=T:=⟨_,rfl⟩
 rw[hTT] at HUP hT;have HTT:=Zh hTT;clear hTT;obtain ⟨F,hF⟩:∃F:Int,4096+(T:Int)=F:=⟨_,rfl⟩
 obtain ⟨G,hG⟩:∃G:Int,F+16384=G:=⟨_,rfl⟩
 obtain ⟨H,hH⟩:∃H:Int,(T:Int)+16384=H:=⟨_,rfl⟩
 have e4:IntKind.i64.wrap (4096+(T:Int))=F:=by rw[IntWalk.i64_in _ (by omega)];exact hF
 have e7:IntKind.i64.wrap (F+16384)=G:=by rw[IntWalk.i64_in _ (by omega)];exact hG
 have e8:IntKind.i64.wrap ((T:Int)+16384)=H:=by rw[IntWalk.i64_in _ (by omega)];exact hH
 have e10:IntKind.i64.wrap F=F:=IntWalk.i64_in _ (by omega);have HFF:=Zh (show 4096+(T:Int)=F∧H≤1048576∧0≤H from ⟨hF,by omega,by omega⟩);have HE8:=Zh e8;have HE7:=Zh e7;have HE4:=Zh e4;have HE10:=Zh e10;clear hF hG hH e7 e8 e4 e10;go_upto_region 4 with fail
 obtain ⟨q,hq⟩:∃q,w2.heap.size=q:=⟨_,rfl⟩
 obtain ⟨w3,hw3⟩:∃w3,(w2.alloc (.cells #[.slice At n1 ct,.slice none 0 0,.slice Al n3 cl,.slice (some ⟨r0,0,none⟩) 0 0] 36)).alloc (.cells #[.int .i64 0,.int .i64 0] 38)=w3:=⟨_,rfl⟩
 have HS3:Hid (PS w w3 p q (.slice At n1 ct) (.slice Al n3 cl) (.slice (some ⟨r0,0,none⟩) 0 0) tx lb∧w3.heap.size=q+2):=by
  have hb:Below w2.heap.size w2 w3:=by rw[←hw3];exact bel2 _ _ _
  have h0:=HS2.out.2.2.1.lt;have hn:=(Blk.new w2 36 #[.slice At n1 ct,.slice none 0 0,.slice Al n3 cl,.slice (some ⟨r0,0,none⟩) 0 0]).alloc (.cells #[.int .i64 0,.int .i64 0] 38);have hn2:Blk ((w2.alloc (.cells #[.slice At n1 ct,.slice none 0 0,.slice Al n3 cl,.slice (some ⟨r0,0,none⟩) 0 0] 36)).alloc (.cells #[.int .i64 0,.int .i64 0] 38)) (q+1) 38 #[.int .i64 0,.int .i64 0]:=ZY (by simp[World.size_alloc,hq]) _ _;have hz:((w2.alloc (.cells #[.slice At n1 ct,.slice none 0 0,.slice Al n3 cl,.slice (some ⟨r0,0,none⟩) 0 0] 36)).alloc (.cells #[.int .i64 0,.int .i64 0] 38)).heap.size=q+2:=by simp[World.size_alloc,hq]
  rw[hw3] at hn hn2 hz;rw[hq] at hn;exact ⟨⟨HS2.out.1.trans (ZA hb (by omega)),by omega,HS2.out.2.1.below hb HS2.out.2.1.lt,HS2.out.2.2.1.below hb HS2.out.2.2.1.lt,hn,hn2,ZB HS2.out.2.2.2.1 (ZC (fun _=>False) hb) (fun _ _=>id),OwnL.below HS2.out.2.2.2.2 hb⟩,hz⟩
 rw[hw3,hq];clear hw3 hq HS2;have b0:w3.cell? ⟨q,0,none⟩=some (.slice At n1 ct):=(HS3.out.1.box.cell 0).trans rfl;go_wp2_with fail
 refine (HUP.out _).mono ?_;rintro e w4 ⟨rfl,hw⟩;subst hw;go_upto_region 5 with fail
 obtain ⟨w5,hw5⟩:∃w5,w4.alloc (.cells #[.string textS,.int .i64 4096,.int .i64 (T:Int),.bool false,.bool true] 42)=w5:=⟨_,rfl⟩
 have hz4:w4.heap.size=q+2:=HS3.out.2;have HS5:Hid (PS w w5 p q (.slice At n1 ct) (.slice Al n3 cl) (.slice (some ⟨r0,0,none⟩) 0 0) tx lb∧w5.heap.size=q+3∧ZAg w5 (q+2) (.slice (some ⟨q+2,0,none⟩) 1 1) [ZAv T]):=by
  have hb:Below w4.heap.size w4 w5:=by rw[←hw5];exact ZV _ _
  have ho:=ZAg.one w4 (ZAv T);unfold ZAv at ho;dsimp only at ho;rw[hw5,hz4] at ho;exact ⟨HS3.out.1.bel hb,by rw[←hw5];simp[World.size_alloc,hz4],ho⟩
 have hw5':w4.alloc (.cells #[.string { data:=#[116,101,120,116] },.int .i64 4096,.int .i64 (T:Int),.bool false,.bool true] 42)=w5:=hw5;rw[hw5',hz4];clear hw5 hw5' hz4 HS3 b0 HUP;have b1:w5.cell? ⟨q,1,none⟩=some (.slice none 0 0):=(HS5.out.1.box.cell 1).trans rfl;have g2:w5.cell? ⟨q+2,2,none⟩=some (.int .i64 (T:Int)):=by
  obtain ⟨g,off,e1,-,hc⟩:=ZB3 HS5.out.2.2.row (j:=0) (by simp);injection e1 with e1
  injection e1 with e1 e2
  subst e1;subst e2;have:=(hc 0 (by simp)).2.2.1
  simpa[ZAv] using this
 go_cut [9] from 30 to 42 (fun c W=>∃gv,c=gv∧Hid (PS w W p q (.slice At n1 ct) (.slice Al n3 cl) (.slice (some ⟨r0,0,none⟩) 0 0) tx lb∧ZAg W (q+2) gv [ZAv T,ZBr F]))
 case first=>
  refine wp_region_held_drew (S:=(fun W=>W.cell? ⟨q,1,none⟩=some (.slice none 0 0)∧W.cell? ⟨q+2,2,none⟩=some (.int .i64 (T:Int)))) (by kernel_rfl) ?_ (fun hHeld=>?_)
  ·exact ⟨b1,g2⟩
  have HB:Hid (PS w w5.drew p q (.slice At n1 ct) (.slice Al n3 cl) (.slice (some ⟨r0,0,none⟩) 0 0) tx lb∧w5.drew.heap.size=q+3∧ZAg w5.drew (q+2) (.slice (some ⟨q+2,0,none⟩) 1 1) [ZAv T]):=⟨HS5.out.1.bel (ZAO (Below.refl _ _)),HS5.out.2.1,HS5.out.2.2⟩
  clear HS5 b1 g2;have e4:=HE4.out;generalize w5.drew=W0 at HB hHeld ⊢;obtain ⟨b1,g2⟩:=hHeld;have hHeld:=Za b1 g2;obtain ⟨gv,W',f1,f2,f3⟩:=HB.out.2.2.grow rfl (by simp) (by simp) (ZBr F) 43;rw[HB.out.2.1] at f1;obtain ⟨Aw,cw,hgw,-,-⟩:=ZAg.form f2
  change gv=.slice Aw 2 cw at hgw
  subst hgw;have f1':(Builtin.append_ #[43,43] 43 #[.slice (some ⟨q+2,0,none⟩) 1 1,.slice (some ⟨q+3,0,none⟩) 1 1]).run Tryz.prog (W0.alloc (.cells #[.string { data:=#[100,97,116,97] },.int .i64 F,.int .i64 0,.bool true,.bool false] 42))=.ok (.slice Aw 2 cw) W':=f1;have hz:W0.heap.size=q+3:=HB.out.2.1;have hA:Below W0.heap.size W0 (W0.alloc (.cells #[.string { data:=#[100,97,116,97] },.int .i64 F,.int .i64 0,.bool true,.bool false] 42)):=ZV _ _;have hB:Below W0.heap.size W0 W':=hA.trans f3;have HN:=Zh (show PS w W' p q (.slice At n1 ct) (.slice Al n3 cl) (.slice (some ⟨r0,0,none⟩) 0 0) tx lb∧ZAg W' (q+2) (.slice Aw 2 cw) [ZAv T,ZBr F] from ⟨HB.out.1.bel hB,ZO f2 (by omega)⟩);have HQ:=Zh (show W'.cell? ⟨q,1,none⟩=some (.slice none 0 0)∧W'.cell? ⟨q+2,2,none⟩=some (.int .i64 (T:Int)) from ⟨(hB.cell (cell_lt b1)).trans b1,(hB.cell (cell_lt g2)).trans g2⟩);have HQ1:=Zh (show (W0.alloc (.cells #[.string { data:=#[100,97,116,97] },.int .i64 F,.int .i64 0,.bool true,.bool false] 42)).cell? ⟨q,1,none⟩=some (.slice none 0 0)∧(W0.alloc (.cells #[.string { data:=#[100,97,116,97] },.int .i64 F,.int .i64 0,.bool true,.bool false] 42)).cell? ⟨q+2,2,none⟩=some (.int .i64 (T:Int)) from ⟨(hA.cell (cell_lt b1)).trans b1,(hA.cell (cell_lt g2)).trans g2⟩);obtain ⟨Wa,hWa⟩:∃Wa,W0.alloc (.cells #[.string { data:=#[100,97,116,97] },.int .i64 F,.int .i64 0,.bool true,.bool false] 42)=Wa:=⟨_,rfl⟩
  rw[hWa] at f1' HQ1;have HWA:=Zh hWa;have HAP:=Zh f1';clear f1 f1' f2 f3 hA hB HB b1 g2 hWa;refine FU 14 rfl ?_;iterate 9 (refine TN 14 rfl ?_;try simp only[AP,Nat.reduceAdd,Nat.reduceSub])
  refine RW 9 rfl fun K hK=>?_;clear e4;go_simp;go_at_call 70;refine (HUP0.out _).mono ?_;rintro e W3 ⟨rfl,hw⟩;replace hw:=hw.symm;subst hw;try go_simp
  refine hK.out _ _ hHeld (fun hHeld=>?_);clear hK K;try simp only[AP]
  refine TW 10 rfl ?_;try simp only[AP]
  refine RW 11 rfl fun K hK=>?_;go_simp;rw[HWA.out];clear hz HWA;refine hK.out _ _ HQ1.out (fun hHeld=>?_);clear hK K;try simp only[AP]
  refine R1 12 rfl fun K hK=>?_;refine ZL (by rfl) (.tmp 30) (.tmp 41) 43 (by rfl) (by rfl) (by rfl) HAP.out ?_;refine hK.out _ _ HQ.out (fun hHeld=>?_);clear hK K;try simp only[AP]
  refine TW 13 rfl ?_;try simp only[AP]
  refine wpAnyH_done (by kernel_rfl) ?_ _;go_wp2_with fail
  go_meet
  case rel=>exact ⟨_,rfl,HN.out⟩
 case rest=>
  obtain ⟨gv,rfl,HS6⟩:=hcut;obtain ⟨gR,cR,hgv⟩:=ZAJ HS6.out.2 (by simp);subst hgv;clear HS5 b1 g2;have hcl:wc.cell? ⟨gR,2,none⟩=some (.int .i64 (T:Int))∧wc.cell? ⟨gR,6,none⟩=some (.int .i64 F)∧wc.cell? ⟨gR,7,none⟩=some (.int .i64 0):=by
   obtain ⟨g,off,e1,-,hc⟩:=ZB3 HS6.out.2.row (j:=0) (by simp);injection e1 with e1
   injection e1 with e1 e2
   subst e1;subst e2;have h0:=hc 0 (by simp);have h1:=hc 1 (by simp);exact ⟨by simpa[ZAv] using h0.2.2.1,by simpa[ZBr] using h1.2.1,by simpa[ZBr] using h1.2.2.1⟩
  obtain ⟨k2,k6,k7⟩:=hcl;have HS6':Hid (PS w wc p q (.slice At n1 ct) (.slice Al n3 cl) (.slice (some ⟨r0,0,none⟩) 0 0) tx lb∧ZAg wc (q+2) (.slice (some ⟨gR,0,none⟩) 2 cR) [ZAv T,ZBr F]):=HS6.out;clear HS6;dsimp only[List.length_cons,List.length_nil];go_upto_region 6 with fail
  have e10:=HE10.out;go_quiet (fail)
  clear e10;have HS7:Hid (PS w (wc.drewN nq) p q (.slice At n1 ct) (.slice Al n3 cl) (.slice (some ⟨r0,0,none⟩) 0 0) tx lb∧ZAg (wc.drewN nq) (q+2) (.slice (some ⟨gR,0,none⟩) 2 cR) [ZAv T,ZBr F]):=⟨HS6'.out.1.bel (ZM (Below.refl _ _) _),HS6'.out.2⟩
  have m2:(wc.drewN nq).cell? ⟨gR,2,none⟩=some (.int .i64 (T:Int)):=k2;have m7:(wc.drewN nq).cell? ⟨gR,7,none⟩=some (.int .i64 0):=k7;clear k2 k6 k7 HS6';generalize wc.drewN nq=w7 at HS7 m2 m7 ⊢;go_upto_region 7 with fail
  have e6:IntKind.i64.wrap (T:Int)=(T:Int):=IntWalk.i64_in _ (by omega);go_quiet (fail)
  clear e6;have HS8:Hid (PS w (w7.drewN nq) p q (.slice At n1 ct) (.slice Al n3 cl) (.slice (some ⟨r0,0,none⟩) 0 0) tx lb∧ZAg (w7.drewN nq) (q+2) (.slice (some ⟨gR,0,none⟩) 2 cR) [ZAv T,ZBr F]):=⟨HS7.out.1.bel (ZM (Below.refl _ _) _),HS7.out.2⟩
  clear m2 m7 HS7;generalize w7.drewN nq=w8 at HS8 ⊢;go_wp2_with fail
  go_loopw [12,9,10,11] (fun iv rw av sv W=>∃(k:Nat) (gv:Value) (a b:Int),k≤1∧iv=.int .i64 k∧gv=rw∧av=.int .i64 a∧sv=.int .i64 b∧(k=0→a=F∧b=(T:Int))∧(k=1→a=G∧b=H)∧Hid (PS w W p q (.slice At n1 ct) (.slice Al n3 cl) (.slice (some ⟨r0,0,none⟩) 0 0) tx lb∧ZAg W (q+2) gv (if k=0 then [ZAv T,ZBr F] else ZJL T F))) (fun iv _ _ _ _=>1-(Go.RowKit.intOf iv).toNat)
  case atStart=>exact ⟨0,_,_,_,by omega,rfl,rfl,rfl,rfl,fun _=>⟨rfl,rfl⟩,fun h=>by omega,by show _∧_;rw[if_pos rfl];exact HS8.out⟩
  case round=>
   clear HS8;obtain ⟨k,gv,a,b,hk,rfl,rfl,rfl,rfl,h0,h1,HS⟩:=hrel;rcases (show k=0∨k=1 by omega) with rfl|rfl
   ·obtain ⟨ha,hb⟩:=h0 rfl
    replace ha:=ha.symm;subst ha;subst hb;clear h0 h1;have HS0:Hid (PS w wr p q (.slice At n1 ct) (.slice Al n3 cl) (.slice (some ⟨r0,0,none⟩) 0 0) tx lb∧ZAg wr (q+2) gv [ZAv T,ZBr F]):=by
     have:=HS.out;rw[if_pos rfl] at this;exact this
    clear HS;obtain ⟨g9,c9,hg9⟩:=ZAJ HS0.out.2 (by simp)
    change gv=.slice (some ⟨g9,0,none⟩) 2 c9 at hg9
    subst hg9;have hbw:∀ {a:Addr} {v:Value},w.cell? a=some v→wr.cell? a=some v:=fun h=>(HS0.out.1.below.cell (by have:=cell_lt h;rw[HP.out] at this;exact this)).trans h;obtain ⟨c0,c1,c2,c3,c4⟩:=HE.out;replace c0:=hbw c0;replace c1:=hbw c1;replace c2:=hbw c2;replace c3:=hbw c3;replace c4:=hbw c4;clear hbw;go_upto_region 12 with fail
    obtain ⟨s,hs⟩:∃s,wr.heap.size=s:=⟨_,rfl⟩
    obtain ⟨w9,hw9⟩:∃w9,wr.alloc (.cells #[.string stackS,.int .i64 0,.int .i64 16384,.bool true,.bool false] 42)=w9:=⟨_,rfl⟩
    have HS9:Hid (PS w w9 p q (.slice At n1 ct) (.slice Al n3 cl) (.slice (some ⟨r0,0,none⟩) 0 0) tx lb∧ZAg w9 (q+2) (.slice (some ⟨g9,0,none⟩) 2 c9) [ZAv T,ZBr F]∧Blk w9 s 42 #[.string stackS,.int .i64 0,.int .i64 16384,.bool true,.bool false]∧(Value.slice (some ⟨g9,0,none⟩) 2 c9).ownBlock≠some s):=by
     have hb:Below wr.heap.size wr w9:=by rw[←hw9];exact ZV _ _
     have hn:=Blk.new wr 42 #[.string stackS,.int .i64 0,.int .i64 16384,.bool true,.bool false];rw[hw9,hs] at hn;refine ⟨HS0.out.1.bel hb,HS0.out.2.below hb,hn,fun e=>?_⟩;have:=ZFe HS0.out.2 s e;omega
    have HSQ:=Zh (show p+2≤s by have h1:=HS0.out.1.jf.lt;have h2:=HS0.out.1.pq;omega);rw[hw9,hs];clear hs hw9 HS0 c0 c1 c2 c3 c4;have s0:w9.cell? ⟨s,0,none⟩=some (.string stackS):=(HS9.out.2.2.1.cell 0).trans rfl;have s1:w9.cell? ⟨s,1,none⟩=some (.int .i64 0):=(HS9.out.2.2.1.cell 1).trans rfl;have s2:w9.cell? ⟨s,2,none⟩=some (.int .i64 16384):=(HS9.out.2.2.1.cell 2).trans rfl;have q0:w9.cell? ⟨q,0,none⟩=some (.slice At n1 ct):=(HS9.out.1.box.cell 0).trans rfl;have q1:w9.cell? ⟨q,1,none⟩=some (.slice none 0 0):=(HS9.out.1.box.cell 1).trans rfl;have q2:w9.cell? ⟨q,2,none⟩=some (.slice Al n3 cl):=(HS9.out.1.box.cell 2).trans rfl;have q3:w9.cell? ⟨q,3,none⟩=some (.slice (some ⟨r0,0,none⟩) 0 0):=(HS9.out.1.box.cell 3).trans rfl;have HT1:Hid (Calls Tryz.prog 72 #[.agg #[.slice At n1 ct,.slice none 0 0,.slice Al n3 cl,.slice (some ⟨r0,0,none⟩) 0 0],.slice (some ⟨gE,0,none⟩) 1 cE,.int .i64 0,.string stackS] w9 fun e w'=>e=.returned (.bool false)∧Below w9.heap.size w9 w'):=by
     have hr:=HS9.out.1.lb.row;have:=HL3.out;subst this;exact ZFT _ _ _ _ _ lb stackS _ w9 hr HN1.out hlb (by decide +kernel) (by decide +kernel)
    go_wp2_with fail
    refine (ZGm _).mono ?_;rintro e w9' ⟨rfl,hw⟩;replace hw:=hw.symm;subst hw;go_wp2_with fail
    refine HT1.out.mono ?_;rintro e w10 ⟨rfl,hb10⟩;have HS10:=Zh (show PS w w10 p q (.slice At n1 ct) (.slice Al n3 cl) (.slice (some ⟨r0,0,none⟩) 0 0) tx lb∧ZAg w10 (q+2) (.slice (some ⟨g9,0,none⟩) 2 c9) [ZAv T,ZBr F]∧Blk w10 s 42 #[.string stackS,.int .i64 0,.int .i64 16384,.bool true,.bool false] from ⟨HS9.out.1.bel hb10,HS9.out.2.1.below hb10,HS9.out.2.2.1.below hb10 HS9.out.2.2.1.lt⟩);have HNB:=Zh (Za HS9.out.2.2.2 trivial);clear hb10 HS9 HT1 s0 s1 s2 q0 q1 q2 q3;have s0:w10.cell? ⟨s,0,none⟩=some (.string stackS):=(HS10.out.2.2.cell 0).trans rfl;have q0:w10.cell? ⟨q,0,none⟩=some (.slice At n1 ct):=(HS10.out.1.box.cell 0).trans rfl;have q1:w10.cell? ⟨q,1,none⟩=some (.slice none 0 0):=(HS10.out.1.box.cell 1).trans rfl;have q2:w10.cell? ⟨q,2,none⟩=some (.slice Al n3 cl):=(HS10.out.1.box.cell 2).trans rfl;have q3:w10.cell? ⟨q,3,none⟩=some (.slice (some ⟨r0,0,none⟩) 0 0):=(HS10.out.1.box.cell 3).trans rfl;have HT2:Hid (Calls Tryz.prog 72 #[.agg #[.slice At n1 ct,.slice none 0 0,.slice Al n3 cl,.slice (some ⟨r0,0,none⟩) 0 0],.slice (some ⟨gE,0,none⟩) 1 cE,.int .i64 0,.string (stackS ++ { data:=#[46,101,110,100] })] w10 fun e w'=>e=.returned (.bool false)∧Below w10.heap.size w10 w'):=by
     have hr:=HS10.out.1.lb.row;have:=HL3.out;subst this;exact ZFT _ _ _ _ _ lb (stackS++endS) _ w10 hr HN2.out hlb (by decide +kernel) (by decide +kernel)
    have hss:stackS.size=5:=by decide
    go_wp2_with fail
    refine HT2.out.mono ?_;rintro e w11 ⟨rfl,hb11⟩;have HS11:=Zh (show PS w w11 p q (.slice At n1 ct) (.slice Al n3 cl) (.slice (some ⟨r0,0,none⟩) 0 0) tx lb∧ZAg w11 (q+2) (.slice (some ⟨g9,0,none⟩) 2 c9) [ZAv T,ZBr F]∧Blk w11 s 42 #[.string stackS,.int .i64 0,.int .i64 16384,.bool true,.bool false] from ⟨HS10.out.1.bel hb11,HS10.out.2.1.below hb11,HS10.out.2.2.below hb11 HS10.out.2.2.lt⟩);clear hb11 HS10 HT2 s0 q0 q1 q2 q3 hss;have s0:w11.cell? ⟨s,0,none⟩=some (.string stackS):=(HS11.out.2.2.cell 0).trans rfl;have s1:w11.cell? ⟨s,1,none⟩=some (.int .i64 0):=(HS11.out.2.2.cell 1).trans rfl;have s2:w11.cell? ⟨s,2,none⟩=some (.int .i64 16384):=(HS11.out.2.2.cell 2).trans rfl;have s3:w11.cell? ⟨s,3,none⟩=some (.bool true):=(HS11.out.2.2.cell 3).trans rfl;have s4:w11.cell? ⟨s,4,none⟩=some (.bool false):=(HS11.out.2.2.cell 4).trans rfl;have fr1:=HS11.out.2.2.frozen 1;have fr2:=HS11.out.2.2.frozen 2;have HUPK:=Zh (fun W=>show Calls Tryz.prog 70 #[.int .i64 16384] W fun e w'=>e=.returned (.int .i64 16384)∧w'=W from ZGO 16384 W (by omega));go_wp2_with fail
    refine (HUPK.out _).mono ?_;rintro e w11' ⟨rfl,hw⟩;replace hw:=hw.symm;subst hw;have hk12:ZE (fun k=>k=s) w11 ((w11.setCell ⟨s,1,none⟩ (.int .i64 F)).setCell ⟨s,2,none⟩ (.int .i64 16384)):=((ZE.refl (fun k=>k=s) w11).setCell (p:=⟨s,1,none⟩) (Or.inr rfl) _).setCell (p:=⟨s,2,none⟩) (Or.inr rfl) _;have hne:∀g t cs,Blk w11 g t cs→t≠42→¬g=s:=by
     intro g t cs hB ht e;subst e;exact ht (Blk.kind hB HS11.out.2.2)
    have hP12:PS w ((w11.setCell ⟨s,1,none⟩ (.int .i64 F)).setCell ⟨s,2,none⟩ (.int .i64 16384)) p q (.slice At n1 ct) (.slice Al n3 cl) (.slice (some ⟨r0,0,none⟩) 0 0) tx lb:=by
     have h:=HS11.out.1;have hsq:p+2≤s:=HSQ.out;exact ⟨h.below.trans (hk12.toBelow (by have:=h.flt.lt;omega) (fun k hk e=>by omega)),h.pq,h.res.keeps hk12 (hne _ _ _ h.res (by decide)),h.flt.keeps hk12 (hne _ _ _ h.flt (by decide)),h.box.keeps hk12 (hne _ _ _ h.box (by decide)),h.jf.keeps hk12 (hne _ _ _ h.jf (by decide)),ZB h.tx hk12 (fun g hg e=>by obtain ⟨cu,hcu⟩:=ZI h.tx hg;exact hne g _ _ hcu (by decide) e),ZB h.lb hk12 (fun g hg e=>by obtain ⟨cu,hcu⟩:=ZI h.lb hg;exact hne g _ _ hcu (by decide) e)⟩
    have hR12:ZAg ((w11.setCell ⟨s,1,none⟩ (.int .i64 F)).setCell ⟨s,2,none⟩ (.int .i64 16384)) (q+2) (.slice (some ⟨g9,0,none⟩) 2 c9) [ZAv T,ZBr F]:=ZB HS11.out.2.1 hk12 (fun g hg e=>HNB.out.1 (by rw[hg,e]));obtain ⟨gw,W',f1,f2,f3⟩:=hR12.push (by have:=hk12.size;have:=HS11.out.1.jf.lt;omega) (by simp) (rngKF F) 43;have hPN:=hP12.grow hR12 f3;obtain ⟨z,hz⟩:∃z,w11.heap.size=z:=⟨_,rfl⟩
    have f1':(Builtin.append_ #[43,43] 43 #[.slice (some ⟨g9,0,none⟩) 2 c9,.slice (some ⟨z,0,none⟩) 1 1]).run Tryz.prog (((w11.setCell ⟨s,1,none⟩ (.int .i64 F)).setCell ⟨s,2,none⟩ (.int .i64 16384)).alloc (.cells #[.string stackS,.int .i64 F,.int .i64 16384,.bool true,.bool false] 42))=.ok gw W':=by
     have:=f1;rw[show ((w11.setCell ⟨s,1,none⟩ (.int .i64 F)).setCell ⟨s,2,none⟩ (.int .i64 16384)).heap.size=z from by rw[←hz];simp[World.setCell]] at this;exact this
    obtain ⟨Aw,cw,hgw,-,-⟩:=ZAg.form f2
    change gw=.slice Aw 3 cw at hgw
    subst hgw;have HAP:=Zh f1';have HN:=Zh (show PS w W' p q (.slice At n1 ct) (.slice Al n3 cl) (.slice (some ⟨r0,0,none⟩) 0 0) tx lb∧ZAg W' (q+2) (.slice Aw 3 cw) (ZJL T F) from ⟨hPN,f2⟩);have e7:=HE7.out;have e9:decide ((T:Int)≤1048576)=true:=decide_eq_true (by omega);have HB12:=Zh (show Blk ((w11.setCell ⟨s,1,none⟩ (.int .i64 F)).setCell ⟨s,2,none⟩ (.int .i64 16384)) s 42 #[.string stackS,.int .i64 F,.int .i64 16384,.bool true,.bool false]∧((w11.setCell ⟨s,1,none⟩ (.int .i64 F)).setCell ⟨s,2,none⟩ (.int .i64 16384)).heap.size=z from ⟨ZKs HS11.out.2.2 _ _,by rw[←hz];simp[World.setCell]⟩);clear f1 f2 f3 f1' hPN hR12 hP12 hne hk12 HS11 HUPK;go_upto_region 19 with fail
    clear e7 e9;have e8:=HE8.out;go_upto_region 20 with fail
    clear e8;obtain ⟨w12,hw12⟩:∃w12,(w11.setCell ⟨s,1,none⟩ (.int .i64 F)).setCell ⟨s,2,none⟩ (.int .i64 16384)=w12:=⟨_,rfl⟩
    rw[hw12] at HAP HB12 ⊢;clear s0 s1 s2 s3 s4 fr1 fr2 hz;have hz:w12.heap.size=z:=HB12.out.2;have s0:w12.cell? ⟨s,0,none⟩=some (.string stackS):=(HB12.out.1.cell 0).trans rfl;have s1:w12.cell? ⟨s,1,none⟩=some (.int .i64 F):=(HB12.out.1.cell 1).trans rfl;have s2:w12.cell? ⟨s,2,none⟩=some (.int .i64 16384):=(HB12.out.1.cell 2).trans rfl;have s3:w12.cell? ⟨s,3,none⟩=some (.bool true):=(HB12.out.1.cell 3).trans rfl;have s4:w12.cell? ⟨s,4,none⟩=some (.bool false):=(HB12.out.1.cell 4).trans rfl;clear HB12 hw12;obtain ⟨ks,hks⟩:∃ks,stackS=ks:=⟨_,rfl⟩
    obtain ⟨k16,hk16⟩:∃k16:Int,(16384:Int)=k16:=⟨_,rfl⟩
    rw[hks] at HAP s0;rw[hk16] at HAP s2;clear hks hk16;go_wp2_with (at_builtin;go_loud (refine ZK (by rfl) (.tmp 127) (.tmp 129) 43 (by rfl) (by rfl) (by rfl) HAP.out ?_))
    clear HAP hz s0 s1 s2 s3 s4;go_wp2;refine ⟨?_,?measure⟩;iterate 60 apply Exists.intro
    repeat apply Exists.intro
    refine ⟨?rel,rfl⟩
    case rel=>exact ⟨1,.slice Aw 3 cw,_,_,by omega,by go_num,rfl,rfl,rfl,fun h=>by omega,fun _=>⟨rfl,rfl⟩,by show _∧_;rw[if_neg (by omega)];exact HN.out⟩
    case measure=>first|(simp[Go.RowKit.intOf];done)|(simp[Go.RowKit.intOf];omega)
   ·obtain ⟨ha,hb⟩:=h1 rfl
    replace ha:=ha.symm;subst ha;replace hb:=hb.symm;subst hb;clear h0 h1;have HS1:Hid (PS w wr p q (.slice At n1 ct) (.slice Al n3 cl) (.slice (some ⟨r0,0,none⟩) 0 0) tx lb∧ZAg wr (q+2) gv (ZJL T F)):=by
     have:=HS.out;rw[if_neg (by omega)] at this;exact this
    clear HS;obtain ⟨g9,c9,hg9⟩:=ZAJ HS1.out.2 (by simp[ZJL])
    change gv=.slice (some ⟨g9,0,none⟩) 3 c9 at hg9
    subst hg9;have q0:wr.cell? ⟨q,0,none⟩=some (.slice At n1 ct):=(HS1.out.1.box.cell 0).trans rfl;have q1:wr.cell? ⟨q,1,none⟩=some (.slice none 0 0):=(HS1.out.1.box.cell 1).trans rfl;have q2:wr.cell? ⟨q,2,none⟩=some (.slice Al n3 cl):=(HS1.out.1.box.cell 2).trans rfl;have q3:wr.cell? ⟨q,3,none⟩=some (.slice (some ⟨r0,0,none⟩) 0 0):=(HS1.out.1.box.cell 3).trans rfl;have m0:=HS1.out.1.res.frozen 0;have m1:=HS1.out.1.res.frozen 1;have m2:=HS1.out.1.res.frozen 2;have m3:=HS1.out.1.res.frozen 3;have m4:=HS1.out.1.flt.frozen 0;have m5:=HS1.out.1.flt.frozen 1;have r0':=HS1.out.1.res.cell 0;have r1:=HS1.out.1.res.cell 1;have r2:=HS1.out.1.res.cell 2;have r3:=HS1.out.1.res.cell 3;have f0:=HS1.out.1.flt.cell 0;have f1:=HS1.out.1.flt.cell 1;simp only[ZAk] at r0' r1 r2 r3;have e11:decide ((1048576:Int)<H)=false:=decide_eq_false (by have:=HFF.out.2.1;omega);have hpq:p+2≤q:=HS1.out.1.pq;clear HE4 HE7 HE8 HE10 HN1 HN2 HE;go_wp2_with fail
    show bodyPost _ _ _ _ _ (ZDp wr p (.slice At n1 ct) (.slice none 0 0) (.slice Al n3 cl) (.slice (some ⟨r0,0,none⟩) 0 0) (.int .i64 0) (.int .i64 0));have hF:=ZEz HS1.out.1.res HS1.out.1.flt (.slice At n1 ct) (.slice none 0 0) (.slice Al n3 cl) (.slice (some ⟨r0,0,none⟩) 0 0) (.int .i64 0) (.int .i64 0);obtain ⟨W6,hW6⟩:∃W6,ZDp wr p (.slice At n1 ct) (.slice none 0 0) (.slice Al n3 cl) (.slice (some ⟨r0,0,none⟩) 0 0) (.int .i64 0) (.int .i64 0)=W6:=⟨_,rfl⟩
    rw[hW6] at hF ⊢;clear q0 q1 q2 q3 m0 m1 m2 m3 m4 m5 r0' r1 r2 r3 f0 f1 hW6;obtain ⟨h0,h1,hk6⟩:=hF;have y0:=h0.cell 0;have y1:=h0.cell 1;have y2:=h0.cell 2;have y3:=h0.cell 3;have u0:=h1.cell 0;have u1:=h1.cell 1;refine bodyPost_ret (v:=.tuple #[.agg #[.slice At n1 ct,.slice none 0 0,.slice Al n3 cl,(.slice (some ⟨r0,0,none⟩) 0 0)],.slice (some ⟨g9,0,none⟩) 3 c9,.agg #[.int .i64 0,.int .i64 0]]) (by simp[results,Tryz.results29,y0,y1,y2,y3,u0,u1,go_sem]) rfl ?_;refine ⟨⟨_,_,_,_,rfl,?_,?_,?_⟩,?_⟩
    ·refine ZO (ZB HS1.out.1.tx hk6 (fun g hg h=>?_)) (by omega)
     have:=ZAB HS1.out.1.tx hg;omega
    ·refine ZO (ZB HS1.out.1.lb hk6 (fun g hg h=>?_)) (by omega)
     have:=OwnL.ge HS1.out.1.lb g hg;omega
    ·rw[HL1.out,HTT.out,←rngsF_eq,HFF.out.1]
     refine ZO (ZB HS1.out.2 hk6 (fun g hg h=>?_)) (by omega);have:=ZAg.ge HS1.out.2 g hg;omega
    ·exact HS1.out.1.below.trans (hk6.toBelow (by have:=HS1.out.1.flt.lt;omega) (fun k hk h=>by omega))
end Go.Proofs.YtggmkofbikafhaaGreatDoor
