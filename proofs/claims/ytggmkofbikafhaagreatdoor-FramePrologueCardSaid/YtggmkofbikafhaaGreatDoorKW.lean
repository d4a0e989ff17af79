/- Walks and plain laws on the way to FramePrologue (KF, KW). Conditions: those that each theorem states. -/
import Derived.Test.YtggmkofbikafhaaGreatDoorFZ
import Derived.Test.YtggmkofbikafhaaGreatDoorXX1
set_option linter.unusedVariables false
set_option linter.unusedSimpArgs false
set_option maxRecDepth 100000
set_option maxHeartbeats 40000000
namespace Go.Proofs.YtggmkofbikafhaaGreatDoor
open Go.RowKit
attribute [local go_sem] ZAo ZA1
structure FuI (w W:World) (q g:Nat) (op:Option Nat):Prop where
 x:Blk W q 82 (lfA g)
 a:Blk W (q+1) 85 #[.slice none 0 0,.int .i64 0]
 r:Blk W (q+2) 24 #[.int .i64 0,.int .i64 0,.int .i64 0,.int .i64 0,.int .i64 0,.slice none 0 0,.slice none 0 0]
 b:Below w.heap.size w W
 q0:w.heap.size≤q
 o:∀p,op=some p→Blk W p 24 #[.int .i64 0,.int .i64 0,.int .i64 0,.int .i64 0,.int .i64 0,.slice none 0 0,.slice none 0 0]∧q+2<p
theorem FuI.bel {w W W':World} {q g:Nat} {op:Option Nat} (h:FuI w W q g op) (hb:Below W.heap.size W W'):FuI w W' q g op:=
 ⟨h.x.below hb h.x.lt,h.a.below hb h.a.lt,h.r.below hb h.r.lt,h.b.trans (ZA hb h.b.size),h.q0,fun p e=>⟨(h.o p e).1.below hb (h.o p e).1.lt,(h.o p e).2⟩⟩
theorem FuI.mkP {w W:World} {q g:Nat} {op:Option Nat} (h:FuI w W q g op):FuI w (W.alloc (.cells #[.int .i64 0,.int .i64 0,.int .i64 0,.int .i64 0,.int .i64 0,.slice none 0 0,.slice none 0 0] 24)) q g (some W.heap.size):=by
 have h1:=h.bel (ZN W (.cells #[.int .i64 0,.int .i64 0,.int .i64 0,.int .i64 0,.int .i64 0,.slice none 0 0,.slice none 0 0] 24));exact ⟨h1.x,h1.a,h1.r,h1.b,h1.q0,fun p e=>by
  cases e
  exact ⟨Blk.new W _ _,h.r.lt⟩⟩
theorem FuI.cells {w W:World} {q g:Nat} {op:Option Nat} (h:FuI w W q g op):W.cell? ⟨q,0,none⟩=some (.string ⟨#[102]⟩)∧W.cell? ⟨q,1,none⟩=some (.int .i64 0)∧W.cell? ⟨q,2,none⟩=some (.int .i64 0)∧W.cell? ⟨q,3,none⟩=some (.slice none 0 0)∧W.cell? ⟨q,4,none⟩=some (.slice (some ⟨g,0,none⟩) 1 1):=
 ⟨(h.x.cell 0).trans rfl,(h.x.cell 1).trans rfl,(h.x.cell 2).trans rfl,(h.x.cell 3).trans rfl,(h.x.cell 4).trans rfl⟩
theorem FuI.stz {w W:World} {q g p:Nat} {op:Option Nat} (h:FuI w W q g op) (hp:Blk W p 24 #[.int .i64 0,.int .i64 0,.int .i64 0,.int .i64 0,.int .i64 0,.slice none 0 0,.slice none 0 0]) (hlt:q+2<p) (u:Value) :
  FuI w (((((((W.setCell ⟨p,0,none⟩ (.int .i64 0)).setCell ⟨p,1,none⟩ (.int .i64 0)).setCell ⟨p,2,none⟩ (.int .i64 0)).setCell ⟨p,3,none⟩ (.int .i64 0)).setCell ⟨p,4,none⟩ (.int .i64 0)).setCell ⟨p,5,none⟩ u).setCell ⟨p,6,none⟩ (.slice none 0 0)) q g none∧
  Blk (((((((W.setCell ⟨p,0,none⟩ (.int .i64 0)).setCell ⟨p,1,none⟩ (.int .i64 0)).setCell ⟨p,2,none⟩ (.int .i64 0)).setCell ⟨p,3,none⟩ (.int .i64 0)).setCell ⟨p,4,none⟩ (.int .i64 0)).setCell ⟨p,5,none⟩ u).setCell ⟨p,6,none⟩ (.slice none 0 0)) p 24 #[.int .i64 0,.int .i64 0,.int .i64 0,.int .i64 0,.int .i64 0,u,.slice none 0 0]:=by
 have hk:ZE (fun i=>i=p) W (((((((W.setCell ⟨p,0,none⟩ (.int .i64 0)).setCell ⟨p,1,none⟩ (.int .i64 0)).setCell ⟨p,2,none⟩ (.int .i64 0)).setCell ⟨p,3,none⟩ (.int .i64 0)).setCell ⟨p,4,none⟩ (.int .i64 0)).setCell ⟨p,5,none⟩ u).setCell ⟨p,6,none⟩ (.slice none 0 0)):=
  (((((((ZE.refl (fun i=>i=p) W).setCell (p:=⟨p,0,none⟩) (Or.inr rfl) _).setCell (p:=⟨p,1,none⟩) (Or.inr rfl) _).setCell (p:=⟨p,2,none⟩) (Or.inr rfl) _).setCell (p:=⟨p,3,none⟩) (Or.inr rfl) _).setCell (p:=⟨p,4,none⟩) (Or.inr rfl) _).setCell (p:=⟨p,5,none⟩) (Or.inr rfl) _).setCell (p:=⟨p,6,none⟩) (Or.inr rfl) _
 have hq:=h.q0;exact ⟨⟨h.x.keeps hk (by omega),h.a.keeps hk (by omega),h.r.keeps hk (by omega),h.b.trans (hk.toBelow h.b.size (fun i hi e=>by omega)),h.q0,fun p e=>by cases e⟩,((((((hp.set_ 0 _).set_ 1 _).set_ 2 _).set_ 3 _).set_ 4 _).set_ 5 _).set_ 6 _⟩
theorem FuI.kp {w W W':World} {q g p:Nat} {op:Option Nat} (h:FuI w W q g op) (hk:ZE (fun i=>i=p) W W') (hlt:q+2<p):FuI w W' q g none:=by
 have hq:=h.q0;exact ⟨h.x.keeps hk (by omega),h.a.keeps hk (by omega),h.r.keeps hk (by omega),h.b.trans (hk.toBelow h.b.size (fun i hi e=>by omega)),h.q0,fun p e=>by cases e⟩
theorem FuI.fin {w W:World} {q g:Nat} {op:Option Nat} (h:FuI w W q g op) (a u:Value) :
  Blk (((((((W.setCell ⟨q+2,0,none⟩ a).setCell ⟨q+2,1,none⟩ (.int .i64 0)).setCell ⟨q+2,2,none⟩ (.int .i64 0)).setCell ⟨q+2,3,none⟩ (.int .i64 0)).setCell ⟨q+2,4,none⟩ (.int .i64 0)).setCell ⟨q+2,5,none⟩ (u)).setCell ⟨q+2,6,none⟩ (.slice none 0 0)) (q+2) 24 #[a,.int .i64 0,.int .i64 0,.int .i64 0,.int .i64 0,u,.slice none 0 0]∧Below w.heap.size w (((((((W.setCell ⟨q+2,0,none⟩ a).setCell ⟨q+2,1,none⟩ (.int .i64 0)).setCell ⟨q+2,2,none⟩ (.int .i64 0)).setCell ⟨q+2,3,none⟩ (.int .i64 0)).setCell ⟨q+2,4,none⟩ (.int .i64 0)).setCell ⟨q+2,5,none⟩ (u)).setCell ⟨q+2,6,none⟩ (.slice none 0 0)):=by
 have hk:ZE (fun i=>i=q+2) W (((((((W.setCell ⟨q+2,0,none⟩ a).setCell ⟨q+2,1,none⟩ (.int .i64 0)).setCell ⟨q+2,2,none⟩ (.int .i64 0)).setCell ⟨q+2,3,none⟩ (.int .i64 0)).setCell ⟨q+2,4,none⟩ (.int .i64 0)).setCell ⟨q+2,5,none⟩ (u)).setCell ⟨q+2,6,none⟩ (.slice none 0 0)):=((((((((ZE.refl (fun i=>i=q+2) W).setCell (p:=⟨q+2,0,none⟩) (Or.inr rfl) _).setCell (p:=⟨q+2,1,none⟩) (Or.inr rfl) _).setCell (p:=⟨q+2,2,none⟩) (Or.inr rfl) _).setCell (p:=⟨q+2,3,none⟩) (Or.inr rfl) _).setCell (p:=⟨q+2,4,none⟩) (Or.inr rfl) _).setCell (p:=⟨q+2,5,none⟩) (Or.inr rfl) _).setCell (p:=⟨q+2,6,none⟩) (Or.inr rfl) _)
 have hq:=h.q0;exact ⟨(((((((h.r.set_ 0 _).set_ 1 _).set_ 2 _).set_ 3 _).set_ 4 _).set_ 5 _).set_ 6 _),h.b.trans (hk.toBelow h.b.size (fun i hi e=>by omega))⟩
theorem ZA6 (W:World):(Instr.makeSlice 22 (.int .i64 0) (.int .i64 0)).run Tryz.prog W=.ok (.slice (some ⟨W.heap.size,0,none⟩) 0 0) (W.alloc (.cells #[] 3)):=ZFi 0 (by decide) W
theorem func_any (g:Nat) (w:World) (hb:ZAV w (.slice (some ⟨g,0,none⟩) 1 1) Lf.bl) (hk:Zj w) (ht:ZFM w) :
  Calls Tryz.prog 20 #[.agg #[.string ⟨#[102]⟩,.int .i64 0,.int .i64 0,.slice none 0 0,.slice (some ⟨g,0,none⟩) 1 1],.agg #[.slice none 0 0,.int .i64 0]] w fun e w'=>(∃gs,e=.returned (.tuple #[.agg #[.int .i64 16,.int .i64 0,.int .i64 0,.int .i64 0,.int .i64 0,.slice (some ⟨gs,0,none⟩) 0 0,.slice none 0 0],.int .i64 0]))∧Below w.heap.size w w':=by
 have HTZ:=Zh (fun W (h:Below w.heap.size w W)=>ht.below h);have HKE:=Zh (fun W (h:Below w.heap.size w W)=>hk.below h);have HBL:=Zh (fun W (h:Below w.heap.size w W)=>hb.below h);have HU0:Hid (FuI w (((w.alloc (.cells (lfA g) 82)).alloc (.cells #[.slice none 0 0,.int .i64 0] 85)).alloc (.cells #[.int .i64 0,.int .i64 0,.int .i64 0,.int .i64 0,.int .i64 0,.slice none 0 0,.slice none 0 0] 24)) w.heap.size g none):=
  ⟨((Blk.new w _ _).alloc _).alloc _,(ZY (w:=w.alloc (.cells (lfA g) 82)) (by simp[World.size_alloc]) _ _).alloc _,ZY (by simp[World.size_alloc]) _ _,((below2 w _ _).trans (ZA (ZN _ _) (below2 w _ _).size)),Nat.le_refl _,fun p e=>by cases e⟩
 unfold lfA at HU0;clear hb hk ht;go_enter Tryz.func20,Tryz.ntmps20
 go_upto_region 1 with fail
 obtain ⟨w1,hw1⟩:∃W,((w.alloc (.cells #[.string ⟨#[102]⟩,.int .i64 0,.int .i64 0,.slice none 0 0,.slice (some ⟨g,0,none⟩) 1 1] 82)).alloc (.cells #[.slice none 0 0,.int .i64 0] 85)).alloc (.cells #[.int .i64 0,.int .i64 0,.int .i64 0,.int .i64 0,.int .i64 0,.slice none 0 0,.slice none 0 0] 24)=W:=⟨_,rfl⟩
 obtain ⟨q,hq⟩:∃q,w.heap.size=q:=⟨_,rfl⟩
 rw[hw1] at HU0 ⊢;have HQ:=Zh hq;have HU1:Hid (FuI w w1 q g none):=by rw[←hq];exact HU0.out
 rw[hq];clear HU0 hw1 hq;obtain ⟨y0,y1,y2,y3,y4⟩:=HU1.out.cells;have a0:w1.cell? ⟨q+1,0,none⟩=some (.slice none 0 0):=(HU1.out.a.cell 0).trans rfl;have a1:w1.cell? ⟨q+1,1,none⟩=some (.int .i64 0):=(HU1.out.a.cell 1).trans rfl;have HCK:=Zh (ZG2 g w1 (HBL.out _ HU1.out.b) (HKE.out _ HU1.out.b) (HTZ.out _ HU1.out.b));go_wp2_with fail
 clear y0 y1 y2 y3 y4 a0 a1;refine HCK.out.mono ?_;rintro e w2 ⟨rfl,hb2⟩;have HU2:=Zh (HU1.out.bel hb2);clear HCK HU1 hb2;obtain ⟨y0,y1,y2,y3,y4⟩:=HU2.out.cells;have HOU:=Zh (outs_any g w2 (HBL.out _ HU2.out.b) (HKE.out _ HU2.out.b));go_wp2_with fail
 clear y0 y1 y2 y3 y4;refine HOU.out.mono ?_;rintro e w3 ⟨rfl,hb3⟩;have HU3:=Zh (HU2.out.bel hb3);clear HOU HU2 hb3;go_upto_region 5 with fail
 go_cut [9] from 25 to 31 (fun s9 wx=>∃p gs,s9=.pointer (some ⟨p,0,none⟩)∧Hid (FuI w wx q g none∧Blk wx p 24 #[.int .i64 0,.int .i64 0,.int .i64 0,.int .i64 0,.int .i64 0,.slice (some ⟨gs,0,none⟩) 0 0,.slice none 0 0]∧q+2<p))
 case first=>
  refine wp_region_held_drew (S:=(fun W=>W.cell? ⟨q+1,0,none⟩=some (.slice none 0 0)∧W.cell? ⟨q+1,1,none⟩=some (.int .i64 0)∧W.cell? ⟨q,3,none⟩=some (.slice none 0 0))) (by kernel_rfl) ?_ (fun hHeld=>?_)
  ·exact ⟨(HU3.out.a.cell 0).trans rfl,(HU3.out.a.cell 1).trans rfl,(HU3.out.x.cell 3).trans rfl⟩
  have HI0:Hid (FuI w w3.drew q g none):=HU3.out.bel (ZA7 (Below.refl _ _));clear HU3;generalize w3.drew=V0 at HI0 hHeld ⊢;refine TW 0 rfl ?_;try simp only[AP]
  refine TW 2 rfl ?_;try simp only[AP]
  refine TW 3 rfl ?_;try simp only[AP]
  refine TW 4 rfl ?_;try simp only[AP]
  refine wpAnyH_ready (rs:=[1,5,7]) (by kernel_rfl) (by simp) ?_;refine AllReadyH.cons rfl (fun K hK=>?_) (AllReadyH.cons rfl (fun K hK=>?_) (AllReadyH.cons rfl (fun K hK=>?_) (AllReadyH.nil)))
  ·rw[if_pos (by rfl)]
   go_simp;go_at_call 51;refine (ZBO _).mono ?_;rintro E V1 ⟨rfl,hb⟩;have HI1:=Zh (HI0.out.bel hb);clear hb HI0;try go_simp
   refine hK.out _ _ (show _∧_∧_ from ⟨(HI1.out.a.cell 0).trans rfl,(HI1.out.a.cell 1).trans rfl,(HI1.out.x.cell 3).trans rfl⟩) (fun hHeld=>?_);clear hK K;try simp only[AP]
   refine wpAnyH_ready (rs:=[5,7]) (by kernel_rfl) (by simp) ?_;refine AllReadyH.cons rfl (fun K hK=>?_) (AllReadyH.cons rfl (fun K hK=>?_) (AllReadyH.nil))
   ·rw[if_pos (by rfl)]
    have hmk:=ZA6;go_simp;clear hmk;have hI:=HI1.out.bel (ZN V1 (.cells #[] 3));obtain ⟨bs,hbe⟩:∃bs,V1.heap.size=bs:=⟨_,rfl⟩
    obtain ⟨V2,hWn⟩:∃V2,V1.alloc (.cells #[] 3)=V2:=⟨_,rfl⟩
    try dsimp only at hI
    rw[hWn] at hI;try rw[hbe]
    rw[hWn];have HI2:=Zh hI;clear hI hWn hbe HI1;refine hK.out _ _ (show _∧_∧_ from ⟨(HI2.out.a.cell 0).trans rfl,(HI2.out.a.cell 1).trans rfl,(HI2.out.x.cell 3).trans rfl⟩) (fun hHeld=>?_);clear hK K;try simp only[AP]
    refine TW 6 rfl ?_;try simp only[AP]
    refine RW 7 rfl fun K hK=>?_
    skip
    go_simp
    skip
    have hI:=HI2.out.mkP;obtain ⟨bp,hbe⟩:∃bp,V2.heap.size=bp:=⟨_,rfl⟩
    obtain ⟨V3,hWn⟩:∃V3,V2.alloc (.cells #[.int .i64 0,.int .i64 0,.int .i64 0,.int .i64 0,.int .i64 0,.slice none 0 0,.slice none 0 0] 24)=V3:=⟨_,rfl⟩
    try dsimp only at hI
    rw[hWn,hbe] at hI;try rw[hbe]
    rw[hWn];have HI3:=Zh hI;clear hI hWn hbe HI2;refine hK.out _ _ (show _∧_∧_ from ⟨(HI3.out.a.cell 0).trans rfl,(HI3.out.a.cell 1).trans rfl,(HI3.out.x.cell 3).trans rfl⟩) (fun hHeld=>?_);clear hK K;try simp only[AP]
    refine RW 8 rfl fun K hK=>?_;have hP:=(HI3.out.o bp rfl)
    have z0:V3.cell? ⟨bp,0,none⟩=some (.int .i64 0):=(hP.1.cell 0).trans rfl;have z1:V3.cell? ⟨bp,1,none⟩=some (.int .i64 0):=(hP.1.cell 1).trans rfl;have z2:V3.cell? ⟨bp,2,none⟩=some (.int .i64 0):=(hP.1.cell 2).trans rfl;have z3:V3.cell? ⟨bp,3,none⟩=some (.int .i64 0):=(hP.1.cell 3).trans rfl;have z4:V3.cell? ⟨bp,4,none⟩=some (.int .i64 0):=(hP.1.cell 4).trans rfl;have z5:V3.cell? ⟨bp,5,none⟩=some (.slice none 0 0):=(hP.1.cell 5).trans rfl;have z6:V3.cell? ⟨bp,6,none⟩=some (.slice none 0 0):=(hP.1.cell 6).trans rfl;have f0:=hP.1.frozen 0;have f1:=hP.1.frozen 1;have f2:=hP.1.frozen 2;have f3:=hP.1.frozen 3;have f4:=hP.1.frozen 4;have f5:=hP.1.frozen 5;have f6:=hP.1.frozen 6;have hst:=FuI.stz HI3.out hP.1 hP.2 (.slice (some ⟨bs,0,none⟩) 0 0);go_simp;refine hK.out _ _ (show _∧_∧_ from ⟨(hst.1.a.cell 0).trans rfl,(hst.1.a.cell 1).trans rfl,(hst.1.x.cell 3).trans rfl⟩) (fun hHeld=>?_);clear z0 z1 z2 z3 z4 z5 z6 f0 f1 f2 f3 f4 f5 f6;clear hK K;try simp only[AP]
    refine wpAnyH_done (by kernel_rfl) ?_ _;go_wp2_with fail
    go_meet
    exact ⟨_,_,rfl,hst.1,hst.2,hP.2⟩
   ·rw[if_pos (by rfl)]
    skip
    go_simp
    skip
    have hI:=HI1.out.mkP;obtain ⟨bp,hbe⟩:∃bp,V1.heap.size=bp:=⟨_,rfl⟩
    obtain ⟨V2,hWn⟩:∃V2,V1.alloc (.cells #[.int .i64 0,.int .i64 0,.int .i64 0,.int .i64 0,.int .i64 0,.slice none 0 0,.slice none 0 0] 24)=V2:=⟨_,rfl⟩
    try dsimp only at hI
    rw[hWn,hbe] at hI;try rw[hbe]
    rw[hWn];have HI2:=Zh hI;clear hI hWn hbe HI1;refine hK.out _ _ (show _∧_∧_ from ⟨(HI2.out.a.cell 0).trans rfl,(HI2.out.a.cell 1).trans rfl,(HI2.out.x.cell 3).trans rfl⟩) (fun hHeld=>?_);clear hK K;try simp only[AP]
    refine RW 5 rfl fun K hK=>?_;have hmk:=ZA6;go_simp;clear hmk;have hI:=HI2.out.bel (ZN V2 (.cells #[] 3));obtain ⟨bs,hbe⟩:∃bs,V2.heap.size=bs:=⟨_,rfl⟩
    obtain ⟨V3,hWn⟩:∃V3,V2.alloc (.cells #[] 3)=V3:=⟨_,rfl⟩
    try dsimp only at hI
    rw[hWn] at hI;try rw[hbe]
    rw[hWn];have HI3:=Zh hI;clear hI hWn hbe HI2;refine hK.out _ _ (show _∧_∧_ from ⟨(HI3.out.a.cell 0).trans rfl,(HI3.out.a.cell 1).trans rfl,(HI3.out.x.cell 3).trans rfl⟩) (fun hHeld=>?_);clear hK K;try simp only[AP]
    refine TW 6 rfl ?_;try simp only[AP]
    refine RW 8 rfl fun K hK=>?_;have hP:=(HI3.out.o bp rfl)
    have z0:V3.cell? ⟨bp,0,none⟩=some (.int .i64 0):=(hP.1.cell 0).trans rfl;have z1:V3.cell? ⟨bp,1,none⟩=some (.int .i64 0):=(hP.1.cell 1).trans rfl;have z2:V3.cell? ⟨bp,2,none⟩=some (.int .i64 0):=(hP.1.cell 2).trans rfl;have z3:V3.cell? ⟨bp,3,none⟩=some (.int .i64 0):=(hP.1.cell 3).trans rfl;have z4:V3.cell? ⟨bp,4,none⟩=some (.int .i64 0):=(hP.1.cell 4).trans rfl;have z5:V3.cell? ⟨bp,5,none⟩=some (.slice none 0 0):=(hP.1.cell 5).trans rfl;have z6:V3.cell? ⟨bp,6,none⟩=some (.slice none 0 0):=(hP.1.cell 6).trans rfl;have f0:=hP.1.frozen 0;have f1:=hP.1.frozen 1;have f2:=hP.1.frozen 2;have f3:=hP.1.frozen 3;have f4:=hP.1.frozen 4;have f5:=hP.1.frozen 5;have f6:=hP.1.frozen 6;have hst:=FuI.stz HI3.out hP.1 hP.2 (.slice (some ⟨bs,0,none⟩) 0 0);go_simp;refine hK.out _ _ (show _∧_∧_ from ⟨(hst.1.a.cell 0).trans rfl,(hst.1.a.cell 1).trans rfl,(hst.1.x.cell 3).trans rfl⟩) (fun hHeld=>?_);clear z0 z1 z2 z3 z4 z5 z6 f0 f1 f2 f3 f4 f5 f6;clear hK K;try simp only[AP]
    refine wpAnyH_done (by kernel_rfl) ?_ _;go_wp2_with fail
    go_meet
    exact ⟨_,_,rfl,hst.1,hst.2,hP.2⟩
  ·rw[if_pos (by rfl)]
   have hmk:=ZA6;go_simp;clear hmk;have hI:=HI0.out.bel (ZN V0 (.cells #[] 3));obtain ⟨bs,hbe⟩:∃bs,V0.heap.size=bs:=⟨_,rfl⟩
   obtain ⟨V1,hWn⟩:∃V1,V0.alloc (.cells #[] 3)=V1:=⟨_,rfl⟩
   try dsimp only at hI
   rw[hWn] at hI;try rw[hbe]
   rw[hWn];have HI1:=Zh hI;clear hI hWn hbe HI0;refine hK.out _ _ (show _∧_∧_ from ⟨(HI1.out.a.cell 0).trans rfl,(HI1.out.a.cell 1).trans rfl,(HI1.out.x.cell 3).trans rfl⟩) (fun hHeld=>?_);clear hK K;try simp only[AP]
   refine wpAnyH_ready (rs:=[1,7]) (by kernel_rfl) (by simp) ?_;refine AllReadyH.cons rfl (fun K hK=>?_) (AllReadyH.cons rfl (fun K hK=>?_) (AllReadyH.nil))
   ·rw[if_pos (by rfl)]
    go_simp;go_at_call 51;refine (ZBO _).mono ?_;rintro E V2 ⟨rfl,hb⟩;have HI2:=Zh (HI1.out.bel hb);clear hb HI1;try go_simp
    refine hK.out _ _ (show _∧_∧_ from ⟨(HI2.out.a.cell 0).trans rfl,(HI2.out.a.cell 1).trans rfl,(HI2.out.x.cell 3).trans rfl⟩) (fun hHeld=>?_);clear hK K;try simp only[AP]
    refine TW 6 rfl ?_;try simp only[AP]
    refine RW 7 rfl fun K hK=>?_
    skip
    go_simp
    skip
    have hI:=HI2.out.mkP;obtain ⟨bp,hbe⟩:∃bp,V2.heap.size=bp:=⟨_,rfl⟩
    obtain ⟨V3,hWn⟩:∃V3,V2.alloc (.cells #[.int .i64 0,.int .i64 0,.int .i64 0,.int .i64 0,.int .i64 0,.slice none 0 0,.slice none 0 0] 24)=V3:=⟨_,rfl⟩
    try dsimp only at hI
    rw[hWn,hbe] at hI;try rw[hbe]
    rw[hWn];have HI3:=Zh hI;clear hI hWn hbe HI2;refine hK.out _ _ (show _∧_∧_ from ⟨(HI3.out.a.cell 0).trans rfl,(HI3.out.a.cell 1).trans rfl,(HI3.out.x.cell 3).trans rfl⟩) (fun hHeld=>?_);clear hK K;try simp only[AP]
    refine RW 8 rfl fun K hK=>?_;have hP:=(HI3.out.o bp rfl)
    have z0:V3.cell? ⟨bp,0,none⟩=some (.int .i64 0):=(hP.1.cell 0).trans rfl;have z1:V3.cell? ⟨bp,1,none⟩=some (.int .i64 0):=(hP.1.cell 1).trans rfl;have z2:V3.cell? ⟨bp,2,none⟩=some (.int .i64 0):=(hP.1.cell 2).trans rfl;have z3:V3.cell? ⟨bp,3,none⟩=some (.int .i64 0):=(hP.1.cell 3).trans rfl;have z4:V3.cell? ⟨bp,4,none⟩=some (.int .i64 0):=(hP.1.cell 4).trans rfl;have z5:V3.cell? ⟨bp,5,none⟩=some (.slice none 0 0):=(hP.1.cell 5).trans rfl;have z6:V3.cell? ⟨bp,6,none⟩=some (.slice none 0 0):=(hP.1.cell 6).trans rfl;have f0:=hP.1.frozen 0;have f1:=hP.1.frozen 1;have f2:=hP.1.frozen 2;have f3:=hP.1.frozen 3;have f4:=hP.1.frozen 4;have f5:=hP.1.frozen 5;have f6:=hP.1.frozen 6;have hst:=FuI.stz HI3.out hP.1 hP.2 (.slice (some ⟨bs,0,none⟩) 0 0);go_simp;refine hK.out _ _ (show _∧_∧_ from ⟨(hst.1.a.cell 0).trans rfl,(hst.1.a.cell 1).trans rfl,(hst.1.x.cell 3).trans rfl⟩) (fun hHeld=>?_);clear z0 z1 z2 z3 z4 z5 z6 f0 f1 f2 f3 f4 f5 f6;clear hK K;try simp only[AP]
    refine wpAnyH_done (by kernel_rfl) ?_ _;go_wp2_with fail
    go_meet
    exact ⟨_,_,rfl,hst.1,hst.2,hP.2⟩
   ·rw[if_pos (by rfl)]
    skip
    go_simp
    skip
    have hI:=HI1.out.mkP;obtain ⟨bp,hbe⟩:∃bp,V1.heap.size=bp:=⟨_,rfl⟩
    obtain ⟨V2,hWn⟩:∃V2,V1.alloc (.cells #[.int .i64 0,.int .i64 0,.int .i64 0,.int .i64 0,.int .i64 0,.slice none 0 0,.slice none 0 0] 24)=V2:=⟨_,rfl⟩
    try dsimp only at hI
    rw[hWn,hbe] at hI;try rw[hbe]
    rw[hWn];have HI2:=Zh hI;clear hI hWn hbe HI1;refine hK.out _ _ (show _∧_∧_ from ⟨(HI2.out.a.cell 0).trans rfl,(HI2.out.a.cell 1).trans rfl,(HI2.out.x.cell 3).trans rfl⟩) (fun hHeld=>?_);clear hK K;try simp only[AP]
    refine RW 1 rfl fun K hK=>?_;go_simp;go_at_call 51;refine (ZBO _).mono ?_;rintro E V3 ⟨rfl,hb⟩;have HI3:=Zh (HI2.out.bel hb);clear hb HI2;try go_simp
    refine hK.out _ _ (show _∧_∧_ from ⟨(HI3.out.a.cell 0).trans rfl,(HI3.out.a.cell 1).trans rfl,(HI3.out.x.cell 3).trans rfl⟩) (fun hHeld=>?_);clear hK K;try simp only[AP]
    refine TW 6 rfl ?_;try simp only[AP]
    refine RW 8 rfl fun K hK=>?_;have hP:=(HI3.out.o bp rfl)
    have z0:V3.cell? ⟨bp,0,none⟩=some (.int .i64 0):=(hP.1.cell 0).trans rfl;have z1:V3.cell? ⟨bp,1,none⟩=some (.int .i64 0):=(hP.1.cell 1).trans rfl;have z2:V3.cell? ⟨bp,2,none⟩=some (.int .i64 0):=(hP.1.cell 2).trans rfl;have z3:V3.cell? ⟨bp,3,none⟩=some (.int .i64 0):=(hP.1.cell 3).trans rfl;have z4:V3.cell? ⟨bp,4,none⟩=some (.int .i64 0):=(hP.1.cell 4).trans rfl;have z5:V3.cell? ⟨bp,5,none⟩=some (.slice none 0 0):=(hP.1.cell 5).trans rfl;have z6:V3.cell? ⟨bp,6,none⟩=some (.slice none 0 0):=(hP.1.cell 6).trans rfl;have f0:=hP.1.frozen 0;have f1:=hP.1.frozen 1;have f2:=hP.1.frozen 2;have f3:=hP.1.frozen 3;have f4:=hP.1.frozen 4;have f5:=hP.1.frozen 5;have f6:=hP.1.frozen 6;have hst:=FuI.stz HI3.out hP.1 hP.2 (.slice (some ⟨bs,0,none⟩) 0 0);go_simp;refine hK.out _ _ (show _∧_∧_ from ⟨(hst.1.a.cell 0).trans rfl,(hst.1.a.cell 1).trans rfl,(hst.1.x.cell 3).trans rfl⟩) (fun hHeld=>?_);clear z0 z1 z2 z3 z4 z5 z6 f0 f1 f2 f3 f4 f5 f6;clear hK K;try simp only[AP]
    refine wpAnyH_done (by kernel_rfl) ?_ _;go_wp2_with fail
    go_meet
    exact ⟨_,_,rfl,hst.1,hst.2,hP.2⟩
  ·rw[if_pos (by rfl)]
   skip
   go_simp
   skip
   have hI:=HI0.out.mkP;obtain ⟨bp,hbe⟩:∃bp,V0.heap.size=bp:=⟨_,rfl⟩
   obtain ⟨V1,hWn⟩:∃V1,V0.alloc (.cells #[.int .i64 0,.int .i64 0,.int .i64 0,.int .i64 0,.int .i64 0,.slice none 0 0,.slice none 0 0] 24)=V1:=⟨_,rfl⟩
   try dsimp only at hI
   rw[hWn,hbe] at hI;try rw[hbe]
   rw[hWn];have HI1:=Zh hI;clear hI hWn hbe HI0;refine hK.out _ _ (show _∧_∧_ from ⟨(HI1.out.a.cell 0).trans rfl,(HI1.out.a.cell 1).trans rfl,(HI1.out.x.cell 3).trans rfl⟩) (fun hHeld=>?_);clear hK K;try simp only[AP]
   refine wpAnyH_ready (rs:=[1,5]) (by kernel_rfl) (by simp) ?_;refine AllReadyH.cons rfl (fun K hK=>?_) (AllReadyH.cons rfl (fun K hK=>?_) (AllReadyH.nil))
   ·rw[if_pos (by rfl)]
    go_simp;go_at_call 51;refine (ZBO _).mono ?_;rintro E V2 ⟨rfl,hb⟩;have HI2:=Zh (HI1.out.bel hb);clear hb HI1;try go_simp
    refine hK.out _ _ (show _∧_∧_ from ⟨(HI2.out.a.cell 0).trans rfl,(HI2.out.a.cell 1).trans rfl,(HI2.out.x.cell 3).trans rfl⟩) (fun hHeld=>?_);clear hK K;try simp only[AP]
    refine RW 5 rfl fun K hK=>?_;have hmk:=ZA6;go_simp;clear hmk;have hI:=HI2.out.bel (ZN V2 (.cells #[] 3));obtain ⟨bs,hbe⟩:∃bs,V2.heap.size=bs:=⟨_,rfl⟩
    obtain ⟨V3,hWn⟩:∃V3,V2.alloc (.cells #[] 3)=V3:=⟨_,rfl⟩
    try dsimp only at hI
    rw[hWn] at hI;try rw[hbe]
    rw[hWn];have HI3:=Zh hI;clear hI hWn hbe HI2;refine hK.out _ _ (show _∧_∧_ from ⟨(HI3.out.a.cell 0).trans rfl,(HI3.out.a.cell 1).trans rfl,(HI3.out.x.cell 3).trans rfl⟩) (fun hHeld=>?_);clear hK K;try simp only[AP]
    refine TW 6 rfl ?_;try simp only[AP]
    refine RW 8 rfl fun K hK=>?_;have hP:=(HI3.out.o bp rfl)
    have z0:V3.cell? ⟨bp,0,none⟩=some (.int .i64 0):=(hP.1.cell 0).trans rfl;have z1:V3.cell? ⟨bp,1,none⟩=some (.int .i64 0):=(hP.1.cell 1).trans rfl;have z2:V3.cell? ⟨bp,2,none⟩=some (.int .i64 0):=(hP.1.cell 2).trans rfl;have z3:V3.cell? ⟨bp,3,none⟩=some (.int .i64 0):=(hP.1.cell 3).trans rfl;have z4:V3.cell? ⟨bp,4,none⟩=some (.int .i64 0):=(hP.1.cell 4).trans rfl;have z5:V3.cell? ⟨bp,5,none⟩=some (.slice none 0 0):=(hP.1.cell 5).trans rfl;have z6:V3.cell? ⟨bp,6,none⟩=some (.slice none 0 0):=(hP.1.cell 6).trans rfl;have f0:=hP.1.frozen 0;have f1:=hP.1.frozen 1;have f2:=hP.1.frozen 2;have f3:=hP.1.frozen 3;have f4:=hP.1.frozen 4;have f5:=hP.1.frozen 5;have f6:=hP.1.frozen 6;have hst:=FuI.stz HI3.out hP.1 hP.2 (.slice (some ⟨bs,0,none⟩) 0 0);go_simp;refine hK.out _ _ (show _∧_∧_ from ⟨(hst.1.a.cell 0).trans rfl,(hst.1.a.cell 1).trans rfl,(hst.1.x.cell 3).trans rfl⟩) (fun hHeld=>?_);clear z0 z1 z2 z3 z4 z5 z6 f0 f1 f2 f3 f4 f5 f6;clear hK K;try simp only[AP]
    refine wpAnyH_done (by kernel_rfl) ?_ _;go_wp2_with fail
    go_meet
    exact ⟨_,_,rfl,hst.1,hst.2,hP.2⟩
   ·rw[if_pos (by rfl)]
    have hmk:=ZA6;go_simp;clear hmk;have hI:=HI1.out.bel (ZN V1 (.cells #[] 3));obtain ⟨bs,hbe⟩:∃bs,V1.heap.size=bs:=⟨_,rfl⟩
    obtain ⟨V2,hWn⟩:∃V2,V1.alloc (.cells #[] 3)=V2:=⟨_,rfl⟩
    try dsimp only at hI
    rw[hWn] at hI;try rw[hbe]
    rw[hWn];have HI2:=Zh hI;clear hI hWn hbe HI1;refine hK.out _ _ (show _∧_∧_ from ⟨(HI2.out.a.cell 0).trans rfl,(HI2.out.a.cell 1).trans rfl,(HI2.out.x.cell 3).trans rfl⟩) (fun hHeld=>?_);clear hK K;try simp only[AP]
    refine RW 1 rfl fun K hK=>?_;go_simp;go_at_call 51;refine (ZBO _).mono ?_;rintro E V3 ⟨rfl,hb⟩;have HI3:=Zh (HI2.out.bel hb);clear hb HI2;try go_simp
    refine hK.out _ _ (show _∧_∧_ from ⟨(HI3.out.a.cell 0).trans rfl,(HI3.out.a.cell 1).trans rfl,(HI3.out.x.cell 3).trans rfl⟩) (fun hHeld=>?_);clear hK K;try simp only[AP]
    refine TW 6 rfl ?_;try simp only[AP]
    refine RW 8 rfl fun K hK=>?_;have hP:=(HI3.out.o bp rfl)
    have z0:V3.cell? ⟨bp,0,none⟩=some (.int .i64 0):=(hP.1.cell 0).trans rfl;have z1:V3.cell? ⟨bp,1,none⟩=some (.int .i64 0):=(hP.1.cell 1).trans rfl;have z2:V3.cell? ⟨bp,2,none⟩=some (.int .i64 0):=(hP.1.cell 2).trans rfl;have z3:V3.cell? ⟨bp,3,none⟩=some (.int .i64 0):=(hP.1.cell 3).trans rfl;have z4:V3.cell? ⟨bp,4,none⟩=some (.int .i64 0):=(hP.1.cell 4).trans rfl;have z5:V3.cell? ⟨bp,5,none⟩=some (.slice none 0 0):=(hP.1.cell 5).trans rfl;have z6:V3.cell? ⟨bp,6,none⟩=some (.slice none 0 0):=(hP.1.cell 6).trans rfl;have f0:=hP.1.frozen 0;have f1:=hP.1.frozen 1;have f2:=hP.1.frozen 2;have f3:=hP.1.frozen 3;have f4:=hP.1.frozen 4;have f5:=hP.1.frozen 5;have f6:=hP.1.frozen 6;have hst:=FuI.stz HI3.out hP.1 hP.2 (.slice (some ⟨bs,0,none⟩) 0 0);go_simp;refine hK.out _ _ (show _∧_∧_ from ⟨(hst.1.a.cell 0).trans rfl,(hst.1.a.cell 1).trans rfl,(hst.1.x.cell 3).trans rfl⟩) (fun hHeld=>?_);clear z0 z1 z2 z3 z4 z5 z6 f0 f1 f2 f3 f4 f5 f6;clear hK K;try simp only[AP]
    refine wpAnyH_done (by kernel_rfl) ?_ _;go_wp2_with fail
    go_meet
    exact ⟨_,_,rfl,hst.1,hst.2,hP.2⟩
 case rest=>
  obtain ⟨p,gs,rfl,HC⟩:=hcut;clear HU3;have a1:wc.cell? ⟨q+1,1,none⟩=some (.int .i64 0):=(HC.out.1.a.cell 1).trans rfl;have x3:wc.cell? ⟨q,3,none⟩=some (.slice none 0 0):=(HC.out.1.x.cell 3).trans rfl;have p6:wc.cell? ⟨p,6,none⟩=some (.slice none 0 0):=(HC.out.2.1.cell 6).trans rfl;go_upto_region 7 with fail
  have hbw:=ZN wc (.cells #[.int .i64 0,.int .i64 0,.func (.func 52) #[] #[.pointer (some ⟨p,0,none⟩)],.int .i64 0,.int .i64 0,.func (.func 53) #[] #[.pointer (some ⟨p,0,none⟩)],.int .i64 0,.int .i64 0,.func (.func 54) #[] #[.pointer (some ⟨p,0,none⟩)],.int .i64 0,.int .i64 4,.func (.func 55) #[] #[.pointer (some ⟨p,0,none⟩)]] 149);have HP:=Zh (Za (HC.out.1.bel hbw) (Za (HC.out.2.1.below hbw HC.out.2.1.lt) (Za (Blk.new wc 149 #[.int .i64 0,.int .i64 0,.func (.func 52) #[] #[.pointer (some ⟨p,0,none⟩)],.int .i64 0,.int .i64 0,.func (.func 53) #[] #[.pointer (some ⟨p,0,none⟩)],.int .i64 0,.int .i64 0,.func (.func 54) #[] #[.pointer (some ⟨p,0,none⟩)],.int .i64 0,.int .i64 4,.func (.func 55) #[] #[.pointer (some ⟨p,0,none⟩)]]) HC.out.2.2)));obtain ⟨bt,hbt⟩:∃bt,wc.heap.size=bt:=⟨_,rfl⟩
  obtain ⟨V5,hV5⟩:∃V,wc.alloc (.cells #[.int .i64 0,.int .i64 0,.func (.func 52) #[] #[.pointer (some ⟨p,0,none⟩)],.int .i64 0,.int .i64 0,.func (.func 53) #[] #[.pointer (some ⟨p,0,none⟩)],.int .i64 0,.int .i64 0,.func (.func 54) #[] #[.pointer (some ⟨p,0,none⟩)],.int .i64 0,.int .i64 4,.func (.func 55) #[] #[.pointer (some ⟨p,0,none⟩)]] 149)=V:=⟨_,rfl⟩
  rw[hbt,hV5] at HP;rw[hbt,hV5];clear HC hbw a1 x3 p6 hbt hV5;have x3:V5.cell? ⟨q,3,none⟩=some (.slice none 0 0):=(HP.out.1.x.cell 3).trans rfl;go_wp2_with fail
  go_loopw [56,10] (fun v s W=>v=.int .i64 0∧s=.slice (some ⟨bt,0,none⟩) 4 4∧W=V5) (fun _ _ _=>0)
  case atStart=>exact ⟨rfl,rfl,rfl⟩
  case round=>
   obtain ⟨rfl,rfl,rfl⟩:=hrel;clear x3;have HLA:=Zh (laid_any p bt 4 #[.int .i64 0,.int .i64 0,.int .i64 0,.int .i64 0,.int .i64 0,.slice (some ⟨gs,0,none⟩) 0 0,.slice none 0 0] (by
    intro i h1 h2;have h3:i=1∨i=2∨i=3∨i=4:=by omega
    rcases h3 with rfl|rfl|rfl|rfl<;>rfl) wr HP.out.2.1 HP.out.2.2.1)
   go_wp2_with fail
   refine HLA.out.mono ?_;rintro e V6 ⟨rfl,hkp,hbl⟩;have HV6:=Zh (Za (HP.out.1.kp hkp HP.out.2.2.2) (Za hbl HP.out.2.2.2));clear HLA HP hkp hbl;go_wp2_with fail
   refine (up416 V6).mono ?_;rintro e V6' ⟨rfl,rfl⟩;have z0:V6'.cell? ⟨p,0,none⟩=some (.int .i64 0):=(HV6.out.2.1.cell 0).trans rfl;have f0:=HV6.out.2.1.frozen 0;go_upto_region 13 with fail
   clear z0 f0;have HV7:=Zh (Za (HV6.out.1.kp (p:=p) ((ZE.refl (fun i=>i=p) V6').setCell (p:=⟨p,0,none⟩) (Or.inr rfl) (.int .i64 16)) HV6.out.2.2) (Za (HV6.out.2.1.set_ 0 (.int .i64 16)) HV6.out.2.2));clear HV6;obtain ⟨V7,hV7⟩:∃V,V6'.setCell ⟨p,0,none⟩ (.int .i64 16)=V:=⟨_,rfl⟩
   rw[hV7] at HV7;rw[hV7];clear hV7;have z0:V7.cell? ⟨p,0,none⟩=some (.int .i64 16):=(HV7.out.2.1.cell 0).trans rfl;have z1:V7.cell? ⟨p,1,none⟩=some (.int .i64 0):=(HV7.out.2.1.cell 1).trans rfl;have z2:V7.cell? ⟨p,2,none⟩=some (.int .i64 0):=(HV7.out.2.1.cell 2).trans rfl;have z3:V7.cell? ⟨p,3,none⟩=some (.int .i64 0):=(HV7.out.2.1.cell 3).trans rfl;have z4:V7.cell? ⟨p,4,none⟩=some (.int .i64 0):=(HV7.out.2.1.cell 4).trans rfl;have z5:V7.cell? ⟨p,5,none⟩=some (.slice (some ⟨gs,0,none⟩) 0 0):=(HV7.out.2.1.cell 5).trans rfl;have z6:V7.cell? ⟨p,6,none⟩=some (.slice none 0 0):=(HV7.out.2.1.cell 6).trans rfl;have y0:V7.cell? ⟨q+2,0,none⟩=some (.int .i64 0):=(HV7.out.1.r.cell 0).trans rfl;have g0:=HV7.out.1.r.frozen 0;have y1:V7.cell? ⟨q+2,1,none⟩=some (.int .i64 0):=(HV7.out.1.r.cell 1).trans rfl;have g1:=HV7.out.1.r.frozen 1;have y2:V7.cell? ⟨q+2,2,none⟩=some (.int .i64 0):=(HV7.out.1.r.cell 2).trans rfl;have g2:=HV7.out.1.r.frozen 2;have y3:V7.cell? ⟨q+2,3,none⟩=some (.int .i64 0):=(HV7.out.1.r.cell 3).trans rfl;have g3:=HV7.out.1.r.frozen 3;have y4:V7.cell? ⟨q+2,4,none⟩=some (.int .i64 0):=(HV7.out.1.r.cell 4).trans rfl;have g4:=HV7.out.1.r.frozen 4;have y5:V7.cell? ⟨q+2,5,none⟩=some (.slice none 0 0):=(HV7.out.1.r.cell 5).trans rfl;have g5:=HV7.out.1.r.frozen 5;have y6:V7.cell? ⟨q+2,6,none⟩=some (.slice none 0 0):=(HV7.out.1.r.cell 6).trans rfl;have g6:=HV7.out.1.r.frozen 6;have HFI:=Zh (HV7.out.1.fin (.int .i64 16) (.slice (some ⟨gs,0,none⟩) 0 0));clear HV7;go_wp2_with fail
   clear z0 y0 g0 z1 y1 g1 z2 y2 g2 z3 y3 g3 z4 y4 g4 z5 y5 g5 z6 y6 g6;have d0:=HFI.out.1.cell 0;have d1:=HFI.out.1.cell 1;have d2:=HFI.out.1.cell 2;have d3:=HFI.out.1.cell 3;have d4:=HFI.out.1.cell 4;have d5:=HFI.out.1.cell 5;have d6:=HFI.out.1.cell 6;simp only[List.getElem?_toArray,List.getElem?_cons_zero,List.getElem?_cons_succ] at d0 d1 d2 d3 d4 d5 d6;refine bodyPost_ret (v:=.tuple #[.agg #[.int .i64 16,.int .i64 0,.int .i64 0,.int .i64 0,.int .i64 0,.slice (some ⟨gs,0,none⟩) 0 0,.slice none 0 0],.int .i64 0]) (by simp[results,Tryz.results20,d0,d1,d2,d3,d4,d5,d6,go_sem]) rfl ?_;exact ⟨⟨_,rfl⟩,HFI.out.2⟩
end Go.Proofs.YtggmkofbikafhaaGreatDoor
namespace Go.Proofs.YtggmkofbikafhaaGreatDoor
open Go.RowKit
theorem works_at (w:World) (hk:Zj w) (ht:ZFM w):Calls Tryz.prog 4 #[] w fun e w'=>e=.returned (.bool true)∧Below w.heap.size w w':=by
 have HTZ:=Zh (fun W (h:Below w.heap.size w W)=>ht.below h);have HKE:=Zh (fun W (h:Below w.heap.size w W)=>hk.below h);clear hk ht;go_enter Tryz.func4,Tryz.ntmps4
 go_wp2_with fail
 refine (leaf_any w).mono ?_;rintro e w1 ⟨⟨g,rfl,hb⟩,hb1⟩;have HF:=Zh (func_any g w1 hb (HKE.out w1 hb1) (HTZ.out w1 hb1));have HB1:=Zh hb1;have he:fnv Lf (.slice none 0 0) (.slice (some ⟨g,0,none⟩) 1 1)=.agg #[.string ⟨#[102]⟩,.int .i64 0,.int .i64 0,.slice none 0 0,.slice (some ⟨g,0,none⟩) 1 1]:=by unfold fnv Lf;rfl
 rw[he];clear hb hb1 he HTZ HKE;go_wp2_with fail
 refine HF.out.mono ?_;rintro e w2 ⟨⟨gs,rfl⟩,hb2⟩;have HB2:=Zh (HB1.out.trans (ZA hb2 HB1.out.size));have HB3:=Zh (HB2.out.trans (ZA (ZN w2 (.cells #[.int .i64 16,.int .i64 0,.int .i64 0,.int .i64 0,.int .i64 0,.slice (some ⟨gs,0,none⟩) 0 0,.slice none 0 0] 24)) HB2.out.size));clear HF HB1 HB2 hb2;go_wp2_with fail
 go_ret;exact ⟨rfl,HB3.out⟩
theorem works_ok (w:World) (hk:Zj w) (ht:ZFM w):ZFE w:=fun W h=>works_at W (hk.below h) (ht.below h)
end Go.Proofs.YtggmkofbikafhaaGreatDoor
