/- Walks and plain laws on the way to FramePrologue (SB). Conditions: those that each theorem states. -/
import Derived.Test.YtggmkofbikafhaaGreatDoorST
set_option linter.unusedVariables false
set_option linter.unusedSimpArgs false
set_option maxRecDepth 100000
set_option maxHeartbeats 40000000
namespace Go.Proofs.YtggmkofbikafhaaGreatDoor
open Go.RowKit Go.Lib
theorem sy_one (x:Sy):∀y∈x.cells,y.oneCell'=true:=by
 intro y hy;simp[Sy.cells] at hy;rcases hy with rfl|rfl<;>rfl
theorem sys_one (l:List Sy):∀y∈l.flatMap Sy.cells,y.oneCell'=true:=by
 intro y hy;obtain ⟨x,-,hx⟩:=List.mem_flatMap.1 hy;exact sy_one x y hx
theorem OwnY.form {W:World} {B:Nat} {v:Value} {l:List Sy} (h:OwnY W B v l):∃A c,v=.slice A l.length c∧l.length≤c∧c≤maxLen:=slice_form h
theorem OwnY.below {W W':World} {B:Nat} {v:Value} {l:List Sy} (h:OwnY W B v l) (hb:Below W.heap.size W W'):OwnY W' B v l:=ZB h (ZC (fun _=>False) hb) (fun _ _=>id)
theorem OwnY.cat {W:World} {B:Nat} {v u:Value} {l m:List Sy} (h:OwnY W B v l) (hu:RowOf W u m.length (m.flatMap Sy.cells)) (hB:B≤W.heap.size) (hs:l.length+m.length<1000000) (ty:TypeId) :
  ∃A c W',(Builtin.append_ #[50,50] ty #[v,u]).run Tryz.prog W=.ok (.slice A (l.length+m.length) c) W'∧OwnY W' B (.slice A (l.length+m.length) c) (l++m)∧ZE (fun k=>v.ownBlock=some k) W W'∧((Value.slice A (l.length+m.length) c).ownBlock=v.ownBlock∨(Value.slice A (l.length+m.length) c).ownBlock=some W.heap.size):=by
 obtain ⟨v',W',e1,e2,e3,e4⟩:=app_any arowY ty h hu (ZAZ Sy.cells 2 sy_len m) (sys_one m) (by unfold maxLen;omega) (by omega) hB;obtain ⟨A,c,rfl,-,-⟩:=slice_form e2;refine ⟨A,c,W',e1,?_,(ZE.refl _ _).grown e3 (fun g hg=>Or.inr hg),e4⟩;unfold OwnY;rw[List.length_append,List.flatMap_append];exact e2
theorem ZHG (W:World) (x:Sy):RowOf (W.alloc (.cells #[.string x.nm,.int .i64 x.at_] 116)) (.slice (some ⟨W.heap.size,0,none⟩) 1 1) 1 x.cells:=by
 refine ⟨_,_,rfl,Nat.le_refl _,by decide,fun _=>⟨_,0,rfl,by simp[World.size_alloc],fun j u hj=>?_⟩⟩;rw[Nat.zero_add,(Blk.new W _ _).cell]
 simpa[Sy.cells] using hj
theorem RowOf.keepsB {W W':World} {F:Nat→Prop} {g n c:Nat} {xs:List Value} (h:RowOf W (.slice (some ⟨g,0,none⟩) n c) n xs) (hk:ZE F W W') (hF:¬F g):RowOf W' (.slice (some ⟨g,0,none⟩) n c) n xs:=by
 obtain ⟨A,cap,e,h1,h2,h3⟩:=h;refine ⟨A,cap,e,h1,h2,fun hn=>?_⟩;obtain ⟨g',off,e1,h4,h5⟩:=h3 hn;injection e with ea eb ec
 rw[←ea] at e1
 injection e1 with e1
 injection e1 with e1 e2
 refine ⟨g',off,by rw[←ea,e1,e2],Nat.lt_of_lt_of_le h4 hk.size,fun j u hj=>(hk.cell (p:=⟨g',off+j,none⟩) h4 (by rw[←e1];exact hF)).trans (h5 j u hj)⟩
theorem ZCb {t e:TypeId} {size bytes:Nat} (F:ZHl t e size bytes) (ty:TypeId) (w:World) (a:Addr) (X:Option Addr) (n cap c:Nat) (hn:n≤cap) (hm:cap≤maxLen):(Builtin.append_ #[t,t] ty #[.slice (some a) n cap,.slice X 0 c]).run Tryz.prog w=.ok (.slice (some a) n cap) w:=by
 obtain ⟨i,z,hi,hz,hs,hb,_⟩:=F.i;unfold maxLen at hm
 cases X with
 | none=>simp[Builtin.append_,run_underlying F.u,sizeOf,typeInfo,hi,Builtin.lenOf,Builtin.firstCells,storeCells,hn]
 | some b=>simp[Builtin.append_,run_underlying F.u,sizeOf,typeInfo,hi,Builtin.lenOf,Builtin.firstCells,storeCells,loadCells,loadCellsFrom,hn]
structure ZIv (V W:World) (oe ox:Option Nat) (ov:Option Value) (l:List Sy) (x:Sy):Prop where
 be:Below V.heap.size V W
 e:∀b,oe=some b→OwnY W V.heap.size (.slice (some ⟨b,0,none⟩) 0 0) []
 x:∀b,ox=some b→RowOf W (.slice (some ⟨b,0,none⟩) 1 1) 1 x.cells∧b<W.heap.size
 r:∀v,ov=some v→OwnY W V.heap.size v l
 ne:∀b b',oe=some b→ox=some b'→b≠b'
 nr:∀v b',ov=some v→ox=some b'→v.ownBlock≠some b'
theorem ZIv.mkE {V W:World} {ox:Option Nat} {l:List Sy} {x:Sy} (h:ZIv V W none ox none l x):ZIv V (W.alloc (.cells #[] 116)) (some W.heap.size) ox none l x:=by
 have ha:=ZV W (.cells #[] 116);refine ⟨h.be.trans (ZA ha h.be.size),fun b e=>?_,fun b e=>⟨(h.x b e).1.below ha,by have:=(h.x b e).2;simp[World.size_alloc];omega⟩,fun v e=>(by cases e),fun b b' e e'=>?_,fun v b' e=>(by cases e)⟩
 ·injection e with e
  subst e;exact ZO (ZAT _ _) h.be.size
 ·injection e with e
  subst e;have:=(h.x b' e').2;omega
theorem ZIv.mkX {V W:World} {oe:Option Nat} {ov:Option Value} {l:List Sy} {x:Sy} (h:ZIv V W oe none ov l x):ZIv V (W.alloc (.cells #[.string x.nm,.int .i64 x.at_] 116)) oe (some W.heap.size) ov l x:=by
 have ha:=ZV W (.cells #[.string x.nm,.int .i64 x.at_] 116);refine ⟨h.be.trans (ZA ha h.be.size),fun b e=>(h.e b e).below ha,fun b e=>?_,fun v e=>(h.r v e).below ha,fun b b' e e'=>?_,fun v b' e e' hv=>?_⟩
 ·injection e with e
  subst e;exact ⟨ZHG W x,by simp[World.size_alloc]⟩
 ·injection e' with e'
  subst e';have:=ZFe (h.e b e) b rfl;omega
 ·injection e' with e'
  subst e';have:=ZFe (h.r v e) _ hv;omega
theorem ZIv.app1 {V W:World} {b:Nat} {ox:Option Nat} {l:List Sy} {x:Sy} {u:Value} (h:ZIv V W (some b) ox none l x) (hu:RowOf V u l.length (l.flatMap Sy.cells)) (hs:l.length<1000) (ty:TypeId) :
  ∃A c W',(Builtin.append_ #[50,50] ty #[.slice (some ⟨b,0,none⟩) 0 0,u]).run Tryz.prog W=.ok (.slice A l.length c) W'∧ZIv V W' none ox (some (.slice A l.length c)) l x:=by
 have he:=h.e b rfl;obtain ⟨A,c,W',e1,e2,e3,e4⟩:=he.cat (hu.below h.be) h.be.size (by simp;omega) ty;simp only[List.length_nil,Nat.zero_add,List.nil_append] at e1 e2 e4;refine ⟨A,c,W',e1,?_,fun b e=>(by cases e),fun b' e=>⟨?_,by have:=(h.x b' e).2;have:=e3.size;omega⟩,fun v e=>?_,fun b b' e=>(by cases e),fun v b' e e' hv=>?_⟩
 ·exact h.be.trans (e3.toBelow h.be.size (fun k hk e=>by have:=ZAB he e;omega))
 ·exact (h.x b' e).1.keepsB e3 (fun q=>by injection q with q;exact h.ne b b' rfl e q)
 ·injection e with e
  subst e;exact e2
 ·injection e with e
  subst e;have:=(h.x b' e').2;rcases e4 with e4|e4
  ·rw[e4] at hv
   injection hv with hv
   exact h.ne b b' rfl e' hv
  ·rw[e4] at hv
   injection hv with hv
   omega
theorem ZIv.app2 {V W:World} {b:Nat} {v:Value} {l:List Sy} {x:Sy} (h:ZIv V W none (some b) (some v) l x) (hs:l.length<1000) (ty:TypeId) :
  ∃A c W',(Builtin.append_ #[50,50] ty #[v,.slice (some ⟨b,0,none⟩) 1 1]).run Tryz.prog W=.ok (.slice A (l.length+1) c) W'∧Below V.heap.size V W'∧OwnY W' V.heap.size (.slice A (l.length+1) c) (l++[x]):=by
 have hr:=h.r v rfl;obtain ⟨A,c,W',e1,e2,e3,e4⟩:=hr.cat (m:=[x]) (by simpa using (h.x b rfl).1) h.be.size (by simp;omega) ty;exact ⟨A,c,W',by simpa using e1,h.be.trans (e3.toBelow h.be.size (fun k hk e=>by have:=ZAB hr e;omega)),by simpa using e2⟩
structure SS (w W:World) (p q:Nat) (tv lv Rv:Value) (gr:Nat) (lb:List Lb) (T:Nat):Prop where
 be:Below p w W
 pq:p+1≤q
 flt:Blk W p 38 #[.int .i64 0,.int .i64 0]
 box:Blk W q 36 #[tv,.slice none 0 0,lv,Rv]
 lb:OwnL W (p+1) lv lb
 rg:RC3 W gr T
theorem SS.bel {w W W':World} {p q:Nat} {tv lv Rv:Value} {gr:Nat} {lb:List Lb} {T:Nat} (h:SS w W p q tv lv Rv gr lb T) (hb:Below W.heap.size W W'):SS w W' p q tv lv Rv gr lb T:=
 ⟨h.be.trans (ZA hb (by have:=h.flt.lt;omega)),h.pq,h.flt.below hb h.flt.lt,h.box.below hb h.box.lt,h.lb.below hb,h.rg.below hb⟩
theorem SS.grow {w W W':World} {p q:Nat} {tv lv Rv v:Value} {gr B0:Nat} {lb:List Lb} {T:Nat} {l:List Sy} (h:SS w W p q tv lv Rv gr lb T) (hr:OwnY W (p+1) v l) (hg:∀g,v.ownBlock=some g→g≠gr) (hk:ZE (fun k=>v.ownBlock=some k) W W'):SS w W' p q tv lv Rv gr lb T:=by
 have hno:∀g t cs,Blk W g t cs→t≠116→¬v.ownBlock=some g:=fun g t cs hb ht e=>by
  obtain ⟨cu,hcu⟩:=ZI hr e;exact ht (hb.kind hcu)
 have hc:∀ {j:Nat} {x:Value},W.cell? ⟨gr,j,none⟩=some x→W'.cell? ⟨gr,j,none⟩=some x:=fun hx=>(hk.cell (cell_lt hx) (fun e=>hg gr e rfl)).trans hx;exact ⟨h.be.trans (hk.toBelow (by have:=h.flt.lt;omega) (fun g hg e=>by have:=ZAB hr e;omega)),h.pq,h.flt.keeps hk (hno _ _ _ h.flt (by decide)),h.box.keeps hk (hno _ _ _ h.box (by decide)),ZB h.lb hk (fun g hg e=>by
  obtain ⟨cu,hcu⟩:=ZI h.lb hg;exact hno _ _ _ hcu (by decide) e),⟨hc h.rg.a0,hc h.rg.a1,hc h.rg.a2,hc h.rg.a3,hc h.rg.a4,hc h.rg.b0,hc h.rg.b1,hc h.rg.b2,hc h.rg.b3,hc h.rg.b4,hc h.rg.c0,hc h.rg.c1,hc h.rg.c2,hc h.rg.c3,hc h.rg.c4⟩⟩
def ZK3 (l:List Sy):Prop:=∀i (h:i+1<l.length),l[i].at_<l[i+1].at_
def ZDk (lb:List Lb):List Sy:=lb.map fun x=>⟨str x.nm,4096+(x.at_:Int)⟩
def Zr (lb:List Lb) (T:Nat):List Sy:=ZDk lb++[⟨stackS,4096+(T:Int)⟩,⟨stackS++endS,4096+(T:Int)+16384⟩]
theorem ZGQ (n:Nat) (ev ov:Value) (hev:∃A n c,ev=.slice A n c) (hov:∃A n c,ov=.slice A n c) (tx:List UInt8) (lb:List Lb) (w:World) (hpl:ZC0 w ev ov tx lb) (htx:tx.length≤100000) (hlb:lb.length≤100) (hg:ZIs n lb)
  (hup:ZK3 (Zr lb (upN tx.length))) :
  Calls Tryz.prog 10 #[ev,ov] w fun e w'=>(∃sv,e=.returned (.tuple #[sv,.agg #[.int .i64 0,.int .i64 0]])∧OwnY w' w.heap.size sv (Zr lb (upN tx.length)))∧Below w.heap.size w w':=by
 obtain ⟨Ae,ne,ce,rfl⟩:=hev;obtain ⟨Ao,no,co,rfl⟩:=hov;obtain ⟨p,hp⟩:∃p,w.heap.size=p:=⟨_,rfl⟩
 have HP:=Zh hp;have hst:Below w.heap.size w (w.alloc (.cells #[.int .i64 0,.int .i64 0] 38)):=ZV _ _;have HJ:=Zh (hpl _ hst);have HST:Hid (Below p w (w.alloc (.cells #[.int .i64 0,.int .i64 0] 38))∧Blk (w.alloc (.cells #[.int .i64 0,.int .i64 0] 38)) p 38 #[.int .i64 0,.int .i64 0]):=by
  subst hp;exact ⟨hst,Blk.new w _ _⟩
 have HG:=Zh hg;have HUP:=Zh hup;clear hst hpl hg hup;have hsz:(w.alloc (.cells #[.int .i64 0,.int .i64 0] 38)).heap.size=p+1:=by simp[World.size_alloc,hp]
 rw[hsz] at HJ;clear hsz;rw[hp];go_enter Tryz.func10,Tryz.ntmps10
 go_wp2_with fail
 obtain ⟨W1,hW1⟩:∃W1,w.alloc (.cells #[.int .i64 0,.int .i64 0] 38)=W1:=⟨_,rfl⟩
 rw[hW1] at HJ HST ⊢;refine HJ.out.mono ?_;rintro e w2 ⟨⟨tv,lv,r0,rv,rfl,ht2,hl2,hr2⟩,hb2⟩;obtain ⟨At,ct,rfl,-,-⟩:=ZR ht2;obtain ⟨Al,cl,rfl,-,-⟩:=hl2.form;obtain ⟨T,hT⟩:∃T,upN tx.length=T:=⟨_,rfl⟩
 rw[hT] at hr2;obtain ⟨gr,cr,rfl,hrc2,hgr2⟩:=hr2.rc3;have HS2:=Zh (Za (HST.out.1.trans (ZA hb2 (by omega))) (Za (HST.out.2.below hb2 (by omega)) (Za hl2 (Za hrc2 hgr2))));obtain ⟨n1,hn1⟩:∃n1,tx.length=n1:=⟨_,rfl⟩
 obtain ⟨n3,hn3⟩:∃n3,lb.length=n3:=⟨_,rfl⟩
 have hTl:T≤100015:=by rw[←hT];unfold upN;omega
 rw[hn3] at HS2;rw[hn1] at htx ⊢;rw[hn3] at hlb ⊢;have HL3:=Zh hn3;have HTT:=Zh hT;clear ht2 hl2 hr2 hb2 HJ HST hW1 hn1 hn3 hT hrc2 hgr2;go_upto_region 2 with fail
 obtain ⟨q,hq⟩:∃q,w2.heap.size=q:=⟨_,rfl⟩
 obtain ⟨w3,hw3⟩:∃w3,(w2.alloc (.cells #[.slice At n1 ct,.slice none 0 0,.slice Al n3 cl,.slice (some ⟨r0,0,none⟩) 0 0] 36)).alloc (.cells #[.int .i64 0,.int .i64 0] 38)=w3:=⟨_,rfl⟩
 have HS3:Hid (SS w w3 p q (.slice At n1 ct) (.slice Al n3 cl) (.slice (some ⟨r0,0,none⟩) 0 0) gr lb T∧w3.cell? ⟨q+1,1,none⟩=some (.int .i64 0)∧gr<w3.heap.size):=by
  have hb:Below w2.heap.size w2 w3:=by rw[←hw3];exact bel2 _ _ _
  have h0:=HS2.out.2.1.lt;have hn:=(Blk.new w2 36 #[.slice At n1 ct,.slice none 0 0,.slice Al n3 cl,.slice (some ⟨r0,0,none⟩) 0 0]).alloc (.cells #[.int .i64 0,.int .i64 0] 38);have hn2:Blk ((w2.alloc (.cells #[.slice At n1 ct,.slice none 0 0,.slice Al n3 cl,.slice (some ⟨r0,0,none⟩) 0 0] 36)).alloc (.cells #[.int .i64 0,.int .i64 0] 38)) (q+1) 38 #[.int .i64 0,.int .i64 0]:=ZY (by simp[World.size_alloc,hq]) _ _;rw[hw3] at hn hn2;rw[hq] at hn;exact ⟨⟨HS2.out.1.trans (ZA hb (by omega)),by omega,HS2.out.2.1.below hb HS2.out.2.1.lt,hn,OwnL.below HS2.out.2.2.1 hb,HS2.out.2.2.2.1.below hb⟩,hn2.cellq rfl,by have:=HS2.out.2.2.2.2;have:=hb.size;omega⟩
 first|rw[hw3,hq]|(rw[hw3];try rw[hq])
 clear hw3 hq HS2;have j1:=HS3.out.2.1;go_wp2_with fail
 clear j1;obtain ⟨gy,hgy⟩:∃gy,w3.heap.size=gy:=⟨_,rfl⟩
 have HS4:Hid (SS w (w3.alloc (.cells #[] 116)) p q (.slice At n1 ct) (.slice Al n3 cl) (.slice (some ⟨r0,0,none⟩) 0 0) gr lb T∧OwnY (w3.alloc (.cells #[] 116)) gy (.slice (some ⟨gy,0,none⟩) 0 0) []∧gy≤(w3.alloc (.cells #[] 116)).heap.size):=⟨HS3.out.1.bel (ZV _ _),by rw[←hgy];exact ZAT _ _,by simp[World.size_alloc];omega⟩
 have HGR:=Zh (show gr<gy∧p+1≤gy from ⟨by rw[←hgy];exact HS3.out.2.2,by rw[←hgy];have:=HS3.out.1.flt.lt;omega⟩);try rw[hgy]
 obtain ⟨w4,hw4⟩:∃w4,w3.alloc (.cells #[] 116)=w4:=⟨_,rfl⟩
 rw[hw4] at HS4 ⊢;clear hw4 hgy HS3
 go_loopw [10,9] (fun iv av W=>∃(k:Nat) (A:Option Addr) (c:Nat),k≤n3∧iv=.int .i64 k∧av=.slice A k c∧Hid (SS w W p q (.slice At n1 ct) (.slice Al n3 cl) (.slice (some ⟨r0,0,none⟩) 0 0) gr lb T∧OwnY W gy (.slice A k c) ((ZDk lb).take k)∧gy≤W.heap.size)) (fun iv _ _=>n3-(Go.RowKit.intOf iv).toNat)
 case atStart=>exact ⟨0,_,_,by omega,rfl,rfl,by show _∧_;rw[List.take_zero];exact HS4.out⟩
 case round=>
  clear HS4;obtain ⟨k,A,c,hk,rfl,rfl,HS⟩:=hrel;have b2:wr.cell? ⟨q,2,none⟩=some (.slice Al n3 cl):=HS.out.1.box.cellq rfl;rcases Nat.lt_or_ge k n3 with hlt|hge
  ·have hkl:k<lb.length:=by rw[HL3.out];exact hlt
   have hrow:RowOf wr (.slice Al n3 cl) lb.length (lb.flatMap lbc):=by
    have:=RowOf.own HS.out.1.lb;rwa[HL3.out] at this ⊢
   have hrow2:=hrow;obtain ⟨g3,off3,hAl,hg3,hc3⟩:=ZAp hrow2 hkl;obtain ⟨c0,-,-,-⟩:=hc3 k hkl;have hk3:k<n3:=by omega
   have hk3I:(k:Int)<(n3:Int):=by omega
   have b0:wr.cell? ⟨q,0,none⟩=some (.slice At n1 ct):=HS.out.1.box.cellq rfl;have b1:wr.cell? ⟨q,1,none⟩=some (.slice none 0 0):=HS.out.1.box.cellq rfl;have b3:wr.cell? ⟨q,3,none⟩=some (.slice (some ⟨r0,0,none⟩) 0 0):=HS.out.1.box.cellq rfl;have HSD:Hid (∀W,Below wr.heap.size wr W→Calls Tryz.prog 31 #[.agg #[.slice At n1 ct,.slice none 0 0,.slice Al n3 cl,.slice (some ⟨r0,0,none⟩) 0 0],.slice (some ⟨gr,0,none⟩) 3 cr,.string (str lb[k].nm)] W fun e w'=>e=.returned (.tuple #[.int .i64 (4096+(lb[k].at_:Int)),.bool true])∧Below W.heap.size W w'):=fun W hW=>by
    have h7:=HL3.out;subst h7;exact ZGS _ _ _ Al cl gr 3 cr n lb W (hrow.below hW) HG.out ((hW.cell (cell_lt HS.out.1.rg.a1)).trans HS.out.1.rg.a1) (by omega) k hkl
   obtain ⟨x,hx⟩:∃x,lb[k]=x:=⟨_,rfl⟩
   rw[hx] at HSD c0;obtain ⟨s1,hs1⟩:∃s1,str x.nm=s1:=⟨_,rfl⟩
   rw[hs1] at HSD c0;have HXX:=Zh (Za hx hs1);subst hAl;clear hrow hrow2 hg3 hc3 hx hs1;go_upto_region 8 with fail
   refine wp_region_held_drew (S:=(fun W=>(W.cell? ⟨q,0,none⟩=some (.slice At n1 ct)∧W.cell? ⟨q,1,none⟩=some (.slice none 0 0)∧W.cell? ⟨q,2,none⟩=some (.slice (some ⟨g3,off3,none⟩) n3 cl)∧W.cell? ⟨q,3,none⟩=some (.slice (some ⟨r0,0,none⟩) 0 0))∧W.cell? ⟨g3,off3+k*4,none⟩=some (.string s1))) (by kernel_rfl) ?_ (fun hHeld=>?_)
   ·exact ⟨⟨b0,b1,b2,b3⟩,c0⟩
   have HB5:Hid (Below wr.heap.size wr wr.drew):=ZAO (Below.refl _ _);clear b0 b1 b2 b3 c0;obtain ⟨wq,hwq⟩:∃wq,wr.drew=wq:=⟨_,rfl⟩
   rw[hwq] at HB5 hHeld ⊢;clear hwq;refine FU 14 rfl ?_;iterate 8 (refine TN 14 rfl ?_;try simp only[AP,Nat.reduceAdd,Nat.reduceSub])
   refine RW 8 rfl fun K hK=>?_;go_simp;go_at_call 31;refine (HSD.out _ HB5.out).mono ?_;rintro e W6 ⟨rfl,hb6⟩;try go_simp
   refine hK.out _ _ (show (_∧_∧_∧_)∧_ from ⟨⟨(hb6.cell (cell_lt hHeld.1.1)).trans hHeld.1.1,(hb6.cell (cell_lt hHeld.1.2.1)).trans hHeld.1.2.1,(hb6.cell (cell_lt hHeld.1.2.2.1)).trans hHeld.1.2.2.1,(hb6.cell (cell_lt hHeld.1.2.2.2)).trans hHeld.1.2.2.2⟩,(hb6.cell (cell_lt hHeld.2)).trans hHeld.2⟩) (fun hHeld=>?_);have HB6:=Zh (show Below wr.heap.size wr W6 from HB5.out.trans (ZA hb6 HB5.out.size));clear hb6 HB5 HSD;clear hK K;try simp only[AP]
   iterate 5 (refine TN 14 rfl ?_;try simp only[AP,Nat.reduceAdd,Nat.reduceSub])
   refine wpAnyH_done (by kernel_rfl) ?_ _;have HS6:=Zh (Za (HS.out.1.bel HB6.out) (Za (HS.out.2.1.below HB6.out) (Nat.le_trans HS.out.2.2 HB6.out.size)));have c0:=hHeld.2;have b2:=hHeld.1.2.2.1;obtain ⟨z,hz⟩:∃z,W6.heap.size=z:=⟨_,rfl⟩
   have hal:=ZV W6 (.cells #[.string s1,.int .i64 (4096+(x.at_:Int))] 116);have hro:=ZHG W6 ⟨s1,4096+(x.at_:Int)⟩;obtain ⟨A2,c2,W7,f1,f2,f3,f4⟩:=(HS6.out.2.1.below hal).cat (m:=[⟨s1,4096+(x.at_:Int)⟩]) (by simpa using hro) (by have:=HS6.out.1.flt.lt;have:=HS6.out.2.2;simp[World.size_alloc];omega) (by simp;omega) 50;have hlen:((ZDk lb).take k).length=k:=by rw[List.length_take];unfold ZDk;rw[List.length_map];omega
   rw[hlen] at f1 f2;rw[hz] at f1;have htk:(ZDk lb).take (k+1)=(ZDk lb).take k++[⟨s1,4096+(x.at_:Int)⟩]:=by
    rw[List.take_succ_eq_append_getElem (by unfold ZDk;rw[List.length_map];exact hkl)]
    congr 2
    unfold ZDk;rw[List.getElem_map,HXX.out.1,HXX.out.2]
   rw[←htk] at f2
   have HAP:=Zh f1;have HN:Hid (SS w W7 p q (.slice At n1 ct) (.slice (some ⟨g3,off3,none⟩) n3 cl) (.slice (some ⟨r0,0,none⟩) 0 0) gr lb T∧OwnY W7 gy (.slice A2 (k+1) c2) ((ZDk lb).take (k+1))∧gy≤W7.heap.size):=by
    have hge:=HGR.out;exact ⟨(HS6.out.1.bel hal).grow (B0:=0) (ZO (HS6.out.2.1.below hal) (by omega)) (fun g hg e=>by have:=ZAB HS6.out.2.1 hg;omega) f3,f2,by have h1:=HS6.out.2.2;have h2:=f3.size;have h3:=hal.size;omega⟩
   clear hal hro f1 f2 f3 f4 hlen htk hHeld HS6 HB6 HS;go_wp2_with (at_builtin;refine ZK (by rfl) (.tmp 49) (.tmp 58) 50 (by rfl) (by rfl) (by rfl) HAP.out ?_)
   clear HAP hz c0 b2;go_wp2_with fail
   go_roundw
   case rel=>exact ⟨k+1,A2,c2,by omega,by go_num,rfl,HN.out⟩
   case measure=>first|(simp[Go.RowKit.intOf];done)|(simp[Go.RowKit.intOf];omega)
  ·have hkn:k=n3:=by omega
   subst hkn;obtain ⟨wC,hwC⟩:∃wC,wC=wr:=⟨_,rfl⟩
   subst hwC;have HSC:Hid (SS w wC p q (.slice At n1 ct) (.slice Al k cl) (.slice (some ⟨r0,0,none⟩) 0 0) gr lb T∧OwnY wC gy (.slice A k c) (ZDk lb)∧gy≤wC.heap.size):=by
    have h1:=HS.out;rw[List.take_of_length_le (by unfold ZDk;rw[List.length_map,HL3.out];exact Nat.le_refl _)] at h1;exact h1
   clear HS;go_wp2_with fail
   clear b2
   go_loopw [13,9] (fun iv av W=>∃(j:Nat) (A:Option Addr) (c:Nat),(j=2∨j=3)∧iv=.int .i64 j∧av=.slice A (if j=2 then k else k+2) c∧Hid (SS w W p q (.slice At n1 ct) (.slice Al k cl) (.slice (some ⟨r0,0,none⟩) 0 0) gr lb T∧OwnY W gy (.slice A (if j=2 then k else k+2) c) (if j=2 then ZDk lb else Zr lb T)∧gy≤W.heap.size)) (fun iv _ _=>3-(Go.RowKit.intOf iv).toNat)
   case atStart=>exact ⟨2,_,_,Or.inl rfl,rfl,rfl,HSC.out⟩
   case round=>
    clear HSC;obtain ⟨j,A,c,hj,rfl,rfl,HS⟩:=hrel;rcases hj with rfl|rfl
    ·have HS0:Hid (SS w wr p q (.slice At n1 ct) (.slice Al k cl) (.slice (some ⟨r0,0,none⟩) 0 0) gr lb T∧OwnY wr gy (.slice A k c) (ZDk lb)∧gy≤wr.heap.size):=HS.out
     clear HS;simp only[if_pos];have c0:=HS0.out.1.rg.c0;have c1:=HS0.out.1.rg.c1;have c2:=HS0.out.1.rg.c2;have c3:=HS0.out.1.rg.c3;have c4:=HS0.out.1.rg.c4;have e1:IntKind.i64.wrap (4096+(T:Int)+16384)=4096+(T:Int)+16384:=IntWalk.i64_in _ (by omega);have hss:stackS.size=5:=by decide
     have hal:=ZV wr (.cells #[.string stackS,.int .i64 (4096+(T:Int)),.int .i64 16384,.bool true,.bool false] 42);have hal2:=ZV (wr.alloc (.cells #[.string stackS,.int .i64 (4096+(T:Int)),.int .i64 16384,.bool true,.bool false] 42)) (.cells #[.string stackS,.int .i64 (4096+(T:Int)),.string (stackS++endS),.int .i64 (4096+(T:Int)+16384)] 116);obtain ⟨wX,hwX⟩:∃wX,wr.alloc (.cells #[.string stackS,.int .i64 (4096+(T:Int)),.int .i64 16384,.bool true,.bool false] 42)=wX:=⟨_,rfl⟩
     rw[hwX] at hal hal2;obtain ⟨z,hz⟩:∃z,wr.heap.size=z:=⟨_,rfl⟩
     have hzX:wX.heap.size=z+1:=by rw[←hwX,←hz];simp[World.size_alloc]
     have hro:RowOf (wX.alloc (.cells #[.string stackS,.int .i64 (4096+(T:Int)),.string (stackS++endS),.int .i64 (4096+(T:Int)+16384)] 116)) (.slice (some ⟨wX.heap.size,0,none⟩) 2 2) 2 (([⟨stackS,4096+(T:Int)⟩,⟨stackS++endS,4096+(T:Int)+16384⟩]:List Sy).flatMap Sy.cells):=by
      refine ⟨_,_,rfl,Nat.le_refl _,by decide,fun _=>⟨_,0,rfl,by simp[World.size_alloc],fun j u hj=>?_⟩⟩;rw[Nat.zero_add,(Blk.new wX _ _).cell]
      simpa[Sy.cells] using hj
     obtain ⟨A2,c2',W7,f1,f2,f3,f4⟩:=((HS0.out.2.1.below hal).below hal2).cat (m:=[⟨stackS,4096+(T:Int)⟩,⟨stackS++endS,4096+(T:Int)+16384⟩]) hro (by have h1:=HS0.out.2.2;have h2:=hal.size;have h3:=hal2.size;omega) (by unfold ZDk;simp;have:=HL3.out;omega) 50;have hlen:(ZDk lb).length=k:=by unfold ZDk;rw[List.length_map,HL3.out]
     rw[hlen,hzX] at f1;rw[hlen] at f2;have HAP:Hid ((Builtin.append_ #[50,50] 50 #[.slice A k c,.slice (some ⟨z+1,0,none⟩) 2 2]).run Tryz.prog (wX.alloc (.cells #[.string stackS,.int .i64 (4096+(T:Int)),.string (stackS ++ { data:=#[46,101,110,100] }),.int .i64 (4096+(T:Int)+16384)] 116))=.ok (.slice A2 (k+2) c2') W7):=f1;have HN:Hid (SS w W7 p q (.slice At n1 ct) (.slice Al k cl) (.slice (some ⟨r0,0,none⟩) 0 0) gr lb T∧OwnY W7 gy (.slice A2 (k+2) c2') (Zr lb T)∧gy≤W7.heap.size):=by
      have hge:=HGR.out;exact ⟨((HS0.out.1.bel hal).bel hal2).grow (B0:=0) (ZO ((HS0.out.2.1.below hal).below hal2) (by omega)) (fun g hg e=>by have:=ZAB HS0.out.2.1 hg;omega) f3,f2,by have h1:=HS0.out.2.2;have h2:=f3.size;have h3:=hal.size;have h4:=hal2.size;omega⟩
     have HBX:=Zh (Blk.new wr 42 #[.string stackS,.int .i64 (4096+(T:Int)),.int .i64 16384,.bool true,.bool false]);rw[hwX,hz] at HBX;have HWX:=Zh (Za hwX (Za hz hzX));clear hal hal2 hro f1 f2 f3 f4 hlen HS0 hwX hz hzX;go_upto_region 14 with fail
     rw[HWX.out.1];try rw[HWX.out.2.1]
     clear c0 c1 c2 c3 c4;have x0:wX.cell? ⟨z,0,none⟩=some (.string stackS):=HBX.out.cellq rfl;have x1:wX.cell? ⟨z,1,none⟩=some (.int .i64 (4096+(T:Int))):=HBX.out.cellq rfl;have x2:wX.cell? ⟨z,2,none⟩=some (.int .i64 16384):=HBX.out.cellq rfl;have hzX:=HWX.out.2.2;clear HWX HBX;go_wp2_with (at_builtin;refine ZK (by rfl) (.tmp 70) (.tmp 85) 50 (by rfl) (by rfl) (by rfl) HAP.out ?_)
     clear HAP x0 x1 x2 hzX e1 hss;go_wp2_with fail
     go_roundw
     case rel=>exact ⟨3,A2,c2',Or.inr rfl,by go_num,by rfl,by exact HN.out⟩
     case measure=>first|(simp[Go.RowKit.intOf];done)|(simp[Go.RowKit.intOf];omega)
    ·have HS0:Hid (SS w wr p q (.slice At n1 ct) (.slice Al k cl) (.slice (some ⟨r0,0,none⟩) 0 0) gr lb T∧OwnY wr gy (.slice A (k+2) c) (Zr lb T)∧gy≤wr.heap.size):=HS.out
     clear HS;simp only[show (3:Nat)≠2 by decide,if_false];go_wp2_with fail
     obtain ⟨wD,hwD⟩:∃wD,wD=wr:=⟨_,rfl⟩
     subst hwD;obtain ⟨al,hal⟩:∃al,Zr lb T=al:=⟨_,rfl⟩
     have hln:al.length=k+2:=by rw[←hal];unfold Zr ZDk;simp;exact HL3.out
     obtain ⟨N,hN⟩:∃N,k+2=N:=⟨_,rfl⟩
     rw[hal,hN] at HS0;rw[hN];have hNl:N≤102:=by omega
     have hN0:0<N:=by omega
     rw[hN] at hln;have HUP2:Hid (ZK3 al):=by
      have h1:=HUP.out;rw[HTT.out,hal] at h1;exact h1
     have HAL:=Zh (Za hal hln);obtain ⟨ga,ca,hAv⟩:=ZAJ HS0.out.2.1 (by rw[hln];exact hN0);injection hAv with hA hA2 hA3
     subst hA;subst hA3;obtain ⟨z,hz⟩:∃z,wD.heap.size=z:=⟨_,rfl⟩
     have HSD:Hid (SS w (wD.alloc (.cells #[] 116)) p q (.slice At n1 ct) (.slice Al k cl) (.slice (some ⟨r0,0,none⟩) 0 0) gr lb T∧OwnY (wD.alloc (.cells #[] 116)) gy (.slice (some ⟨ga,0,none⟩) N c) al∧gy≤(wD.alloc (.cells #[] 116)).heap.size∧OwnY (wD.alloc (.cells #[] 116)) gy (.slice (some ⟨z,0,none⟩) 0 0) (al.take 0)):=
      ⟨HS0.out.1.bel (ZV _ _),HS0.out.2.1.below (ZV _ _),by have:=HS0.out.2.2;simp[World.size_alloc];omega,by rw[←hz];exact ZO (ZAT _ _) HS0.out.2.2⟩
     first|rw[hz]|skip
     obtain ⟨w8,hw8⟩:∃w8,wD.alloc (.cells #[] 116)=w8:=⟨_,rfl⟩
     rw[hw8] at HSD ⊢;clear hw8 hz HS0 hal hN hln hA2 HUP
     go_loopw [16,15] (fun iv rv W=>∃(j go co:Nat),j≤N∧iv=.int .i64 j∧rv=.slice (some ⟨go,0,none⟩) j co∧Hid (SS w W p q (.slice At n1 ct) (.slice Al k cl) (.slice (some ⟨r0,0,none⟩) 0 0) gr lb T∧OwnY W gy (.slice (some ⟨ga,0,none⟩) N c) al∧gy≤W.heap.size∧OwnY W gy (.slice (some ⟨go,0,none⟩) j co) (al.take j))) (fun iv _ _=>N-(Go.RowKit.intOf iv).toNat)
     case atStart=>exact ⟨0,z,0,by omega,rfl,rfl,HSD.out⟩
     case round=>
      clear HSD;obtain ⟨j,go,co,hj,rfl,rfl,HS⟩:=hrel;obtain ⟨wE,hwE⟩:∃wE,wE=wr:=⟨_,rfl⟩
      subst hwE;rcases Nat.lt_or_ge j N with hlt|hge
      ·have hjl:j<al.length:=by rw[HAL.out.2];exact hlt
       have hjI:(j:Int)<(N:Int):=by omega
       obtain ⟨x,hx⟩:∃x,al[j]=x:=⟨_,rfl⟩
       obtain ⟨nm,at_⟩:=x;obtain ⟨ga',offa,e1,-,hca⟩:=ZC3 (A:=some ⟨ga,0,none⟩) (n:=N) (c:=c) (by
        have:=HS.out.2.1.row;rwa[HAL.out.2] at this ⊢) hjl
       injection e1 with e1
       injection e1 with e1 e2
       subst e1;subst e2;obtain ⟨a0,a1⟩:=hca j hjl;rw[hx] at a0 a1;dsimp only at a0 a1;rw[Nat.zero_add] at a0 a1;have hco:j≤co:=by
        obtain ⟨A',c',e,h1,-⟩:=slice_form HS.out.2.2.2;injection e with ea eb ec
        rw[List.length_take,HAL.out.2] at h1;omega
       have hlj:(al.take j).length=j:=by rw[List.length_take,HAL.out.2];omega
       have HPR:Hid (0<j→∃b:Int,wE.cell? ⟨go,(j-1)*2+1,none⟩=some (.int .i64 b)∧b<at_):=fun hj0=>by
        have hj1:j-1<(al.take j).length:=by rw[hlj];omega
        obtain ⟨g',off,e1,-,hc'⟩:=ZC3 (A:=some ⟨go,0,none⟩) (n:=j) (c:=co) (by
         have:=HS.out.2.2.2.row;rwa[hlj] at this ⊢) hj1
        injection e1 with e1
        injection e1 with e1 e2
        subst e1;subst e2;have h1:=(hc' (j-1) hj1).2;rw[Nat.zero_add] at h1;refine ⟨_,h1,?_⟩;rw[List.getElem_take];have h2:=HUP2.out (j-1) (by rw[HAL.out.2];omega);have h3:al[j-1+1]'(by rw[HAL.out.2];omega)=⟨nm,at_⟩:=by
         rw[←hx]
         congr 1
         omega
        rw[h3] at h2;exact h2
       clear hca;go_wp2_with fail
       go_loopw [17] (fun kv W=>kv=.int .i64 j∧Hid (∃n,W=wE.drewN n)) (fun _ _=>0)
       case atStart=>exact ⟨rfl,0,rfl⟩
       case round=>
        obtain ⟨rfl,HQ⟩:=hrel;have a0':wr.cell? ⟨ga,j*2,none⟩=some (.string nm):=by
         obtain ⟨n',e⟩:=HQ.out;rw[e];exact a0
        have a1':wr.cell? ⟨ga,j*2+1,none⟩=some (.int .i64 at_):=by
         obtain ⟨n',e⟩:=HQ.out;rw[e];exact a1
        have HSE:Hid (SS w wr p q (.slice At n1 ct) (.slice Al k cl) (.slice (some ⟨r0,0,none⟩) 0 0) gr lb T∧OwnY wr gy (.slice (some ⟨ga,0,none⟩) N c) al∧gy≤wr.heap.size∧OwnY wr gy (.slice (some ⟨go,0,none⟩) j co) (al.take j)):=by
         obtain ⟨n',e⟩:=HQ.out;rw[e];exact ⟨HS.out.1.bel (ZM (Below.refl _ _) _),HS.out.2.1,HS.out.2.2.1,HS.out.2.2.2⟩
        have HPR2:Hid (0<j→∃b:Int,wr.cell? ⟨go,(j-1)*2+1,none⟩=some (.int .i64 b)∧b<at_):=by
         obtain ⟨n',e⟩:=HQ.out;rw[e];exact HPR.out
        clear a0 a1 HPR HQ HS;rcases Nat.eq_zero_or_pos j with hj0|hj0
        case' inl=>
         have d3:decide ((0:Int)<(j:Int))=false:=decide_eq_false (by omega);go_upto_region 20 with fail
         go_quiet (fail)
         clear d3
        case' inr=>
         obtain ⟨b,hb1,hb2⟩:=HPR2.out hj0;obtain ⟨j1,hj1⟩:∃j1,j-1=j1:=⟨_,rfl⟩
         rw[hj1] at hb1;have d1:decide (at_<b)=false:=decide_eq_false (by omega);have d2:(b==at_)=false:=beq_eq_false_iff_ne.2 (by omega);have d3:decide ((0:Int)<(j:Int))=true:=decide_eq_true (by omega);have w1':IntKind.i64.wrap ((j:Int)-1)=((j1:Nat):Int):=by rw[IntWalk.i64_in _ (by omega)];omega
         have hj1I:((j1:Nat):Int)<(j:Int):=by omega
         have hj1N:j1<j:=by omega
         go_upto_region 20 with fail
         go_quiet (fail)
         clear d1 d2 d3 w1' hj1I hj1N hb1 hb2 hj1
        all_goals
         clear hj0 HPR2;obtain ⟨V,hV⟩:∃V,wr.drewN nq=V:=⟨_,rfl⟩
         have HSV0:Hid (SS w V p q (.slice At n1 ct) (.slice Al k cl) (.slice (some ⟨r0,0,none⟩) 0 0) gr lb T∧OwnY V gy (.slice (some ⟨ga,0,none⟩) N c) al∧gy≤V.heap.size∧OwnY V gy (.slice (some ⟨go,0,none⟩) j co) (al.take j)):=by
          rw[←hV]
          exact ⟨HSE.out.1.bel (ZM (Below.refl _ _) _),HSE.out.2.1,HSE.out.2.2.1,HSE.out.2.2.2⟩
         have a2:V.cell? ⟨ga,j*2,none⟩=some (.string nm):=by rw[←hV];exact a0'
         have a3:V.cell? ⟨ga,j*2+1,none⟩=some (.int .i64 at_):=by rw[←hV];exact a1'
         rw[hV];clear hV HSE a0' a1';go_wp2_with fail
         have hcoI:(j:Int)≤(co:Int):=by omega
         have hjN2:j<N:=hlt;refine wp_region_held_drew (S:=(fun W=>W.cell? ⟨ga,j*2,none⟩=some (.string nm)∧W.cell? ⟨ga,j*2+1,none⟩=some (.int .i64 at_))) (by kernel_rfl) ?_ (fun hHeld=>?_)
         ·exact ⟨a2,a3⟩
         have HSV:Hid (V.drew.cell? ⟨ga,j*2,none⟩=some (.string nm)∧V.drew.cell? ⟨ga,j*2+1,none⟩=some (.int .i64 at_)):=⟨a2,a3⟩
         have HS1:Hid (SS w V.drew p q (.slice At n1 ct) (.slice Al k cl) (.slice (some ⟨r0,0,none⟩) 0 0) gr lb T∧OwnY V.drew gy (.slice (some ⟨ga,0,none⟩) N c) al∧gy≤V.drew.heap.size∧OwnY V.drew gy (.slice (some ⟨go,0,none⟩) j co) (al.take j)):=⟨HSV0.out.1.bel (ZAO (Below.refl _ _)),HSV0.out.2.1,HSV0.out.2.2.1,HSV0.out.2.2.2⟩
         clear HSV0 a2 a3;generalize V.drew=V0 at HSV HS1 hHeld ⊢;have HI0:Hid (ZIv V0 V0 none none none (al.take j) ⟨nm,at_⟩):=⟨Below.refl _ _,fun b e=>(by cases e),fun b e=>(by cases e),fun b e=>(by cases e),fun b b' e=>(by cases e),fun v b' e=>(by cases e)⟩
         have HRO:=Zh HS1.out.2.2.2.row;have HLJ:=Zh hlj;clear hlj;refine TW 1 rfl ?_;try simp only[AP]
         refine TW 2 rfl ?_;try simp only[AP]
         refine TW 3 rfl ?_;try simp only[AP]
         refine TW 5 rfl ?_;try simp only[AP]
         refine TW 6 rfl ?_;try simp only[AP]
         refine TW 7 rfl ?_;try simp only[AP]
         refine TW 8 rfl ?_;try simp only[AP]
         refine TW 11 rfl ?_;try simp only[AP]
         refine TW 12 rfl ?_;try simp only[AP]
         refine TW 13 rfl ?_;try simp only[AP]
         refine wpAnyH_ready (rs:=[0,9]) (by kernel_rfl) (by simp) ?_;refine AllReadyH.cons rfl (fun K hK=>?_) (AllReadyH.cons rfl (fun K hK=>?_) (AllReadyH.nil))
         ·rw[if_pos (by rfl)]
          go_simp;have hI:=HI0.out.mkE;obtain ⟨be,hbe⟩:∃be,V0.heap.size=be:=⟨_,rfl⟩
          obtain ⟨V1,hWn⟩:∃V1,V0.alloc (.cells #[] 116)=V1:=⟨_,rfl⟩
          try dsimp only at hI
          rw[hWn,hbe] at hI;try rw[hbe]
          rw[hWn];have HI1:=Zh hI;refine hK.out _ _ (show _∧_ from ⟨(HI1.out.be.cell (cell_lt HSV.out.1)).trans HSV.out.1,(HI1.out.be.cell (cell_lt HSV.out.2)).trans HSV.out.2⟩) (fun hHeld=>?_);clear hI hWn hbe;clear hK K;try simp only[AP]
          refine wpAnyH_ready (rs:=[4,9]) (by kernel_rfl) (by simp) ?_;refine AllReadyH.cons rfl (fun K hK=>?_) (AllReadyH.cons rfl (fun K hK=>?_) (AllReadyH.nil))
          ·obtain ⟨A4,c4,V2,hrun,hI⟩:=HI1.out.app1 (u:=.slice (some ⟨go,0,none⟩) j co) HRO.out (by rw[HLJ.out];omega) 50
           rw[HLJ.out] at hrun hI;have HRUN:=Zh hrun;have HI2:=Zh hI;clear hrun hI;refine ZL (by rfl) (.tmp 142) (.tmp 145) 50 (by rfl) (by rfl) (by rfl) HRUN.out ?_;refine hK.out _ _ (show _∧_ from ⟨(HI2.out.be.cell (cell_lt HSV.out.1)).trans HSV.out.1,(HI2.out.be.cell (cell_lt HSV.out.2)).trans HSV.out.2⟩) (fun hHeld=>?_);clear HRUN;clear hK K;try simp only[AP]
           refine RW 9 rfl fun K hK=>?_;go_simp;have hI:=HI2.out.mkX;obtain ⟨bx,hbe⟩:∃bx,V2.heap.size=bx:=⟨_,rfl⟩
           obtain ⟨V3,hWn⟩:∃V3,V2.alloc (.cells #[.string nm,.int .i64 at_] 116)=V3:=⟨_,rfl⟩
           try dsimp only at hI
           rw[hWn,hbe] at hI;try rw[hbe]
           rw[hWn];have HI3:=Zh hI;refine hK.out _ _ (show _∧_ from ⟨(HI3.out.be.cell (cell_lt HSV.out.1)).trans HSV.out.1,(HI3.out.be.cell (cell_lt HSV.out.2)).trans HSV.out.2⟩) (fun hHeld=>?_);clear hI hWn hbe;clear hK K;try simp only[AP]
           refine R1 10 rfl fun K hK=>?_;obtain ⟨A5,c5,V4,hrun,hb5,ho5⟩:=HI3.out.app2 (by rw[HLJ.out];omega) 50;rw[HLJ.out] at hrun ho5;obtain ⟨A5',c5',hv5,hle5,hmx5⟩:=ho5.form;have hl5:(al.take j++[(⟨nm,at_⟩:Sy)]).length=j+1:=by rw[List.length_append,HLJ.out];rfl
           obtain ⟨g5,c5'',hg5⟩:=ZAJ ho5 (by rw[hl5];omega);rw[hl5] at hv5 hg5 hle5;injection hv5 with hq1 hq2 hq3
           injection hg5 with hq4 hq5 hq6
           rw[←hq3] at hle5 hmx5
           subst hq4;have HC5:=Zh (Za hle5 hmx5);clear hq1 hq2 hq3 hq5 hq6 hle5 hmx5 hl5;have HRUN:=Zh hrun;have HB5:=Zh hb5;have HO5:=Zh ho5;clear hrun hb5 ho5;refine ZL (by rfl) (.tmp 146) (.tmp 151) 50 (by rfl) (by rfl) (by rfl) HRUN.out ?_;refine hK.out _ _ (show _∧_ from ⟨(HB5.out.cell (cell_lt HSV.out.1)).trans HSV.out.1,(HB5.out.cell (cell_lt HSV.out.2)).trans HSV.out.2⟩) (fun hHeld=>?_);clear HRUN;clear hK K;try simp only[AP]
           refine R1 14 rfl fun K hK=>?_;refine ZL (by rfl) (.tmp 152) (.tmp 155) 50 (by rfl) (by rfl) (by rfl) (ZCb arowY _ _ _ _ _ _ _ HC5.out.1 HC5.out.2) ?_;refine hK.out _ _ (show _∧_ from ⟨(HB5.out.cell (cell_lt HSV.out.1)).trans HSV.out.1,(HB5.out.cell (cell_lt HSV.out.2)).trans HSV.out.2⟩) (fun hHeld=>?_);clear hK K;try simp only[AP]
           refine TW 15 rfl ?_;try simp only[AP]
           refine wpAnyH_done (by kernel_rfl) ?_ _;clear hHeld;have HN:Hid (SS w V4 p q (.slice At n1 ct) (.slice Al k cl) (.slice (some ⟨r0,0,none⟩) 0 0) gr lb T∧OwnY V4 gy (.slice (some ⟨ga,0,none⟩) N c) al∧gy≤V4.heap.size∧OwnY V4 gy (.slice (some ⟨g5,0,none⟩) (j+1) c5) (al.take (j+1))):=by
            refine ⟨HS1.out.1.bel HB5.out,HS1.out.2.1.below HB5.out,Nat.le_trans HS1.out.2.2.1 HB5.out.size,?_⟩;rw[List.take_succ_eq_append_getElem hjl,hx];exact ZO HO5.out HS1.out.2.2.1
           clear HO5 HB5 HC5 HRO HSV HS1;go_wp2_with fail
           all_goals (go_roundw;(case rel=>first|exact ⟨j+1,g5,c5,by omega,by go_num,rfl,HN.out⟩|exact ⟨j+1,by omega,by omega,g5,c5,⟨rfl,rfl,rfl⟩,HN.out⟩);(case measure=>first|(simp[Go.RowKit.intOf];done)|(simp[Go.RowKit.intOf];omega)))
          ·rw[if_pos (by rfl)]
           go_simp;have hI:=HI1.out.mkX;obtain ⟨bx,hbe⟩:∃bx,V1.heap.size=bx:=⟨_,rfl⟩
           obtain ⟨V2,hWn⟩:∃V2,V1.alloc (.cells #[.string nm,.int .i64 at_] 116)=V2:=⟨_,rfl⟩
           try dsimp only at hI
           rw[hWn,hbe] at hI;try rw[hbe]
           rw[hWn];have HI2:=Zh hI;refine hK.out _ _ (show _∧_ from ⟨(HI2.out.be.cell (cell_lt HSV.out.1)).trans HSV.out.1,(HI2.out.be.cell (cell_lt HSV.out.2)).trans HSV.out.2⟩) (fun hHeld=>?_);clear hI hWn hbe;clear hK K;try simp only[AP]
           refine R1 4 rfl fun K hK=>?_;obtain ⟨A4,c4,V3,hrun,hI⟩:=HI2.out.app1 (u:=.slice (some ⟨go,0,none⟩) j co) HRO.out (by rw[HLJ.out];omega) 50;rw[HLJ.out] at hrun hI;have HRUN:=Zh hrun;have HI3:=Zh hI;clear hrun hI;refine ZL (by rfl) (.tmp 142) (.tmp 145) 50 (by rfl) (by rfl) (by rfl) HRUN.out ?_;refine hK.out _ _ (show _∧_ from ⟨(HI3.out.be.cell (cell_lt HSV.out.1)).trans HSV.out.1,(HI3.out.be.cell (cell_lt HSV.out.2)).trans HSV.out.2⟩) (fun hHeld=>?_);clear HRUN;clear hK K;try simp only[AP]
           refine R1 10 rfl fun K hK=>?_;obtain ⟨A5,c5,V4,hrun,hb5,ho5⟩:=HI3.out.app2 (by rw[HLJ.out];omega) 50;rw[HLJ.out] at hrun ho5;obtain ⟨A5',c5',hv5,hle5,hmx5⟩:=ho5.form;have hl5:(al.take j++[(⟨nm,at_⟩:Sy)]).length=j+1:=by rw[List.length_append,HLJ.out];rfl
           obtain ⟨g5,c5'',hg5⟩:=ZAJ ho5 (by rw[hl5];omega);rw[hl5] at hv5 hg5 hle5;injection hv5 with hq1 hq2 hq3
           injection hg5 with hq4 hq5 hq6
           rw[←hq3] at hle5 hmx5
           subst hq4;have HC5:=Zh (Za hle5 hmx5);clear hq1 hq2 hq3 hq5 hq6 hle5 hmx5 hl5;have HRUN:=Zh hrun;have HB5:=Zh hb5;have HO5:=Zh ho5;clear hrun hb5 ho5;refine ZL (by rfl) (.tmp 146) (.tmp 151) 50 (by rfl) (by rfl) (by rfl) HRUN.out ?_;refine hK.out _ _ (show _∧_ from ⟨(HB5.out.cell (cell_lt HSV.out.1)).trans HSV.out.1,(HB5.out.cell (cell_lt HSV.out.2)).trans HSV.out.2⟩) (fun hHeld=>?_);clear HRUN;clear hK K;try simp only[AP]
           refine R1 14 rfl fun K hK=>?_;refine ZL (by rfl) (.tmp 152) (.tmp 155) 50 (by rfl) (by rfl) (by rfl) (ZCb arowY _ _ _ _ _ _ _ HC5.out.1 HC5.out.2) ?_;refine hK.out _ _ (show _∧_ from ⟨(HB5.out.cell (cell_lt HSV.out.1)).trans HSV.out.1,(HB5.out.cell (cell_lt HSV.out.2)).trans HSV.out.2⟩) (fun hHeld=>?_);clear hK K;try simp only[AP]
           refine TW 15 rfl ?_;try simp only[AP]
           refine wpAnyH_done (by kernel_rfl) ?_ _;clear hHeld;have HN:Hid (SS w V4 p q (.slice At n1 ct) (.slice Al k cl) (.slice (some ⟨r0,0,none⟩) 0 0) gr lb T∧OwnY V4 gy (.slice (some ⟨ga,0,none⟩) N c) al∧gy≤V4.heap.size∧OwnY V4 gy (.slice (some ⟨g5,0,none⟩) (j+1) c5) (al.take (j+1))):=by
            refine ⟨HS1.out.1.bel HB5.out,HS1.out.2.1.below HB5.out,Nat.le_trans HS1.out.2.2.1 HB5.out.size,?_⟩;rw[List.take_succ_eq_append_getElem hjl,hx];exact ZO HO5.out HS1.out.2.2.1
           clear HO5 HB5 HC5 HRO HSV HS1;go_wp2_with fail
           all_goals (go_roundw;(case rel=>first|exact ⟨j+1,g5,c5,by omega,by go_num,rfl,HN.out⟩|exact ⟨j+1,by omega,by omega,g5,c5,⟨rfl,rfl,rfl⟩,HN.out⟩);(case measure=>first|(simp[Go.RowKit.intOf];done)|(simp[Go.RowKit.intOf];omega)))
         ·rw[if_pos (by rfl)]
          go_simp;have hI:=HI0.out.mkX;obtain ⟨bx,hbe⟩:∃bx,V0.heap.size=bx:=⟨_,rfl⟩
          obtain ⟨V1,hWn⟩:∃V1,V0.alloc (.cells #[.string nm,.int .i64 at_] 116)=V1:=⟨_,rfl⟩
          try dsimp only at hI
          rw[hWn,hbe] at hI;try rw[hbe]
          rw[hWn];have HI1:=Zh hI;refine hK.out _ _ (show _∧_ from ⟨(HI1.out.be.cell (cell_lt HSV.out.1)).trans HSV.out.1,(HI1.out.be.cell (cell_lt HSV.out.2)).trans HSV.out.2⟩) (fun hHeld=>?_);clear hI hWn hbe;clear hK K;try simp only[AP]
          refine RW 0 rfl fun K hK=>?_;go_simp;have hI:=HI1.out.mkE;obtain ⟨be,hbe⟩:∃be,V1.heap.size=be:=⟨_,rfl⟩
          obtain ⟨V2,hWn⟩:∃V2,V1.alloc (.cells #[] 116)=V2:=⟨_,rfl⟩
          try dsimp only at hI
          rw[hWn,hbe] at hI;try rw[hbe]
          rw[hWn];have HI2:=Zh hI;refine hK.out _ _ (show _∧_ from ⟨(HI2.out.be.cell (cell_lt HSV.out.1)).trans HSV.out.1,(HI2.out.be.cell (cell_lt HSV.out.2)).trans HSV.out.2⟩) (fun hHeld=>?_);clear hI hWn hbe;clear hK K;try simp only[AP]
          refine R1 4 rfl fun K hK=>?_;obtain ⟨A4,c4,V3,hrun,hI⟩:=HI2.out.app1 (u:=.slice (some ⟨go,0,none⟩) j co) HRO.out (by rw[HLJ.out];omega) 50;rw[HLJ.out] at hrun hI;have HRUN:=Zh hrun;have HI3:=Zh hI;clear hrun hI;refine ZL (by rfl) (.tmp 142) (.tmp 145) 50 (by rfl) (by rfl) (by rfl) HRUN.out ?_;refine hK.out _ _ (show _∧_ from ⟨(HI3.out.be.cell (cell_lt HSV.out.1)).trans HSV.out.1,(HI3.out.be.cell (cell_lt HSV.out.2)).trans HSV.out.2⟩) (fun hHeld=>?_);clear HRUN;clear hK K;try simp only[AP]
          refine R1 10 rfl fun K hK=>?_;obtain ⟨A5,c5,V4,hrun,hb5,ho5⟩:=HI3.out.app2 (by rw[HLJ.out];omega) 50;rw[HLJ.out] at hrun ho5;obtain ⟨A5',c5',hv5,hle5,hmx5⟩:=ho5.form;have hl5:(al.take j++[(⟨nm,at_⟩:Sy)]).length=j+1:=by rw[List.length_append,HLJ.out];rfl
          obtain ⟨g5,c5'',hg5⟩:=ZAJ ho5 (by rw[hl5];omega);rw[hl5] at hv5 hg5 hle5;injection hv5 with hq1 hq2 hq3
          injection hg5 with hq4 hq5 hq6
          rw[←hq3] at hle5 hmx5
          subst hq4;have HC5:=Zh (Za hle5 hmx5);clear hq1 hq2 hq3 hq5 hq6 hle5 hmx5 hl5;have HRUN:=Zh hrun;have HB5:=Zh hb5;have HO5:=Zh ho5;clear hrun hb5 ho5;refine ZL (by rfl) (.tmp 146) (.tmp 151) 50 (by rfl) (by rfl) (by rfl) HRUN.out ?_;refine hK.out _ _ (show _∧_ from ⟨(HB5.out.cell (cell_lt HSV.out.1)).trans HSV.out.1,(HB5.out.cell (cell_lt HSV.out.2)).trans HSV.out.2⟩) (fun hHeld=>?_);clear HRUN;clear hK K;try simp only[AP]
          refine R1 14 rfl fun K hK=>?_;refine ZL (by rfl) (.tmp 152) (.tmp 155) 50 (by rfl) (by rfl) (by rfl) (ZCb arowY _ _ _ _ _ _ _ HC5.out.1 HC5.out.2) ?_;refine hK.out _ _ (show _∧_ from ⟨(HB5.out.cell (cell_lt HSV.out.1)).trans HSV.out.1,(HB5.out.cell (cell_lt HSV.out.2)).trans HSV.out.2⟩) (fun hHeld=>?_);clear hK K;try simp only[AP]
          refine TW 15 rfl ?_;try simp only[AP]
          refine wpAnyH_done (by kernel_rfl) ?_ _;clear hHeld;have HN:Hid (SS w V4 p q (.slice At n1 ct) (.slice Al k cl) (.slice (some ⟨r0,0,none⟩) 0 0) gr lb T∧OwnY V4 gy (.slice (some ⟨ga,0,none⟩) N c) al∧gy≤V4.heap.size∧OwnY V4 gy (.slice (some ⟨g5,0,none⟩) (j+1) c5) (al.take (j+1))):=by
           refine ⟨HS1.out.1.bel HB5.out,HS1.out.2.1.below HB5.out,Nat.le_trans HS1.out.2.2.1 HB5.out.size,?_⟩;rw[List.take_succ_eq_append_getElem hjl,hx];exact ZO HO5.out HS1.out.2.2.1
          clear HO5 HB5 HC5 HRO HSV HS1;go_wp2_with fail
          all_goals (go_roundw;(case rel=>first|exact ⟨j+1,g5,c5,by omega,by go_num,rfl,HN.out⟩|exact ⟨j+1,by omega,by omega,g5,c5,⟨rfl,rfl,rfl⟩,HN.out⟩);(case measure=>first|(simp[Go.RowKit.intOf];done)|(simp[Go.RowKit.intOf];omega)))
      ·have hjN:j=N:=by omega
       subst hjN;have HSZ:Hid (SS w wE p q (.slice At n1 ct) (.slice Al k cl) (.slice (some ⟨r0,0,none⟩) 0 0) gr lb T∧OwnY wE gy (.slice (some ⟨go,0,none⟩) j co) al):=by
        have h1:=HS.out;rw[List.take_of_length_le (by rw[HAL.out.2];exact Nat.le_refl _)] at h1;exact ⟨h1.1,h1.2.2.2⟩
       clear HS;have z0:=HSZ.out.1.flt.cell 0;have z1:=HSZ.out.1.flt.cell 1;have m0:=HSZ.out.1.flt.frozen 0;have m1:=HSZ.out.1.flt.frozen 1
       simp at z0 z1
       go_wp2_with fail
       have hk6:ZE (fun g=>g=p) wE ((wE.setCell ⟨p,0,none⟩ (.int .i64 0)).setCell ⟨p,1,none⟩ (.int .i64 0)):=((ZE.refl (fun g=>g=p) wE).setCell (p:=⟨p,0,none⟩) (Or.inr rfl) _).setCell (p:=⟨p,1,none⟩) (Or.inr rfl) _;have hb6:Blk ((wE.setCell ⟨p,0,none⟩ (.int .i64 0)).setCell ⟨p,1,none⟩ (.int .i64 0)) p 38 #[.int .i64 0,.int .i64 0]:=(HSZ.out.1.flt.set_ 0 _).set_ 1 _;obtain ⟨W6,hW6⟩:∃W6,(wE.setCell ⟨p,0,none⟩ (.int .i64 0)).setCell ⟨p,1,none⟩ (.int .i64 0)=W6:=⟨_,rfl⟩
       rw[hW6] at hk6 hb6 ⊢;clear z0 z1 m0 m1 hW6;have y0:=hb6.cell 0;have y1:=hb6.cell 1;refine bodyPost_ret (v:=.tuple #[.slice (some ⟨go,0,none⟩) j co,.agg #[.int .i64 0,.int .i64 0]]) (by simp[results,Tryz.results10,y0,y1,go_sem]) rfl ?_;refine ⟨⟨_,rfl,?_⟩,?_⟩
       ·rw[HTT.out,HAL.out.1]
        refine ZO (ZB (show OwnY wE gy _ al from by
         have h1:=HSZ.out.2;exact h1) hk6 (fun g hg h=>?_)) (by have:=HGR.out;omega)
        have:=ZAB HSZ.out.2 hg;have:=HGR.out;omega
       ·exact HSZ.out.1.be.trans (hk6.toBelow (by have:=HSZ.out.1.flt.lt;omega) (fun k hk h=>by omega))
end Go.Proofs.YtggmkofbikafhaaGreatDoor
