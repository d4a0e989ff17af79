/- Walks and plain laws on the way to FramePrologue (R1, H3, H4, E2, E3). Conditions: those that each theorem states. -/
import Derived.Deep.DeepCutAuto
import Derived.Test.YtggmkofbikafhaaGreatDoorH2
set_option linter.unusedVariables false
set_option linter.unusedSimpArgs false
set_option maxRecDepth 100000
set_option maxHeartbeats 40000000
namespace Go.Proofs.YtggmkofbikafhaaGreatDoor
open Go.RowKit
structure Zf (W:World) (B g:Nat) (tl:List (List Int)):Prop where
 b:∃cs:Array Value,Blk W g 22 cs∧cs.size=tl.length∧∀i (h:i<tl.length) (h2:i<cs.size),OwnI W B cs[i] tl[i]
theorem Zf.lt {W:World} {B g:Nat} {tl:List (List Int)} (h:Zf W B g tl):g<W.heap.size:=by
 obtain ⟨cs,hb,_⟩:=h.b;exact hb.lt
theorem Zf.frozen {W:World} {B g:Nat} {tl:List (List Int)} (h:Zf W B g tl) (j:Nat):W.frozen? ⟨g,j,none⟩=false:=by
 obtain ⟨cs,hb,_⟩:=h.b;exact hb.frozen j
theorem Zf.ne {W:World} {g:Nat} {t:TypeId} {cs:Array Value} (h:Blk W g t cs) (ht:t≠3) {B':Nat} {v:Value} {l:List Int} (hv:OwnI W B' v l):∀q,v.ownBlock=some q→¬q=g:=by
 intro q hq e;obtain ⟨cur,hc⟩:=ZI hv hq;exact ht (Blk.kind (e▸h) hc)
theorem Zf.keeps {W W':World} {F:Nat→Prop} {B g:Nat} {tl:List (List Int)} (h:Zf W B g tl) (hk:ZE F W W') (hg:¬F g) (hF:∀q,B≤q→¬F q):Zf W' B g tl:=by
 obtain ⟨cs,hb,h1,h2⟩:=h.b;exact ⟨cs,hb.keeps hk hg,h1,fun i a b=>(h2 i a b).keeps hk (fun q hq=>hF q ((h2 i a b).ge q hq))⟩
theorem Zf.below {W W':World} {B g:Nat} {tl:List (List Int)} (h:Zf W B g tl) (hb:Below W.heap.size W W'):Zf W' B g tl:=h.keeps (ZC (fun _=>False) hb) id (fun _ _=>id)
theorem Zf.cell {W:World} {B g:Nat} {tl:List (List Int)} (h:Zf W B g tl) (i:Nat) (hi:i<tl.length):∃v,W.cell? ⟨g,i,none⟩=some v∧OwnI W B v tl[i]:=by
 obtain ⟨cs,hb,h1,h2⟩:=h.b;exact ⟨cs[i]'(by omega),by rw[hb.cell];simp[h1,hi],h2 i hi (by omega)⟩
theorem Zf.set_ {W:World} {B g:Nat} {tl:List (List Int)} (h:Zf W B g tl) (i:Nat) {v:Value} {l:List Int} (hv:OwnI W B v l):Zf (W.setCell ⟨g,i,none⟩ v) B g (tl.set i l):=by
 obtain ⟨cs,hb,h1,h2⟩:=h.b;have hk:ZE (fun q=>q=g) W (W.setCell ⟨g,i,none⟩ v):=(ZE.refl (fun q=>q=g) W).setCell (p:=⟨g,i,none⟩) (Or.inr rfl) _;refine ⟨_,hb.set_ i v,by simp[h1],fun j a b=>?_⟩;rw[List.length_set] at a
 by_cases e:i=j
 ·subst e
  have:(cs.setIfInBounds i v)[i]'b=v:=by simp
  rw[this,List.getElem_set_self];exact hv.keeps hk (Zf.ne hb (by decide) hv)
 ·have:(cs.setIfInBounds i v)[j]'b=cs[j]'(by omega):=by rw[Array.getElem_setIfInBounds,if_neg e]
  rw[this,List.getElem_set_ne e];exact (h2 j a (by omega)).keeps hk (Zf.ne hb (by decide) (h2 j a (by omega)))
theorem Zf.other {W W':World} {B g q:Nat} {tl:List (List Int)} {t:TypeId} {cs:Array Value} (h:Zf W B g tl) (hk:ZE (fun k=>k=q) W W') (hq:Blk W q t cs) (ht:t≠3) (hg:g≠q):Zf W' B g tl:=by
 obtain ⟨cs',hb,h1,h2⟩:=h.b;exact ⟨cs',hb.keeps hk hg,h1,fun i a b=>(h2 i a b).keeps hk (Zf.ne hq ht (h2 i a b))⟩
theorem Zf.made (w:World) (n B:Nat):Zf (w.alloc (.cells (Array.replicate n (.slice none 0 0)) 22)) B w.heap.size (List.replicate n []):=
 ⟨_,Blk.new _ _ _,by simp,fun i a b=>by simp[OwnI.nil]⟩
theorem Zf.of {W:World} {g n:Nat} (h:Blk W g 22 (Array.replicate n (.slice none 0 0))) (B:Nat):Zf W B g (List.replicate n []):=
 ⟨_,h,by simp,fun i a b=>by simp[OwnI.nil]⟩
theorem Zf.to {W:World} {B g n:Nat} {tl:List (List Int)} (h:Zf W B g tl) (hn:tl.length=n) (hm:n≤maxLen):ZF9 W (.slice (some ⟨g,0,none⟩) n n) tl:=by
 subst hn;obtain ⟨cs,hb,h1,h2⟩:=h.b;refine ⟨cs.toList,by simp[h1],⟨_,_,rfl,Nat.le_refl _,hm,fun _=>⟨g,0,rfl,hb.lt,fun j u hj=>?_⟩⟩,fun i a b=>?_⟩
 ·rw[Nat.zero_add,hb.cell];simpa using hj
 ·have:=(h2 i a (by omega)).ints
  simpa using this
theorem ZDI (n:Nat) (hn:n≤16777216) (w:World):(Instr.makeSlice 189 (.int .i64 (n:Int)) (.int .i64 (n:Int))).run Tryz.prog w=.ok (.slice (some ⟨w.heap.size,0,none⟩) n n) (w.alloc (.cells (Array.replicate n (.slice none 0 0)) 22)):=
 ZEq und27 inf34 rfl (by decide) n hn w
theorem cell_far {W:World} {g q j k:Nat} (h:g≠q) (u:Value):(W.setCell ⟨q,k,none⟩ u).cell? ⟨g,j,none⟩=W.cell? ⟨g,j,none⟩:=World.cell?_of_block (a:=⟨g,j,none⟩) (Below.heap_setCell W ⟨q,k,none⟩ u g h)
def inL (F:Fn) (b:Nat):List Int:=if (ZEg F).getD b false then listW ((ZAx F).getD b Ze) (nW F) else []
def ZBQ (F:Fn):List (List Int):=(List.range F.bl.length).map (inL F)
theorem ZEK (F:Fn):(ZBQ F).length=F.bl.length:=by simp[ZBQ]
theorem LvS.other {wb W W':World} {gl gg k m q:Nat} {inv:Value} {gs:List Nat} {ins:List (List Nat)} {t:TypeId} {cs:Array Value} (h:LvS wb gl gg k m inv gs ins W) (hk:ZE (fun k=>k=q) W W') (hq:Blk W q t cs) (h1:t≠277) (h2:t≠264) (h3:t≠268) (hge:wb.heap.size≤q):LvS wb gl gg k m inv gs ins W':=
 ⟨h.lb.keeps hk (fun e=>h1 (Blk.kind hq (e▸h.lb))) , h.glb,ZB h.ow hk (fun p hp e=>by
  obtain ⟨cur,hc⟩:=ZI h.ow hp;exact h2 (Blk.kind hq (e▸hc))),h.gn,h.il,fun i a b=>(h.st i a b).keeps hk (fun e=>h3 ((h.st i a b).kind (e▸hq))),h.nd,h.gsb,h.be.trans (hk.toBelow h.be.size (fun p hp e=>by omega))⟩
structure LiW (w:World) (wb:World) (F:Fn) (gl gg m:Nat) (inv:Value) (gs:List Nat) (B gI gO gL k:Nat) (fx:Array Value) (W:World):Prop where
 s:LvS wb gl gg F.bl.length m inv gs (ZAx F) W
 lb:Blk W gL 237 #[.slice (some ⟨gI,0,none⟩) F.bl.length F.bl.length,.slice (some ⟨gO,0,none⟩) F.bl.length F.bl.length]
 ri:∃tl,Zf W B gI tl∧tl.length=F.bl.length∧∀b,tl.getD b []=if b<k then inL F b else []
 ro:∃tl,Zf W B gO tl∧tl.length=F.bl.length∧(F.rs≤0→∀l∈tl,l=[])
 be:Below w.heap.size w W
 ne:gI≠gO
 bI:B≤gI
 bO:B≤gO
 wB:w.heap.size+2≤B
 eB:wb.heap.size≤B
 rb:Blk W (w.heap.size+1) 237 #[.slice none 0 0,.slice none 0 0]
 bx:Blk W w.heap.size 82 fx
theorem LiW.below {w wb W W':World} {F:Fn} {gl gg m:Nat} {inv:Value} {gs:List Nat} {B gI gO gL k:Nat} {fx:Array Value} (h:LiW w wb F gl gg m inv gs B gI gO gL k fx W) (hb:Below W.heap.size W W'):LiW w wb F gl gg m inv gs B gI gO gL k fx W':=by
 obtain ⟨t1,a1,a2,a3⟩:=h.ri;obtain ⟨t2,b1,b2⟩:=h.ro;exact ⟨h.s.below hb,h.lb.below hb h.lb.lt,⟨t1,a1.below hb,a2,a3⟩,⟨t2,b1.below hb,b2⟩,h.be.trans (ZA hb h.be.size),h.ne,h.bI,h.bO,h.wB,h.eB,h.rb.below hb h.rb.lt,h.bx.below hb h.bx.lt⟩
theorem LiW.skip {w wb W:World} {F:Fn} {gl gg m:Nat} {inv:Value} {gs:List Nat} {B gI gO gL k:Nat} {fx:Array Value} (h:LiW w wb F gl gg m inv gs B gI gO gL k fx W) (hr:(ZEg F).getD k false=false):LiW w wb F gl gg m inv gs B gI gO gL (k+1) fx W:=by
 obtain ⟨t1,a1,a2,a3⟩:=h.ri;refine ⟨h.s,h.lb,⟨t1,a1,a2,fun b=>?_⟩,h.ro,h.be,h.ne,h.bI,h.bO,h.wB,h.eB,h.rb,h.bx⟩;rw[a3]
 by_cases hb:b<k
 ·rw[if_pos hb,if_pos (by omega)]
 ·rw[if_neg hb]
  split
  ·have:b=k:=by omega
   subst this;simp only[inL,hr,Bool.false_eq_true,if_false]
  ·rfl
theorem LiW.put {w wb W:World} {F:Fn} {gl gg m:Nat} {inv:Value} {gs:List Nat} {B gI gO gL k:Nat} {fx:Array Value} (h:LiW w wb F gl gg m inv gs B gI gO gL k fx W) (hkn:k<F.bl.length) (hr:(ZEg F).getD k false=true) {v1 v2:Value} {l2:List Int} (h1:OwnI W B v1 (listW ((ZAx F).getD k Ze) (nW F))) (h2:OwnI W B v2 l2) (h3:F.rs≤0→l2=[]) :
  LiW w wb F gl gg m inv gs B gI gO gL (k+1) fx ((W.setCell ⟨gI,k,none⟩ v1).setCell ⟨gO,k,none⟩ v2):=by
 obtain ⟨t1,a1,a2,a3⟩:=h.ri;obtain ⟨t2,b1,b2,b3⟩:=h.ro;obtain ⟨c1,d1,-⟩:=a1.b;obtain ⟨c2,d2,-⟩:=b1.b;have k1:ZE (fun q=>q=gI) W (W.setCell ⟨gI,k,none⟩ v1):=(ZE.refl (fun q=>q=gI) W).setCell (p:=⟨gI,k,none⟩) (Or.inr rfl) _;have d2':Blk (W.setCell ⟨gI,k,none⟩ v1) gO 22 c2:=d2.keeps k1 h.ne.symm;have k2:ZE (fun q=>q=gO) (W.setCell ⟨gI,k,none⟩ v1) ((W.setCell ⟨gI,k,none⟩ v1).setCell ⟨gO,k,none⟩ v2):=(ZE.refl (fun q=>q=gO) _).setCell (p:=⟨gO,k,none⟩) (Or.inr rfl) _;have e1:=a1.set_ k h1;have e2:=(b1.other k1 d1 (by decide) h.ne.symm).set_ k (h2.keeps k1 (Zf.ne d1 (by decide) h2));have hgL1:¬gL=gI:=fun e=>absurd (Blk.kind (e▸h.lb) d1) (by decide);have hgL2:¬gL=gO:=fun e=>absurd (Blk.kind (e▸h.lb) d2) (by decide);have hl1:=h.lb.keeps k1 hgL1;have hq1:=h.bI;have hq2:=h.bO;have hw:=h.wB;have he:=h.eB;have hs1:=h.s.other k1 d1 (by decide) (by decide) (by decide) (by omega);have hb1:Below w.heap.size w (W.setCell ⟨gI,k,none⟩ v1):=h.be.trans (k1.toBelow h.be.size (fun q hq e=>by omega));refine ⟨hs1.other k2 d2' (by decide) (by decide) (by decide) (by omega),hl1.keeps k2 hgL2,⟨_,e1.other k2 d2' (by decide) h.ne,by rw[List.length_set];exact a2,fun b=>?_⟩,⟨_,e2,by rw[List.length_set];exact b2,fun h0 l hl=>(List.mem_or_eq_of_mem_set hl).elim (b3 h0 l) (fun e=>by rw[e];exact h3 h0)⟩,hb1.trans (k2.toBelow hb1.size (fun q hq e=>by omega)),h.ne,h.bI,h.bO,h.wB,h.eB,(h.rb.keeps k1 (by omega)).keeps k2 (by omega),(h.bx.keeps k1 (by omega)).keeps k2 (by omega)⟩;have hv:inL F k=listW ((ZAx F).getD k Ze) (nW F):=by simp only[inL,hr,if_true]
 rw[←hv]
 by_cases hb:b=k
 ·subst hb
  rw[if_pos (by omega)];simp[a2,hkn]
 ·have e:(t1.set k (inL F k)).getD b []=t1.getD b []:=by
   simp only[List.getD_eq_getElem?_getD];rw[List.getElem?_set_ne (Ne.symm hb)]
  rw[e,a3]
  by_cases hb2:b<k
  ·rw[if_pos hb2,if_pos (by omega)]
  ·rw[if_neg hb2,if_neg (by omega)]
theorem LiW.end_ {w wb W:World} {F:Fn} {gl gg m:Nat} {inv:Value} {gs:List Nat} {B gI gO gL:Nat} {fx:Array Value} (h:LiW w wb F gl gg m inv gs B gI gO gL F.bl.length fx W):∃tO,Zf W B gI (ZBQ F)∧Zf W B gO tO∧tO.length=F.bl.length∧(F.rs≤0→∀l∈tO,l=[]):=by
 obtain ⟨t1,a1,a2,a3⟩:=h.ri;obtain ⟨t2,b1,b2⟩:=h.ro;refine ⟨t2,?_,b1,b2⟩;have:t1=ZBQ F:=by
  apply List.ext_getElem (by rw[a2,ZEK])
  intro i x y;have:=a3 i;rw[if_pos (by omega)] at this;simp only[List.getD_eq_getElem?_getD,List.getElem?_eq_getElem x,Option.getD_some] at this;rw[this];simp[ZBQ]
 rw[←this];exact a1
theorem LiW.bW {w wb W:World} {F:Fn} {gl gg m:Nat} {inv:Value} {gs:List Nat} {B gI gO gL k:Nat} {fx:Array Value} (h:LiW w wb F gl gg m inv gs B gI gO gL k fx W):B≤W.heap.size:=by
 obtain ⟨t1,a1,-⟩:=h.ri;have:=a1.lt;have:=h.bI;omega
theorem LiW.start {w w1 wb W:World} {F:Fn} {gl gg m:Nat} {inv:Value} {gs:List Nat} {gI gO gL:Nat} {fx:Array Value} (h:LvS wb gl gg F.bl.length m inv gs (ZAx F) w1) (hb:Below w.heap.size w w1) (hr:Blk w1 (w.heap.size+1) 237 #[.slice none 0 0,.slice none 0 0]) (hx:Blk w1 w.heap.size 82 fx)
  (hW:Below w1.heap.size w1 W) (bL:Blk W gL 237 #[.slice (some ⟨gI,0,none⟩) F.bl.length F.bl.length,.slice (some ⟨gO,0,none⟩) F.bl.length F.bl.length])
  (bI:Blk W gI 22 (Array.replicate F.bl.length (.slice none 0 0))) (bO:Blk W gO 22 (Array.replicate F.bl.length (.slice none 0 0))) (ne:gI≠gO) (h1:w1.heap.size≤gI) (h2:w1.heap.size≤gO):LiW w wb F gl gg m inv gs w1.heap.size gI gO gL 0 fx W:=
 ⟨h.below hW,bL,⟨_,Zf.of bI _,by simp,fun b=>by
  rw[if_neg (by omega)];simp only[List.getD_eq_getElem?_getD,List.getElem?_replicate]
  split<;>rfl⟩,⟨_,Zf.of bO _,by simp,fun _ l hl=>List.eq_of_mem_replicate hl⟩,hb.trans (ZA hW hb.size),ne,h1,h2,by have:=hr.lt;omega,h.be.size,hr.below hW hr.lt,hx.below hW hx.lt⟩
theorem ZJr {ws:List Nat} (h:∀x∈ws,x<2^64) {N:Nat} {r:Int} (hr:r∈listW ws N):∃i j:Nat,(ws.getD i 0).testBit j=true∧r=((64*i+j:Nat):Int):=by
 unfold listW at hr;obtain ⟨i,hi,hm⟩:=List.mem_flatMap.1 hr;unfold ZHU at hm;obtain ⟨j,hj,rfl⟩:=List.mem_map.1 hm;have hw:ws.getD i 0<2^64:=by
  rcases Nat.lt_or_ge i ws.length with h1|h1
  ·have e:ws.getD i 0=ws[i]:=by simp[h1]
   rw[e];exact h _ (List.getElem_mem h1)
  ·have e:ws.getD i 0=0:=by simp[h1]
   rw[e];decide
 exact ⟨i,j,ZKt _ hw j hj,by omega⟩
theorem blk3a (w:World) (t:TypeId) (cs:Array Value) (a b:Obj):Blk (((w.alloc (.cells cs t)).alloc a).alloc b).drew w.heap.size t cs:=(((Blk.new w t cs).alloc a).alloc b).drew
theorem blk3b (w:World) (t:TypeId) (cs:Array Value) (a b:Obj):Blk (((w.alloc a).alloc (.cells cs t)).alloc b).drew (w.heap.size+1) t cs:=((ZY (w:=w.alloc a) (by simp[World.size_alloc]) t cs).alloc b).drew
theorem blk3c (w:World) (t:TypeId) (cs:Array Value) (a b:Obj):Blk (((w.alloc a).alloc b).alloc (.cells cs t)).drew (w.heap.size+1+1) t cs:=(ZY (w:=(w.alloc a).alloc b) (by simp[World.size_alloc]) t cs).drew
theorem bel3 (w:World) (a b c:Obj):Below w.heap.size w (((w.alloc a).alloc b).alloc c).drew:=ZA7 ((((Below.refl _ w).alloc (Nat.le_refl _) a).alloc (by simp[World.size_alloc]) b).alloc (by simp only[World.size_alloc];omega) c)
theorem ZEs (F:Fn) (sv bv:Value) (w:World) (h:ZG9 w F sv bv) (ht:ZFM w) :
  Calls Tryz.prog 130 #[fnv F sv bv] w fun e w'=>(fnB F=false∧e=.returned (.tuple #[.agg #[.slice none 0 0,.slice none 0 0],errV F])∨fnB F=true∧∃gI gO,e=.returned (.tuple #[.agg #[.slice (some ⟨gI,0,none⟩) F.bl.length F.bl.length,.slice (some ⟨gO,0,none⟩) F.bl.length F.bl.length],.int .i64 0])∧(∃B,Zf w' B gI (ZBQ F))∧w.heap.size≤gI∧(∃B tO,Zf w' B gO tO∧tO.length=F.bl.length∧(F.rs≤0→∀l∈tO,l=[]))∧∀l∈ZBQ F,l.length≤4096∧∀r∈l,0≤r∧r<F.rs)∧Below w.heap.size w w':=by
 obtain ⟨A,c,rfl,h1,h2⟩:=h.bl.form;obtain ⟨As,cs,rfl,-,-⟩:=RowOf.form h.sl;unfold maxLen at h2;have hb1:=below2 w (.cells #[.string F.nm,.int .i64 F.ps,.int .i64 F.rs,.slice As F.sl.length cs,.slice A F.bl.length c] 82) (.cells #[.slice none 0 0,.slice none 0 0] 237);have HD:=Zh (ZFv F (.slice As F.sl.length cs) (.slice A F.bl.length c) _ (h.below hb1));have HE:=Zh (show fnB F=false→errV F=.int .i64 180 from fun hb=>by rw[errV,hb];rfl);have HBX:=Zh (Za (((Blk.new w 82 (fnA F (.slice As F.sl.length cs) (.slice A F.bl.length c))).alloc (.cells #[.slice none 0 0,.slice none 0 0] 237))) (Za (ZY (w:=w.alloc (.cells #[.string F.nm,.int .i64 F.ps,.int .i64 F.rs,.slice As F.sl.length cs,.slice A F.bl.length c] 82)) (n:=w.heap.size+1) (by simp[World.size_alloc]) 237 #[.slice none 0 0,.slice none 0 0]) hb1));have HI:=Zh h;have HT:=Zh (ht.below hb1);have HT0:=Zh ht;clear h hb1 ht;unfold fnv at HD;unfold fnA at HBX;unfold fnv;go_enter Tryz.func130,Tryz.ntmps130
 go_wp2_with fail
 refine HD.out.mono ?_;rintro e w1 ⟨⟨hb,rfl⟩|⟨hb,wb,gl,gg,tov,gr,inv,gs,rfl,hlb,hls⟩,hb1⟩
 ·have hb2:=Zh (HBX.out.2.2.trans (ZA hb1 HBX.out.2.2.size))
  have HB:=Zh hb;have HBL:=Zh (HBX.out.2.1.below hb1 HBX.out.2.1.lt);have f0:=HBL.out.frozen 0;have f1:=HBL.out.frozen 1;have c0:w1.cell? ⟨w.heap.size+1,0,none⟩=some (.slice none 0 0):=(HBL.out.cell 0).trans rfl;have c1:w1.cell? ⟨w.heap.size+1,1,none⟩=some (.slice none 0 0):=(HBL.out.cell 1).trans rfl;rw[HE.out hb];clear hb hb1;go_wp2_with fail
  have HB2:=Zh (hb2.out.setCell (p:=⟨w.heap.size+1,0,none⟩) (Nat.le_succ _) (.slice none 0 0) |>.setCell (p:=⟨w.heap.size+1,1,none⟩) (Nat.le_succ _) (.slice none 0 0));have hB3:=(HBL.out.set_ 0 (.slice none 0 0)).set_ 1 (.slice none 0 0);have d0:=(hB3.cell 0).trans rfl;have d1:=(hB3.cell 1).trans rfl;refine bodyPost_ret (v:=.tuple #[.agg #[.slice none 0 0,.slice none 0 0],.int .i64 180]) (by simp[results,Tryz.results130,go_sem,d0,d1]) rfl ⟨Or.inl ⟨HB.out,by rw[HE.out HB.out]⟩,HB2.out⟩
 ·obtain ⟨m,hm⟩:∃m,F.rs.toNat=m:=⟨_,rfl⟩
  have hn1:=hlb.ok.b1;have hn2:=hlb.ok.b2;rw[hm] at hls;have hm2:m≤4096:=by have:=hlb.ok.r1;omega
  have HM:=Zh hm;have hb2:=HBX.out.2.2.trans (ZA hb1 HBX.out.2.2.size);have hbx:=HBX.out.1.below hb1 HBX.out.1.lt;have hbl:=HBX.out.2.1.below hb1 HBX.out.2.1.lt;have HB:=Zh hb;have HLB:=Zh hlb;have HLS:=Zh hls;have HLL:=Zh (show ∀l∈ZBQ F,l.length≤4096∧∀r∈l,0≤r∧r<F.rs from by
   intro l hl;obtain ⟨b,hb,rfl⟩:=List.mem_map.1 hl;have hbn:b<F.bl.length:=List.mem_range.1 hb;unfold inL
   split
   ·have h1:b<gs.length:=by rw[hls.gn];exact hbn
    have h2:b<(ZAx F).length:=by rw[hls.il];exact hbn
    have h3:=hls.st b h1 h2;have e:(ZAx F).getD b Ze=(ZAx F)[b]:=by simp[h2]
    rw[e];have h4:=ZDJ h3.hi (nW F);have h5:nW F≤64:=by unfold nW;rw[hm];omega
    refine ⟨by omega,fun r hr=>?_⟩;obtain ⟨i,j,hij,rfl⟩:=ZJr h3.hi hr;have h6:=liveL_ok hlb.ok b i j (by rw[e];exact hij);have h7:=hlb.ok.rs0;omega
   ·simp)
  have HBB:=Zh (Za hbx (Za hbl hb2));have f4:w1.cell? ⟨w.heap.size,4,none⟩=some (.slice A F.bl.length c):=(hbx.cell 4).trans rfl;obtain ⟨n,hn⟩:∃n,F.bl.length=n:=⟨_,rfl⟩
  have HMK:=Zh (fun W=>ZDI F.bl.length (by omega) W);clear hb hb1 hlb hls hbx hbl hb2 hm hn;go_upto_region 4 with fail
  go_cut [6] from 17 to 25 (fun s6 wx=>∃gI gO gL,s6=.pointer (some ⟨gL,0,none⟩)∧Hid (LiW w wb F gl gg m inv gs w1.heap.size gI gO gL 0 (fnA F (.slice As F.sl.length cs) (.slice A F.bl.length c)) wx))
  case first=>
   have hmk:=HMK.out;have f4a:=fun o=>ZJ f4 o;have f4b:=fun o o2=>ZJ (ZJ f4 o) o2;go_region
   all_goals
    go_wp2_with fail
    go_meet
    exact ⟨_,_,_,rfl,LiW.start HLS.out HBB.out.2.2 HBB.out.2.1 HBB.out.1 (bel3 _ _ _ _)
     (by first|exact blk3a _ _ _ _ _|exact blk3b _ _ _ _ _|exact blk3c _ _ _ _ _)
     (by first|exact blk3a _ _ _ _ _|exact blk3b _ _ _ _ _|exact blk3c _ _ _ _ _)
     (by first|exact blk3a _ _ _ _ _|exact blk3b _ _ _ _ _|exact blk3c _ _ _ _ _) (by omega) (by omega) (by omega)⟩
  case rest=>
   obtain ⟨gI,gO,gL,rfl,HW0⟩:=hcut;have f4c:wc.cell? ⟨w.heap.size,4,none⟩=some (.slice A F.bl.length c):=(HW0.out.bx.cell 4).trans rfl;clear f4;go_wp2_with fail
   go_loopw [29] (fun i wr=>∃k:Nat,k≤F.bl.length∧i=.int .i64 k∧Hid (LiW w wb F gl gg m inv gs w1.heap.size gI gO gL k (fnA F (.slice As F.sl.length cs) (.slice A F.bl.length c)) wr)) (fun i _=>F.bl.length-(intOf i).toNat)
   case atStart=>exact ⟨0,Nat.zero_le _,rfl,HW0.out⟩
   case round=>
    clear HW0 f4c;obtain ⟨k,hk,rfl,HW⟩:=hrel
    by_cases hlt:k<F.bl.length
    ·have HAT:=Zh ((show LvS wb gl gg F.bl.length F.rs.toNat _ gs (ZAx F) wr from by rw[HM.out];exact HW.out.s).at_ HLB.out)
     have y0:wr.cell? ⟨gl,0,none⟩=some (.pointer (some ⟨gg,0,none⟩)):=(HW.out.s.lb.cell 0).trans rfl;have y6:wr.cell? ⟨gg,6,none⟩=some (.slice (some ⟨gr,0,none⟩) F.bl.length F.bl.length):=(HAT.out.gb.cell 6).trans rfl;obtain ⟨rb,hrb,yr⟩:=HAT.out.rc.val k (by rw[HLB.out.ok.rch.1];exact hlt);have HRB:=Zh hrb;clear hrb
     cases rb with
     | false=>
      have HN:=Zh (HW.out.skip HRB.out);clear HW HAT;go_wp2_with fail
      go_roundw
      case rel=>exact ⟨k+1,by omega,by go_num,HN.out⟩
      case measure=>simp[intOf];omega
     | true=>
      obtain ⟨g,⟨gi,oi,ci,rfl,q1,q2,yg,hgi⟩,hsg,hgq⟩:=HAT.out.get hlt;unfold maxLen at q2;have y1:wr.cell? ⟨gl,1,none⟩=some (.slice (some ⟨gi,oi,none⟩) F.bl.length ci):=(HW.out.s.lb.cell 1).trans rfl;have z0:wr.cell? ⟨gL,0,none⟩=some (.slice (some ⟨gI,0,none⟩) F.bl.length F.bl.length):=(HW.out.lb.cell 0).trans rfl;have z1:wr.cell? ⟨gL,1,none⟩=some (.slice (some ⟨gO,0,none⟩) F.bl.length F.bl.length):=(HW.out.lb.cell 1).trans rfl;have HTZ:=Zh (HT.out);have HL1:=Zh (fun W (hW:Below wr.heap.size wr W)=>ZEt g _ _ W (hsg.below hW) (by rw[HM.out];exact hm2) ((HT0.out.below HW.out.be).below hW));have HL2:=Zh (fun W g2 (hW:Below wr.heap.size wr W) (h2:SetAt W g2 (endP F (ZAx F) k) F.rs.toNat)=>ZEt g2 _ _ W h2 (by rw[HM.out];exact hm2) ((HT0.out.below HW.out.be).below hW));have HEN:=Zh (fun W (hW:Below wr.heap.size wr W)=>ZKV gl gg F _ _ tov gr _ gs (ZAx F) k hlt W (HAT.out.below hW));obtain ⟨l2,hl2⟩:∃l2,listW (endP F (ZAx F) k) ((F.rs.toNat+63) / 64)=l2:=⟨_,rfl⟩
      rw[hl2] at HL2;have HL20:=Zh (show F.rs≤0→l2=[] from fun h0=>by rw[←hl2,show (F.rs.toNat+63) / 64=0 by omega];rfl);obtain ⟨l1,hl1⟩:∃l1,listW ((ZAx F).getD k Ze) ((F.rs.toNat+63) / 64)=l1:=⟨_,rfl⟩
      rw[hl1] at HL1;have HL0:=Zh (show listW ((ZAx F).getD k Ze) (nW F)=l1 from hl1);clear hl1;have HST:=Zh (fun W (hW:Below wr.heap.size wr W)=>show (∃u,W.cell? ⟨gI,k,none⟩=some u)∧W.frozen? ⟨gI,k,none⟩=false∧(∃u,W.cell? ⟨gO,k,none⟩=some u)∧W.frozen? ⟨gO,k,none⟩=false from by
       obtain ⟨t1,a1,a2,-⟩:=(HW.out.below hW).ri;obtain ⟨t2,b1,b2⟩:=(HW.out.below hW).ro;obtain ⟨p,hp,-⟩:=a1.cell k (by omega);obtain ⟨q,hq,-⟩:=b1.cell k (by omega);exact ⟨⟨p,hp⟩,a1.frozen k,⟨q,hq⟩,b1.frozen k⟩)
      have HNE:=Zh (show gL≠gI∧gL≠gO∧gl≠gI∧gl≠gO∧gi≠gI∧gi≠gO∧gO≠gI from by
       obtain ⟨t1,a1,-,-⟩:=HW.out.ri;obtain ⟨t2,b1,-⟩:=HW.out.ro;obtain ⟨c1,d1,-⟩:=a1.b;obtain ⟨c2,d2,-⟩:=b1.b;obtain ⟨cu,hcu⟩:=ZI HW.out.s.ow (g:=gi) rfl;exact ⟨fun e=>absurd (Blk.kind HW.out.lb (e▸d1)) (by decide),fun e=>absurd (Blk.kind HW.out.lb (e▸d2)) (by decide),fun e=>absurd (Blk.kind HW.out.s.lb (e▸d1)) (by decide),fun e=>absurd (Blk.kind HW.out.s.lb (e▸d2)) (by decide),fun e=>absurd (Blk.kind hcu (e▸d1)) (by decide),fun e=>absurd (Blk.kind hcu (e▸d2)) (by decide),HW.out.ne.symm⟩)
      clear hl2 hsg hgq HAT;go_wp2_with fail
      have HCL:Hid (∀W,Below wr.heap.size wr W→W.cell? ⟨gL,0,none⟩=some (.slice (some ⟨gI,0,none⟩) F.bl.length F.bl.length)∧W.cell? ⟨gL,1,none⟩=some (.slice (some ⟨gO,0,none⟩) F.bl.length F.bl.length)∧W.cell? ⟨gl,1,none⟩=some (.slice (some ⟨gi,oi,none⟩) F.bl.length ci)∧W.cell? ⟨gi,oi+k,none⟩=some (.pointer (some ⟨g,0,none⟩))):=Zh (fun W hW=>⟨(hW.cell (p:=⟨gL,0,none⟩) (cell_lt z0)).trans z0,(hW.cell (p:=⟨gL,1,none⟩) (cell_lt z1)).trans z1,(hW.cell (p:=⟨gl,1,none⟩) (cell_lt y1)).trans y1,(hW.cell (p:=⟨gi,oi+k,none⟩) (cell_lt yg)).trans yg⟩);have HSC:Hid (∀(W:World) (q:Nat) (u:Value),gL≠q→gl≠q→gi≠q→(W.cell? ⟨gL,0,none⟩=some (.slice (some ⟨gI,0,none⟩) F.bl.length F.bl.length)∧W.cell? ⟨gL,1,none⟩=some (.slice (some ⟨gO,0,none⟩) F.bl.length F.bl.length)∧W.cell? ⟨gl,1,none⟩=some (.slice (some ⟨gi,oi,none⟩) F.bl.length ci)∧W.cell? ⟨gi,oi+k,none⟩=some (.pointer (some ⟨g,0,none⟩)))→((W.setCell ⟨q,k,none⟩ u).cell? ⟨gL,0,none⟩=some (.slice (some ⟨gI,0,none⟩) F.bl.length F.bl.length)∧(W.setCell ⟨q,k,none⟩ u).cell? ⟨gL,1,none⟩=some (.slice (some ⟨gO,0,none⟩) F.bl.length F.bl.length)∧(W.setCell ⟨q,k,none⟩ u).cell? ⟨gl,1,none⟩=some (.slice (some ⟨gi,oi,none⟩) F.bl.length ci)∧(W.setCell ⟨q,k,none⟩ u).cell? ⟨gi,oi+k,none⟩=some (.pointer (some ⟨g,0,none⟩)))):=Zh (fun W q u n1 n2 n3 ⟨s0,s1,s2,s3⟩=>⟨(cell_far n1 _).trans s0,(cell_far n1 _).trans s1,(cell_far n2 _).trans s2,(cell_far n3 _).trans s3⟩);clear z0 z1 y1 yg;refine wp_region_held_drew (S:=(fun W=>W.cell? ⟨gL,0,none⟩=some (.slice (some ⟨gI,0,none⟩) F.bl.length F.bl.length)∧W.cell? ⟨gL,1,none⟩=some (.slice (some ⟨gO,0,none⟩) F.bl.length F.bl.length)∧W.cell? ⟨gl,1,none⟩=some (.slice (some ⟨gi,oi,none⟩) F.bl.length ci)∧W.cell? ⟨gi,oi+k,none⟩=some (.pointer (some ⟨g,0,none⟩)))) (by kernel_rfl) ?_ (fun hHeld=>?_)
      ·exact HCL.out _ (ZA7 (Below.refl _ _))
      refine FU 22 rfl ?_;iterate 13 ((first|refine TN 22 rfl ?_|refine TM 22 rfl ?_);try simp only[AP,Nat.reduceAdd,Nat.reduceSub])
      first|refine TW 14 rfl ?_|refine TU 14 rfl ?_
      try simp only[AP]
      first|refine TW 15 rfl ?_|refine TU 15 rfl ?_
      try simp only[AP]
      refine RW 13 rfl fun K hK=>?_;go_simp
      go_at_call 154;refine (HL1.out _ (ZA7 (Below.refl _ _))).mono ?_;rintro e w4 ⟨⟨v1,rfl,ho1⟩,hb4⟩;obtain ⟨A1,c1,rfl,-,-⟩:=ho1.form;have hB4:Below wr.heap.size wr w4:=(ZA7 (Below.refl _ _)).trans (ZA hb4 (Nat.le_refl _));have t1:=HCL.out _ hB4
      try go_wp2_with fail
      refine hK.out _ _ t1 (fun hHeld=>?_);clear hK K;try simp only[AP]
      refine RW 16 rfl fun K hK=>?_;go_simp
      go_at_call 169;refine (HEN.out _ hB4).mono ?_;rintro e w5 ⟨⟨g2,rfl,hge,hs2⟩,hb5⟩;have hB5:Below wr.heap.size wr w5:=hB4.trans (ZA hb5 hB4.size);have t2:=HCL.out _ hB5
      try go_wp2_with fail
      refine hK.out _ _ t2 (fun hHeld=>?_);clear hK K;try simp only[AP]
      refine RW 17 rfl fun K hK=>?_;go_simp
      go_at_call 154;refine (HL2.out _ _ hB5 hs2).mono ?_;rintro e w6 ⟨⟨v2,rfl,ho2⟩,hb6⟩;obtain ⟨A2,c2,rfl,-,-⟩:=ho2.form;have hB6:Below wr.heap.size wr w6:=hB5.trans (ZA hb6 hB5.size);have t3:=HCL.out _ hB6;obtain ⟨⟨x1,u1⟩,u2,⟨x3,u3⟩,u4⟩:=HST.out _ hB6;have u5:(w6.setCell ⟨gI,k,none⟩ (.slice A1 l1.length c1)).cell? ⟨gO,k,none⟩=some x3:=(cell_far HNE.out.2.2.2.2.2.2 _).trans u3;have u6:(w6.setCell ⟨gI,k,none⟩ (.slice A1 l1.length c1)).frozen? ⟨gO,k,none⟩=false:=by rw[World.frozen?_setCell];exact u4
      try go_wp2_with fail
      refine hK.out _ _ t3 (fun hHeld=>?_);clear hK K;try simp only[AP]
      first|refine TW 18 rfl ?_|refine TU 18 rfl ?_
      try simp only[AP]
      refine RW 19 rfl fun K hK=>?_;go_simp;have t4:=HSC.out w6 gI (.slice A1 l1.length c1) HNE.out.1 HNE.out.2.2.1 HNE.out.2.2.2.2.1 t3;try go_wp2_with fail
      refine hK.out _ _ t4 (fun hHeld=>?_);clear hK K;try simp only[AP]
      first|refine TW 20 rfl ?_|refine TU 20 rfl ?_
      try simp only[AP]
      refine RW 21 rfl fun K hK=>?_;go_simp;have t5:=HSC.out _ gO (.slice A2 l2.length c2) HNE.out.2.1 HNE.out.2.2.2.1 HNE.out.2.2.2.2.2.1 t4;try go_wp2_with fail
      refine hK.out _ _ t5 (fun hHeld=>?_);clear hK K;try simp only[AP]
      refine wpAnyH_done (by kernel_rfl) ?_ _;have hBW:=HW.out.bW;have HN:=Zh ((HW.out.below hB6).put hlt HRB.out (by rw[HL0.out];exact (ho1.below (hb5.trans (ZA hb6 hb5.size))).lower (by simp only[World.size_drew];omega)) (ho2.lower (by have:=hB5.size;omega)) HL20.out);clear hB4 hB5 hB6 hb4 hb5 hb6 ho1 ho2 hge hs2 HW HCL HSC HST HL1 HL2 HEN HNE u1 u2 u3 u4 u5 u6;go_wp2_with fail
      go_roundw
      case rel=>exact ⟨k+1,by omega,by go_num,HN.out⟩
      case measure=>simp[intOf];omega
    ·have hke:k=F.bl.length:=by omega
     subst hke;obtain ⟨tO,r1,r2,r3⟩:=HW.out.end_;have z0:wr.cell? ⟨gL,0,none⟩=some (.slice (some ⟨gI,0,none⟩) F.bl.length F.bl.length):=(HW.out.lb.cell 0).trans rfl;have z1:wr.cell? ⟨gL,1,none⟩=some (.slice (some ⟨gO,0,none⟩) F.bl.length F.bl.length):=(HW.out.lb.cell 1).trans rfl;have f0:=HW.out.rb.frozen 0;have f1:=HW.out.rb.frozen 1;have c0:wr.cell? ⟨w.heap.size+1,0,none⟩=some (.slice none 0 0):=(HW.out.rb.cell 0).trans rfl;have c1:wr.cell? ⟨w.heap.size+1,1,none⟩=some (.slice none 0 0):=(HW.out.rb.cell 1).trans rfl;have HB2:=Zh (HW.out.be.setCell (p:=⟨w.heap.size+1,0,none⟩) (Nat.le_succ _) (.slice (some ⟨gI,0,none⟩) F.bl.length F.bl.length) |>.setCell (p:=⟨w.heap.size+1,1,none⟩) (Nat.le_succ _) (.slice (some ⟨gO,0,none⟩) F.bl.length F.bl.length));have hB3:=(HW.out.rb.set_ 0 (.slice (some ⟨gI,0,none⟩) F.bl.length F.bl.length)).set_ 1 (.slice (some ⟨gO,0,none⟩) F.bl.length F.bl.length);have d0:=(hB3.cell 0).trans rfl;have d1:=(hB3.cell 1).trans rfl;have hkp:ZE (fun q=>q=w.heap.size+1) wr ((wr.setCell ⟨w.heap.size+1,0,none⟩ (.slice (some ⟨gI,0,none⟩) F.bl.length F.bl.length)).setCell ⟨w.heap.size+1,1,none⟩ (.slice (some ⟨gO,0,none⟩) F.bl.length F.bl.length)):=((ZE.refl (fun q=>q=w.heap.size+1) wr).setCell (p:=⟨w.heap.size+1,0,none⟩) (Or.inr rfl) _).setCell (p:=⟨w.heap.size+1,1,none⟩) (Or.inr rfl) _;have hI:=HW.out.bI;have hO:=HW.out.bO;have hwB:=HW.out.wB;have HR:=Zh (Za (r1.other hkp HW.out.rb (by decide) (by omega)) (r2.other hkp HW.out.rb (by decide) (by omega)));clear HW r1 r2 hB3 hkp;go_wp2_with fail
     refine bodyPost_ret (v:=.tuple #[.agg #[.slice (some ⟨gI,0,none⟩) F.bl.length F.bl.length,.slice (some ⟨gO,0,none⟩) F.bl.length F.bl.length],.int .i64 0]) (by simp[results,Tryz.results130,go_sem,d0,d1]) rfl ⟨Or.inr ⟨HB.out,gI,gO,rfl,⟨_,HR.out.1⟩,by omega,⟨_,tO,HR.out.2,r3⟩,HLL.out⟩,HB2.out⟩
end Go.Proofs.YtggmkofbikafhaaGreatDoor
namespace Go.Proofs.YtggmkofbikafhaaGreatDoor
open Go.RowKit Go.Sort
def insL (x:Int):List Int→List Int
 | []=>[x]
 | y::l=>if x≤y then x::y::l else y::insL x l
def sortL:List Int→List Int
 | []=>[]
 | x::l=>insL x (sortL l)
theorem ZDN (x:Int):∀l,(insL x l).Perm (x::l)
 | []=>List.Perm.refl _
 | y::l=>by
  rw[insL]
  split
  ·exact List.Perm.refl _
  ·exact ((ZDN x l).cons y).trans (List.Perm.swap x y l)
theorem ZCP:∀l,(sortL l).Perm l
 | []=>List.Perm.refl _
 | x::l=>(ZDN x _).trans ((ZCP l).cons x)
theorem ZJ9 (x:Int):∀l:List Int,l.Pairwise (fun a b=>a≤b)→(insL x l).Pairwise (fun a b=>a≤b)
 | [],_=>by simp[insL]
 | y::l,h=>by
  obtain ⟨h1,h2⟩:=List.pairwise_cons.1 h;rw[insL]
  split
  ·rename_i hxy
   refine List.pairwise_cons.2 ⟨fun z hz=>?_,h⟩;rcases List.mem_cons.1 hz with rfl|hz
   ·exact hxy
   ·have:=h1 z hz;omega
  ·rename_i hxy
   refine List.pairwise_cons.2 ⟨fun z hz=>?_,ZJ9 x l h2⟩;rcases List.mem_cons.1 ((ZDN x l).mem_iff.1 hz) with rfl|hz
   ·omega
   ·exact h1 z hz
theorem ZCe:∀l:List Int,(sortL l).Pairwise (fun a b=>a≤b)
 | []=>List.Pairwise.nil
 | x::l=>ZJ9 x _ (ZCe l)
theorem sortL_eq (l:List Int):(l.mergeSort fun x y=>decide (x≤y))=sortL l:=by
 refine List.Perm.eq_of_pairwise (le:=fun a b:Int=>a≤b) (fun a b _ _ h1 h2=>by omega) ?_ (ZCe l) ((List.mergeSort_perm l _).trans (ZCP l).symm);have:=List.pairwise_mergeSort (le:=fun x y:Int=>decide (x≤y)) (fun a b c h1 h2=>by simp at *;omega) (fun a b=>by simp;omega) l;exact this.imp (fun h=>by simpa using h)
theorem ZI9 (l:List Int):(sortL l).length=l.length:=(ZCP l).length_eq
section
variable {α:Type} [Inhabited α] (enc:α→Value) {w:World} {g n:Nat} {os:Array Obj}
theorem heap_srt {cur:Array Value} {e:TypeId} {fr:Nat×Nat} (d:Array α) (hb:w.heap[g]? = some (.cells cur e fr)) :
  (grow (putRow enc (Sort.ahead w n) g 0 d) os).heap[g]? = some (.cells (putCells enc 0 d cur) e fr):=by
 have hg:g<w.heap.size:=(Array.getElem?_eq_some_iff.1 hb).1;rw[heap_grow_old _ _ (by simpa using hg)];simp[putRow,mapBlock,Sort.ahead,Array.getElem?_modify,hb,onCells]
theorem ZJ1 (d:Array α):ZE (· = g) w (grow (putRow enc (Sort.ahead w n) g 0 d) os):=by
 refine ⟨rfl,rfl,rfl,by simp,fun k hk hne=>?_⟩;rw[heap_grow_old _ _ (by simpa using hk)];have:g≠k:=fun e=>hne e.symm;simp[putRow,mapBlock,Sort.ahead,Array.getElem?_modify,this]
theorem ZI5 (cur:Array Value) (ts:Array α) (h:ts.size≤cur.size):(putCells enc 0 ts cur).toList.take ts.size=ts.toList.map enc:=by
 apply List.ext_getElem?
 intro j
 by_cases hj:j<ts.size
 ·rw[List.getElem?_take_of_lt hj,Array.getElem?_toList]
  simp[putCells,hj,show j<cur.size by omega]
 ·rw[List.getElem?_take_eq_none (by omega),List.getElem?_eq_none (by simp;omega)]
end
theorem sort_any (B:Nat) (v:Value) (l:List Int) (w:World) (h:OwnI w B v l) (hl:l.length≤1048576):Calls Tryz.prog 134 #[v] w fun e w'=>e=.returned (.tuple #[])∧OwnI w' B v (sortL l)∧ZE (fun k=>v.ownBlock=some k) w w':=by
 rcases h.2 with ⟨rfl,h0⟩|⟨g,cap,cur,rfl,hB,hb,h1,h2,h3,h4⟩
 ·have:l=[]:=List.length_eq_zero_iff.1 h0
  subst this;refine (Tryz.slices_Sort_int_none none 0 w).mono ?_;rintro e w' ⟨rfl,rfl⟩;exact ⟨rfl,by simpa[sortL] using h,ZE.refl _ _⟩
 ·obtain ⟨-,p2,p3,p4,p5,p6⟩:=Zc h
  refine (Tryz.slices_Sort_int g 0 cap l w (fun j hj=>⟨?_,by rw[Nat.zero_add];exact p6 j⟩) p2 (by omega)).mono ?_
  ·have hj':j<l.length:=by simpa using hj
   rw[Nat.zero_add,p5 j (iv l[j]) (by simp[hj'])];simp[iv,hj']
  ·rintro e w' ⟨rfl,n,os,rfl⟩
   rw[sortL_eq];refine ⟨rfl,?_,(ZJ1 (Value.int .i64) _).mono (fun k _ hk=>by subst hk;rfl)⟩;have hlen:=ZI9 l;unfold OwnI;rw[hlen];refine ⟨by simp[hlen],Or.inr ⟨g,cap,_,rfl,hB,heap_srt (Value.int .i64) (n:=n) (os:=os) (sortL l).toArray hb,h1,h2,by simpa[putCells] using h3,?_⟩⟩;have:=ZI5 (Value.int .i64) cur (sortL l).toArray (by simp[hlen];omega);simp only[List.size_toArray,hlen] at this;have e:iv=Value.int .i64:=rfl;rw[e]
   simpa using this
theorem ZG0 (Bs:Nat) (zs:List Int) (sv:Value) (w:World) (hm:zs.length≤1048576) (hBs:Bs<w.heap.size) (hc:w.cell? ⟨Bs,0,none⟩=some sv) (hI:Ints w sv zs) :
  Calls Tryz.prog 247 #[.func (.func 248) #[] #[.pointer (some ⟨Bs,0,none⟩)]] w fun e W'=>(∃v,e=.returned v∧OwnI W' w.heap.size v zs)∧Below w.heap.size w W':=by
 have HA:=Zh (callsIn_wide.1 (appendSeq_in Fence.wide 3 trivial trivial rfl (Nat.le_refl _) Bs w.heap.size zs sv w hm hBs (Nat.le_refl _) hc hI));clear hc hI;go_enter Tryz.func247,Tryz.ntmps247
 go_wp2_with fail
 refine HA.out.mono ?_;rintro e w1 ⟨v,rfl,ho,hb⟩;have HO:=Zh (Za ho hb);obtain ⟨A,c,rfl,-,-⟩:=slice_form ho;clear ho hb;go_wp2_with fail
 go_ret;exact ⟨⟨_,rfl,HO.out.1⟩,HO.out.2⟩
theorem ZHv (Bs:Nat) (zs:List Int) (sv:Value) (w:World) (hm:zs.length≤1048576) (hBs:Bs<w.heap.size) (hc:w.cell? ⟨Bs,0,none⟩=some sv) (hI:Ints w sv zs) :
  Calls Tryz.prog 225 #[.func (.func 248) #[] #[.pointer (some ⟨Bs,0,none⟩)]] w fun e W'=>(∃v,e=.returned v∧OwnI W' w.heap.size v (sortL zs))∧Below w.heap.size w W':=by
 have HA:=Zh (ZG0 Bs zs sv w hm hBs hc hI);clear hc hI;go_enter Tryz.func225,Tryz.ntmps225
 go_wp2_with fail
 refine HA.out.mono ?_;rintro e w1 ⟨⟨v,rfl,ho⟩,hb⟩;have HS:=Zh (sort_any w.heap.size v zs w1 ho hm);obtain ⟨A,c,rfl,-,-⟩:=ho.form;have HB:=Zh (Za hb ho);clear ho hb;go_wp2_with fail
 refine HS.out.mono ?_;rintro e w2 ⟨rfl,ho2,hk⟩;have HN:=Zh (Za ho2 (HB.out.1.trans (hk.toBelow HB.out.1.size (fun k hk' hv=>by have:=HB.out.2.ge k hv;omega))));clear ho2 hk;go_wp2_with fail
 go_ret;exact ⟨⟨_,rfl,HN.out.1⟩,HN.out.2⟩
end Go.Proofs.YtggmkofbikafhaaGreatDoor
namespace Go.Proofs.YtggmkofbikafhaaGreatDoor
open Go.RowKit
theorem ZCQ {cs:Array Value} {i j:Nat} {v:Value} (h:j<(cs.setIfInBounds i v).size) (h2:j<cs.size):(cs.setIfInBounds i v)[j]=if i=j then v else cs[j]:=Array.getElem_setIfInBounds h2
structure EdC (w1:World) (tl:List (List Int)) (gO gB k s:Nat) (co cb:Array Value) (W:World):Prop where
 be:Below w1.heap.size w1 W
 o:Blk W gO 22 co
 on:co.size=tl.length
 ol:∀i (h:i<co.size),OwnI W w1.heap.size co[i] (if i<k then sortL (tl.getD i []) else [])
 b:Blk W gB 22 cb
 bn:cb.size=tl.length
 bl:∀i (h:i<cb.size),∃l,l.length≤s∧OwnI W w1.heap.size cb[i] l
 db:∀i j (hi:i<cb.size) (hj:j<cb.size),i≠j→∀q,cb[i].ownBlock=some q→cb[j].ownBlock≠some q
 dx:∀i j (hi:i<co.size) (hj:j<cb.size),∀q,co[i].ownBlock=some q→cb[j].ownBlock≠some q
 ne:gO≠gB
 bO:w1.heap.size≤gO
 bB:w1.heap.size≤gB
theorem EdC.below {w1 W W':World} {tl:List (List Int)} {gO gB k s:Nat} {co cb:Array Value} (h:EdC w1 tl gO gB k s co cb W) (hb:Below W.heap.size W W'):EdC w1 tl gO gB k s co cb W':=
 ⟨h.be.trans (ZA hb h.be.size),h.o.below hb h.o.lt,h.on,fun i a=>(h.ol i a).below hb,h.b.below hb h.b.lt,h.bn,fun i a=>let ⟨l,x,y⟩:=h.bl i a;⟨l,x,y.below hb⟩,h.db,h.dx,h.ne,h.bO,h.bB⟩
theorem EdC.bW {w1 W:World} {tl:List (List Int)} {gO gB k s:Nat} {co cb:Array Value} (h:EdC w1 tl gO gB k s co cb W):w1.heap.size≤W.heap.size:=h.be.size
theorem EdC.push {w1 W:World} {tl:List (List Int)} {gO gB k s:Nat} {co cb:Array Value} (h:EdC w1 tl gO gB k s co cb W) (i:Nat) (hi:i<tl.length) (hs:s<16777216) (x:Int) (ty:TypeId) :
  ∃v n c v' n' c' W1,W.cell? ⟨gB,i,none⟩=some (.slice v n c)∧(Builtin.append_ #[22,22] ty #[.slice v n c,.slice (some ⟨W.heap.size,0,none⟩) 1 1]).run Tryz.prog (W.alloc (.cells #[.int .i64 x] 3))=.ok (.slice v' n' c') W1∧
   (W1.cell? ⟨gB,i,none⟩=some (.slice v n c)∧W1.frozen? ⟨gB,i,none⟩=false)∧∃cb',EdC w1 tl gO gB k (s+1) co cb' (W1.setCell ⟨gB,i,none⟩ (.slice v' n' c')):=by
 have hib:i<cb.size:=by rw[h.bn];exact hi
 obtain ⟨l,hl,how⟩:=h.bl i hib;obtain ⟨u,hu⟩:∃u,cb[i]=u:=⟨_,rfl⟩
 rw[hu] at how;have hB:=h.bW;have ha:Below W.heap.size W (W.alloc (.cells #[.int .i64 x] 3)):=(Below.refl _ _).alloc (Nat.le_refl _) _;have k1:OwnI (W.alloc (.cells #[.int .i64 x] 3)) w1.heap.size u l:=how.below ha;have k2:OwnI (W.alloc (.cells #[.int .i64 x] 3)) W.heap.size (.slice (some ⟨W.heap.size,0,none⟩) 1 1) [x]:=OwnI.new (Blk.new W 3 #[.int .i64 x]) rfl rfl (Nat.le_refl _) (by decide);obtain ⟨v',W1,e1,e2,e3,e4⟩:=k1.app k2.ints (by simp[World.size_alloc];omega) (by simp;omega) ty;have hk:ZE (fun q=>u.ownBlock=some q) W W1:=((ZE.refl (fun q=>u.ownBlock=some q) W).alloc _).trans e3 (fun _ _ h=>h);have hne:∀ {q:Nat} {cs:Array Value},Blk W q 22 cs→¬u.ownBlock=some q:=by
  intro q cs hb e;obtain ⟨cur,hc⟩:=ZI how e;exact absurd (Blk.kind hb hc) (by decide)
 obtain ⟨A,c,rfl,-,-⟩:=how.form;obtain ⟨A',c',rfl,-,-⟩:=e2.form;have hb1:Blk W1 gB 22 cb:=h.b.keeps hk (hne h.b);have ho1:Blk W1 gO 22 co:=h.o.keeps hk (hne h.o);have hkc:ZE (fun q=>q=gB) W1 (W1.setCell ⟨gB,i,none⟩ (.slice A' (l++[x]).length c')):=(ZE.refl (fun q=>q=gB) W1).setCell (p:=⟨gB,i,none⟩) (Or.inr rfl) _;have hcell:W.cell? ⟨gB,i,none⟩=some (.slice A l.length c):=by rw[h.b.cell,Array.getElem?_eq_getElem hib,hu]
 have hfr:∀q,(Value.slice A' (l++[x]).length c').ownBlock=some q→(Value.slice A l.length c).ownBlock=some q∨q=W.heap.size+1:=by
  intro q hq;rcases e4 with e4|e4
  ·left;rw[←e4];exact hq
  ·right;rw[hq] at e4;simpa[World.size_alloc] using e4
 have hoth:∀ {m:List Int} {y:Value},OwnI W w1.heap.size y m→(∀q,y.ownBlock=some q→¬(Value.slice A l.length c).ownBlock=some q)→OwnI (W1.setCell ⟨gB,i,none⟩ (.slice A' (l++[x]).length c')) w1.heap.size y m:=by
  intro m y hy hd;have h1:=hy.keeps hk hd;exact h1.keeps hkc (Zf.ne hb1 (by decide) h1)
 refine ⟨A,l.length,c,A',_,c',W1,hcell,e1,⟨by rw[hb1.cell,Array.getElem?_eq_getElem hib,hu],hb1.frozen i⟩,_,?_,ho1.keeps hkc h.ne,h.on,fun j hj=>hoth (h.ol j hj) (fun q hq=>by have:=h.dx j i hj hib q hq;rwa[hu] at this),hb1.set_ i _,by simp[h.bn],fun j hj=>?_,fun a b ha hb hab q hq=>?_,fun a b ha hb q hq=>?_,h.ne,h.bO,h.bB⟩
 ·have hb2:Below w1.heap.size w1 W1:=h.be.trans (hk.toBelow hB (fun q hq e=>by have:=how.ge q e;omega))
  exact hb2.trans (hkc.toBelow hb2.size (fun q hq e=>by have:=h.bB;omega))
 ·have hj':j<cb.size:=by simpa using hj
  rw[ZCQ _ hj']
  split
  ·exact ⟨l++[x],by simp;omega,e2.keeps hkc (Zf.ne hb1 (by decide) e2)⟩
  ·rename_i hij
   obtain ⟨m,hm,hom⟩:=h.bl j hj';exact ⟨m,by omega,hoth hom (fun q hq e=>by
    have:=h.db j i hj' hib (fun e=>hij e.symm) q hq;rw[hu] at this;exact this e)⟩
 ·have ha':a<cb.size:=by simpa using ha
  have hb':b<cb.size:=by simpa using hb
  rw[ZCQ _ ha'] at hq;rw[ZCQ _ hb']
  by_cases h1:i=a
  ·rw[if_pos h1] at hq
   rw[if_neg (fun e=>hab (h1.symm.trans e))];rcases hfr q hq with h2|h2
   ·have:=h.db i b hib hb' (fun e=>hab (h1.symm.trans e)) q (by rw[hu];exact h2)
    exact this
   ·intro h3
    obtain ⟨m,-,hom⟩:=h.bl b hb';have:=hom.lt q h3;omega
  ·rw[if_neg h1] at hq
   split
   ·rename_i h2
    intro h3;rcases hfr q h3 with h4|h4
    ·have:=h.db a i ha' hib (fun e=>h1 e.symm) q hq
     rw[hu] at this;exact this h4
    ·obtain ⟨m,-,hom⟩:=h.bl a ha'
     have:=hom.lt q hq;omega
   ·exact h.db a b ha' hb' hab q hq
 ·have hb':b<cb.size:=by simpa using hb
  rw[ZCQ _ hb']
  split
  ·intro h3
   rcases hfr q h3 with h4|h4
   ·have:=h.dx a i ha hib q hq
    rw[hu] at this;exact this h4
   ·have:=(h.ol a ha).lt q hq
    omega
  ·exact h.dx a b ha hb' q hq
theorem EdC.put {w1 W W':World} {tl:List (List Int)} {gO gB k s:Nat} {co cb:Array Value} (h:EdC w1 tl gO gB k s co cb W) (hb:Below W.heap.size W W') (hk:k<tl.length) {v:Value} (hv:OwnI W' W.heap.size v (sortL (tl.getD k []))) :
  ∃co',EdC w1 tl gO gB (k+1) s co' cb (W'.setCell ⟨gO,k,none⟩ v):=by
 have h2:=h.below hb;have hko:k<co.size:=by rw[h.on];exact hk
 have hkc:ZE (fun q=>q=gO) W' (W'.setCell ⟨gO,k,none⟩ v):=(ZE.refl (fun q=>q=gO) W').setCell (p:=⟨gO,k,none⟩) (Or.inr rfl) _;have hv2:OwnI W' w1.heap.size v (sortL (tl.getD k [])):=hv.lower h.bW;refine ⟨_,h2.be.trans (hkc.toBelow h2.be.size (fun q hq e=>by have:=h.bO;omega)),h2.o.set_ k v,by simp[h.on],fun i a=>?_,h2.b.keeps hkc h.ne.symm,h.bn,fun i a=>?_,h.db,fun i j a hj q hq=>?_,h.ne,h.bO,h.bB⟩
 ·have a':i<co.size:=by simpa using a
  rw[ZCQ _ a']
  by_cases e:k=i
  ·subst e
   rw[if_pos rfl,if_pos (by omega)];exact hv2.keeps hkc (Zf.ne h2.o (by decide) hv2)
  ·rw[if_neg e]
   have h3:=h2.ol i a';have e2:(if i<k+1 then sortL (tl.getD i []) else [])=(if i<k then sortL (tl.getD i []) else []):=by
    by_cases h4:i<k
    ·rw[if_pos h4,if_pos (by omega)]
    ·rw[if_neg h4,if_neg (by omega)]
   rw[e2];exact h3.keeps hkc (Zf.ne h2.o (by decide) h3)
 ·obtain ⟨l,hl,hol⟩:=h2.bl i a
  exact ⟨l,hl,hol.keeps hkc (Zf.ne h2.o (by decide) hol)⟩
 ·have a':i<co.size:=by simpa using a
  rw[ZCQ _ a'] at hq
  by_cases e:k=i
  ·rw[if_pos e] at hq
   intro h3;obtain ⟨l,-,hol⟩:=h.bl j hj;have:=hol.lt q h3;have:=hv.ge q hq;omega
  ·rw[if_neg e] at hq
   exact h.dx i j a' hj q hq
theorem EdC.start {w1 W:World} {tl:List (List Int)} {gO gB:Nat} (hW:Below w1.heap.size w1 W) (bO:Blk W gO 22 (Array.replicate tl.length (.slice none 0 0))) (bB:Blk W gB 22 (Array.replicate tl.length (.slice none 0 0))) (ne:gO≠gB) (h1:w1.heap.size≤gO) (h2:w1.heap.size≤gB) :
  EdC w1 tl gO gB 0 0 (Array.replicate tl.length (.slice none 0 0)) (Array.replicate tl.length (.slice none 0 0)) W:=by
 have hz:∀i (h:i<(Array.replicate tl.length (Value.slice none 0 0)).size),(Array.replicate tl.length (Value.slice none 0 0))[i]=.slice none 0 0:=fun i h=>by simp
 refine ⟨hW,bO,by simp,fun i a=>?_,bB,by simp,fun i a=>⟨[],Nat.le_refl _,?_⟩,fun i j hi hj _ q hq=>?_,fun i j hi hj q hq=>?_,ne,h1,h2⟩
 ·rw[hz,if_neg (by omega)];exact OwnI.nil _ _
 ·rw[hz];exact OwnI.nil _ _
 ·rw[hz] at hq;cases hq
 ·rw[hz] at hq;cases hq
theorem EdC.mono {w1 W:World} {tl:List (List Int)} {gO gB k s s':Nat} {co cb:Array Value} (h:EdC w1 tl gO gB k s co cb W) (hs:s≤s'):EdC w1 tl gO gB k s' co cb W:=
 ⟨h.be,h.o,h.on,h.ol,h.b,h.bn,fun i a=>let ⟨l,x,y⟩:=h.bl i a;⟨l,by omega,y⟩,h.db,h.dx,h.ne,h.bO,h.bB⟩
def edgL (F:Fn):List (List Int):=(toL F).map sortL
theorem EdC.end_ {w1 W:World} {F:Fn} {gO gB s:Nat} {co cb:Array Value} (h:EdC w1 (toL F) gO gB F.bl.length s co cb W):Zf W w1.heap.size gO (edgL F):=by
 have hn:=ZAD F;have hon:=h.on;have hl:(edgL F).length=F.bl.length:=by simp[edgL,hn]
 exact ⟨co,h.o,by omega,fun i a b=>by
  have:=h.ol i b;rw[if_pos (by omega)] at this;have e:(edgL F)[i]=sortL ((toL F).getD i []):=by
   have:i<(toL F).length:=by omega
   simp[edgL,this]
  rw[e];exact this⟩
end Go.Proofs.YtggmkofbikafhaaGreatDoor
