/- Walks and plain laws on the way to FramePrologue (M1, T1, T2, E1, P0, I4, I1, I2). Conditions: those that each theorem states. -/
import Derived.Laws.MakeOwn
import Derived.RangeFuncBox
import Derived.RangeFuncLeaves
import Derived.RangeFuncNested
import Derived.Shelf.Abstract
import Derived.OwnWalkIn
import Derived.TacticsInMore
import Derived.LoopNIn
import Derived.LoopIn
import Derived.BigRegion
import Derived.Deep.LoopGhost
import Derived.Test.YtggmkofbikafhaaGreatDoorT0
set_option linter.unusedVariables false
set_option linter.unusedSimpArgs false
set_option maxRecDepth 100000
set_option maxHeartbeats 40000000
namespace Go.Proofs.YtggmkofbikafhaaGreatDoor
open Go.RowKit
theorem ZEq {t e:TypeId} {bytes:Nat} {z:Value} (u:Tryz.prog.underlying t=some (.slice e)) (h:(Tryz.prog.info? e).map (fun i=>(i.zero,i.size,i.bytes))=some (some z,1,bytes)) (hz:z.cells=#[z]) (hb:bytes≤4096) (n:Nat) (hn:n≤16777216) (w:World) :
  (Instr.makeSlice t (.int .i64 (n:Int)) (.int .i64 (n:Int))).run Tryz.prog w=.ok (.slice (some ⟨w.heap.size,0,none⟩) n n) (w.alloc (.cells (Array.replicate n z) e)):=by
 obtain ⟨i0,hi,hz0,hz1,hz2⟩:=info_parts h;have h:=run_make (P:=Tryz.prog) w t e i0 z u hi hz0 .i64 .i64 (n:Int) (n:Int) (by omega) (Int.le_refl _) (by
  rw[hz2];have:(bytes:Int)*n≤4096*16777216:=Int.mul_le_mul (by omega) (by omega) (by omega) (by omega)
  omega) (by omega)
 have e1:((n:Int)).toNat=n:=by omega
 rw[e1] at h;have e2:madeCells #[z] n=Array.replicate n z:=by
  apply Array.toList_inj.1
  rw[toList_madeCells_one,Array.toList_replicate]
 rw[hz1,hz,Nat.mul_one,e2] at h;exact h
theorem und34:Tryz.prog.underlying 22=some (.slice 3):=by kernel_rfl
theorem inf3:(Tryz.prog.info? 3).map (fun i=>(i.zero,i.size,i.bytes))=some (some (.int .i64 0),1,8):=by kernel_rfl
theorem ZFi (n:Nat) (hn:n≤16777216) (w:World):(Instr.makeSlice 22 (.int .i64 (n:Int)) (.int .i64 (n:Int))).run Tryz.prog w=.ok (.slice (some ⟨w.heap.size,0,none⟩) n n) (w.alloc (.cells (Array.replicate n (.int .i64 0)) 3)):=
 ZEq und34 inf3 rfl (by decide) n hn w
theorem arowI:ZHl 22 3 1 8:=ZAy und34 inf3 rfl (by decide)
def OwnI (W:World) (B:Nat) (v:Value) (l:List Int):Prop:=W.ownsRow B 3 1 v l.length (l.map iv)
theorem OwnI.nil (W:World) (B:Nat):OwnI W B (.slice none 0 0) []:=⟨by simp,Or.inl ⟨rfl,rfl⟩⟩
theorem OwnI.ints {W:World} {B:Nat} {v:Value} {l:List Int} (h:OwnI W B v l):Ints W v l:=RowOf.own h
theorem OwnI.ge {W:World} {B:Nat} {v:Value} {l:List Int} (h:OwnI W B v l):∀g,v.ownBlock=some g→B≤g:=by
 intro g hg;rcases h.2 with ⟨rfl,_⟩|⟨g',cap,cur,rfl,hb,_⟩
 ·cases hg
 ·cases hg;exact hb
theorem OwnI.lt {W:World} {B:Nat} {v:Value} {l:List Int} (h:OwnI W B v l):∀g,v.ownBlock=some g→g<W.heap.size:=by
 intro g hg;rcases h.2 with ⟨rfl,_⟩|⟨g',cap,cur,rfl,hb,hh,_⟩
 ·cases hg
 ·cases hg;exact Blk.lt (t:=3) hh
theorem OwnI.below {W W':World} {B:Nat} {v:Value} {l:List Int} (h:OwnI W B v l) (hb:Below W.heap.size W W'):OwnI W' B v l:=
 ZB h (ZC (fun _=>False) hb) (fun _ _=>id)
theorem OwnI.keeps {W W':World} {F:Nat→Prop} {B:Nat} {v:Value} {l:List Int} (h:OwnI W B v l) (hk:ZE F W W') (hF:∀g,v.ownBlock=some g→¬F g):OwnI W' B v l:=
 ZB h hk hF
theorem OwnI.lower {W:World} {B B':Nat} {v:Value} {l:List Int} (h:OwnI W B v l) (hb:B'≤B):OwnI W B' v l:=ZO h hb
theorem OwnI.form {W:World} {B:Nat} {v:Value} {l:List Int} (h:OwnI W B v l):∃A c,v=.slice A l.length c∧l.length≤c∧c≤maxLen:=RowOf.form h.ints
theorem OwnI.new {W:World} {B g n:Nat} {l:List Int} {cs:Array Value} (h:Blk W g 3 cs) (hc:cs.toList=l.map iv) (hn:l.length=n) (hB:B≤g) (hm:n≤maxLen):OwnI W B (.slice (some ⟨g,0,none⟩) n n) l:=by
 subst hn;refine ⟨by simp,Or.inr ⟨g,_,cs,rfl,hB,h,Nat.le_refl _,hm,?_,?_⟩⟩
 ·have:=congrArg List.length hc
  simp at this
  omega
 ·rw[hc,List.take_of_length_le (by simp)]
theorem OwnI.app {W:World} {B:Nat} {v u:Value} {l m:List Int} (h:OwnI W B v l) (hu:Ints W u m) (hB:B≤W.heap.size) (hs:l.length+m.length≤17592186044416) (ty:TypeId) :
  ∃v' W',(Builtin.append_ #[22,22] ty #[v,u]).run Tryz.prog W=.ok v' W'∧OwnI W' B v' (l++m)∧ZE (fun k=>v.ownBlock=some k) W W'∧(v'.ownBlock=v.ownBlock∨v'.ownBlock=some W.heap.size):=by
 obtain ⟨v',W',h1,h2,h3,h4⟩:=app_any arowI ty h hu (by simp) (fun y hy=>by
  obtain ⟨i,_,rfl⟩:=List.mem_map.1 hy
  rfl) (by unfold maxLen;omega) (by omega) hB
 refine ⟨v',W',h1,?_,(ZE.refl _ W).grown h3 (fun g hg=>Or.inr hg),h4⟩;unfold OwnI;rw[List.length_append,List.map_append];exact h2
theorem OwnI.push {W:World} {B:Nat} {v:Value} {l:List Int} (h:OwnI W B v l) (hB:B≤W.heap.size) (hs:l.length<17592186044416) (x:Int) (ty:TypeId) :
  ∃v' W',(Builtin.append_ #[22,22] ty #[v,.slice (some ⟨W.heap.size,0,none⟩) 1 1]).run Tryz.prog (W.alloc (.cells #[.int .i64 x] 3))=.ok v' W'∧OwnI W' B v' (l++[x])∧ZE (fun k=>v.ownBlock=some k) W W':=by
 have h1:OwnI (W.alloc (.cells #[.int .i64 x] 3)) B v l:=h.below ((Below.refl _ _).alloc (Nat.le_refl _) _);have h2:OwnI (W.alloc (.cells #[.int .i64 x] 3)) W.heap.size (.slice (some ⟨W.heap.size,0,none⟩) 1 1) [x]:=OwnI.new (Blk.new W 3 #[.int .i64 x]) rfl rfl (Nat.le_refl _) (by decide);obtain ⟨v',W',e1,e2,e3,-⟩:=h1.app h2.ints (by simp[World.size_alloc];omega) (by simp;omega) ty;exact ⟨v',W',e1,e2,((ZE.refl (fun k=>v.ownBlock=some k) W).alloc _).trans e3 (fun _ _ h=>h)⟩
theorem OwnI.keepsB {W W':World} {B:Nat} {v:Value} {l:List Int} (h:OwnI W B v l) (hk:ZE (fun k=>v.ownBlock=some k) W W') (hB:B≤W.heap.size):Below B W W':=
 hk.toBelow hB (fun k hk' hv=>by have:=h.ge k hv;omega)
theorem OwnI.pop {W:World} {B:Nat} {v:Value} {l:List Int} (h:OwnI W B v l) (hne:l≠[]) :
  ∃g cap m,l.length=m+1∧v=.slice (some ⟨g,0,none⟩) (m+1) cap∧m+1≤cap∧cap≤maxLen∧W.cell? ⟨g,m,none⟩=some (.int .i64 (l.getLastD 0))∧OwnI W B (.slice (some ⟨g,0,none⟩) m cap) l.dropLast:=by
 have hpos:0<l.length:=List.length_pos_iff.2 hne;obtain ⟨g,cap,rfl⟩:=ZAJ h hpos;obtain ⟨p1,p2,p3,p4,p5,p6⟩:=Zc h;obtain ⟨m,hm⟩:∃m,l.length=m+1:=⟨l.length-1,by omega⟩
 refine ⟨g,cap,m,hm,by rw[hm],by omega,p4,?_,?_⟩
 ·apply p5
  rw[List.getElem?_map];have e:l.getLastD 0=l[m]:=by
   rw[List.getLastD_eq_getLast?,List.getLast?_eq_getElem?,show l.length-1=m by omega,List.getElem?_eq_getElem (by omega)]
   rfl
  rw[e,List.getElem?_eq_getElem (by omega)];rfl
 ·have h2:=ZEi h (k:=m) (by omega)
  unfold OwnI;have e:(l.dropLast).length=m:=by rw[List.length_dropLast];omega
  rw[e,show l.dropLast.map iv=(l.map iv).take (m*1) by rw[List.dropLast_eq_take,←List.map_take,hm];simp];exact h2
def bv (b:Bool):Value:=.bool b
def Bools (W:World) (v:Value) (l:List Bool):Prop:=RowOf W v l.length (l.map bv)
structure ZAH (W:World) (g:Nat) (l:List Bool):Prop where
 b:∃cs,Blk W g 4 cs∧cs.toList=l.map bv
theorem ZAH.cell {W:World} {g:Nat} {l:List Bool} (h:ZAH W g l) (j:Nat) (hj:j<l.length):W.cell? ⟨g,j,none⟩=some (.bool l[j]):=by
 obtain ⟨cs,hb,hc⟩:=h.b;rw[hb.cell,←Array.getElem?_toList,hc,List.getElem?_map,List.getElem?_eq_getElem hj];rfl
theorem ZAH.val {W:World} {g:Nat} {l:List Bool} (h:ZAH W g l) (j:Nat) (hj:j<l.length):∃b,l.getD j false=b∧W.cell? ⟨g,j,none⟩=some (.bool b):=⟨l[j],by simp[hj],h.cell j hj⟩
theorem ZAH.frozen {W:World} {g:Nat} {l:List Bool} (h:ZAH W g l) (j:Nat):W.frozen? ⟨g,j,none⟩=false:=by
 obtain ⟨cs,hb,hc⟩:=h.b;exact hb.frozen j
theorem ZAH.lt {W:World} {g:Nat} {l:List Bool} (h:ZAH W g l):g<W.heap.size:=by
 obtain ⟨cs,hb,hc⟩:=h.b;exact hb.lt
theorem ZAH.set_ {W:World} {g:Nat} {l:List Bool} (h:ZAH W g l) (j:Nat) (u:Bool):ZAH (W.setCell ⟨g,j,none⟩ (.bool u)) g (l.set j u):=by
 obtain ⟨cs,hb,hc⟩:=h.b;exact ⟨_,hb.set_ j _,by rw[Array.toList_setIfInBounds,hc,List.map_set];rfl⟩
theorem ZAH.keeps {W W':World} {F:Nat→Prop} {g:Nat} {l:List Bool} (h:ZAH W g l) (hk:ZE F W W') (hF:¬F g):ZAH W' g l:=by
 obtain ⟨cs,h1,hc⟩:=h.b;exact ⟨_,h1.keeps hk hF,hc⟩
theorem ZAH.below {W W':World} {g:Nat} {l:List Bool} (h:ZAH W g l) (hb:Below W.heap.size W W'):ZAH W' g l:=h.keeps (ZC (fun _=>False) hb) id
theorem ZAH.bools {W:World} {g n:Nat} {l:List Bool} (h:ZAH W g l) (hn:l.length=n) (hl:n≤maxLen):Bools W (.slice (some ⟨g,0,none⟩) n n) l:=by
 subst hn;obtain ⟨cs,hb,hc⟩:=h.b;refine ⟨_,_,rfl,Nat.le_refl _,hl,fun _=>⟨g,0,rfl,hb.lt,fun j u hj=>?_⟩⟩;rw[hb.cell,Nat.zero_add,←Array.getElem?_toList,hc];exact hj
theorem ZAH.ne {W:World} {g g':Nat} {l:List Bool} {m:List Int} {v:Value} {B:Nat} (h:ZAH W g l) (h':OwnI W B v m) (hv:v.ownBlock=some g'):g≠g':=by
 obtain ⟨cs,hb,hc⟩:=h.b;obtain ⟨cur,hh⟩:=ZI h' hv;exact hb.ne_ hh (by decide)
theorem und51:Tryz.prog.underlying 190=some (.slice 4):=by kernel_rfl
theorem inf4:(Tryz.prog.info? 4).map (fun i=>(i.zero,i.size,i.bytes))=some (some (.bool false),1,1):=by kernel_rfl
theorem ZEJ (n:Nat) (hn:n≤16777216) (w:World):(Instr.makeSlice 190 (.int .i64 (n:Int)) (.int .i64 (n:Int))).run Tryz.prog w=.ok (.slice (some ⟨w.heap.size,0,none⟩) n n) (w.alloc (.cells (Array.replicate n (.bool false)) 4)):=
 ZEq und51 inf4 rfl (by decide) n hn w
theorem ZAH.made (w:World) (n:Nat):ZAH (w.alloc (.cells (Array.replicate n (.bool false)) 4)) w.heap.size (List.replicate n false):=⟨_,Blk.new _ _ _,by simp[bv]⟩
theorem Bools.below {W W':World} {v:Value} {l:List Bool} (h:Bools W v l) (hb:Below W.heap.size W W'):Bools W' v l:=RowOf.below h hb
theorem Bools.open_ {W:World} {v:Value} {l:List Bool} (h:Bools W v l) (hn:0<l.length):∃g off cap,v=.slice (some ⟨g,off,none⟩) l.length cap∧l.length≤cap∧cap≤maxLen∧g<W.heap.size∧∀i (h:i<l.length),W.cell? ⟨g,off+i,none⟩=some (.bool l[i]):=by
 obtain ⟨g,off,cap,e,h2,h3,h4,h5⟩:=RowOf.open_ h hn;exact ⟨g,off,cap,e,h2,h3,h4,fun i hi=>h5 i _ (by rw[List.getElem?_map,List.getElem?_eq_getElem hi];rfl)⟩
def ZF9 (W:World) (v:Value) (tl:List (List Int)):Prop:=∃vs:List Value,vs.length=tl.length∧RowOf W v tl.length vs∧∀i (h:i<tl.length) (h2:i<vs.length),Ints W vs[i] tl[i]
theorem ZF9.below {W W':World} {v:Value} {tl:List (List Int)} (h:ZF9 W v tl) (hb:Below W.heap.size W W'):ZF9 W' v tl:=by
 obtain ⟨vs,h1,h2,h3⟩:=h;exact ⟨vs,h1,h2.below hb,fun i a b=>(h3 i a b).below hb⟩
theorem ZF9.form {W:World} {v:Value} {l:List (List Int)} (h:ZF9 W v l):∃A c,v=.slice A l.length c∧l.length≤c∧c≤maxLen:=by
 obtain ⟨vs,_,h2,_⟩:=h;exact h2.form
theorem ZF9.open_ {W:World} {v:Value} {tl:List (List Int)} (h:ZF9 W v tl) (hn:0<tl.length):∃g off cap,v=.slice (some ⟨g,off,none⟩) tl.length cap∧tl.length≤cap∧cap≤maxLen∧g<W.heap.size∧∀i (h:i<tl.length),∃iv,W.cell? ⟨g,off+i,none⟩=some iv∧Ints W iv tl[i]:=by
 obtain ⟨vs,h1,h2,h3⟩:=h;obtain ⟨g,off,cap,e,h4,h5,h6,h7⟩:=h2.open_ hn;exact ⟨g,off,cap,e,h4,h5,h6,fun i hi=>⟨vs[i]'(by omega),h7 i _ (by rw[List.getElem?_eq_getElem (by omega)]),h3 i hi (by omega)⟩⟩
end Go.Proofs.YtggmkofbikafhaaGreatDoor
namespace Go.Proofs.YtggmkofbikafhaaGreatDoor
open Go.RowKit Go.Shelf
attribute [local go_sem] Oper.semAt_some
def upto {α:Type} (f:Nat→α) (k:Nat):List α:=(List.range k).map f
theorem upto_succ {α:Type} (f:Nat→α) (k:Nat):upto f (k+1)=upto f k++[f k]:=by simp[upto,List.range_succ]
theorem upto_length {α:Type} (f:Nat→α) (k:Nat):(upto f k).length=k:=by simp[upto]
theorem upto_all (zs:List Int):upto (fun j=>zs[j]?.getD 0) zs.length=zs:=by
 apply List.ext_getElem
 ·simp[upto]
 ·intro i h1 h2
  simp[upto,h2]
theorem upto_take (zs:List Int) {k:Nat} (hk:k≤zs.length):upto (fun j=>zs[j]?.getD 0) k=zs.take k:=by
 apply List.ext_getElem
 ·simp[upto,hk]
 ·intro i h1 h2
  have:i<zs.length:=by simp[upto] at h1;omega
  simp[upto,this]
theorem values1_in (F:Fence) (n:Nat) (h7:F.fn 248) (hro:F.round=none) (hn:1≤n) (l Bs n₀ b off len cap:Nat) (zs:List Int) (hreach:len*8≤140737488351232) (hb:b<n₀) (J Jx:List Int→World→Prop)
  (hY:∀pre x W,J pre W→pre.length<len→YieldAt F (n-1) Tryz.prog l #[.int .i64 x] W fun e W'=>
   (e=.returned (.bool true)∧J (pre++[x]) W'∧Below n₀ W W')∨(e=.returned (.bool false)∧Jx (pre++[x]) W'))
  (W:World) (hBs:W.cell? ⟨Bs,0,none⟩=some (.slice (some ⟨b,off,none⟩) len cap)) (hc:∀j,j<len→W.cell? ⟨b,off+j,none⟩=some (.int .i64 (zs[j]?.getD 0))) (h0:J [] W) :
  CallsIn F n Tryz.prog 248 #[.func (.yield l) #[] #[],.pointer (some ⟨Bs,0,none⟩)] W fun e W'=>(∃v,e=.returned v)∧
   ((∃ys,ys=upto (fun j=>zs[j]?.getD 0) len∧J ys W')∨(∃pre,(∃k,k≤len∧pre=upto (fun j=>zs[j]?.getD 0) k)∧Jx pre W')):=by
 refine callsIn_of_wp Tryz.func248 rfl h7 ?_ hro;simp only[Tryz.ntmps248,List.size_toArray,List.length_cons,List.length_nil,Nat.reduceAdd,Nat.reduceSub,Array.replicate_succ,Array.replicate_zero,List.push_toArray,List.append_toArray,List.nil_append,List.cons_append]
 gi_wp2
 gi_loopw [7] (fun i wr=>∃k:Nat,k≤len∧i=.int .i64 k∧J (upto (fun j=>zs[j]?.getD 0) k) wr∧Below n₀ W wr)
  (fun i _=>len-(intOf i).toNat)
 case atStart=>exact ⟨0,Nat.zero_le _,rfl,h0,Below.refl _ _⟩
 case round=>
  obtain ⟨k,hk,rfl,hJs,hnx⟩:=hrel;have hcx:k<len→wr.cell? ⟨b,off+k,none⟩=some (.int .i64 (zs[k]?.getD 0)):=fun h=>(hnx.cell (p:=⟨b,off+k,none⟩) hb).trans (hc k h)
  by_cases hlt:k<len
  ·obtain ⟨fn,tmps,assign,body,hy,hR⟩:=hY _ (zs[k]?.getD 0) wr hJs (by rw[upto_length];exact hlt)
   have hcx':=hcx hlt
   gi_wp2
   refine hR.mono ?_;rintro e W3 (⟨rfl,hJ3,hk3⟩|⟨rfl,hJx3⟩)
   ·gi_wp2
    go_roundw
    case rel=>exact ⟨k+1,by omega,by simp,by rw[upto_succ];exact hJ3,hnx.trans hk3⟩
    case measure=>simp[intOf];omega
   ·gi_wp2
    refine bodyPost_ret (results_none rfl _ _ _) rfl ?_;exact ⟨⟨_,rfl⟩,.inr ⟨_,⟨k+1,by omega,(upto_succ _ _).symm⟩,hJx3⟩⟩
  ·obtain rfl:k=len:=by omega
   gi_wp2
   go_end0
   exact ⟨⟨_,rfl⟩,.inl ⟨_,rfl,hJs⟩⟩
theorem values1_nil_in (F:Fence) (n:Nat) (h7:F.fn 248) (hro:F.round=none) (l Bs:Nat) (A:Option Addr) (cap:Nat) (J:List Int→World→Prop) (W:World) (hBs:W.cell? ⟨Bs,0,none⟩=some (.slice A 0 cap)) (h0:J [] W) :
  CallsIn F n Tryz.prog 248 #[.func (.yield l) #[] #[],.pointer (some ⟨Bs,0,none⟩)] W fun e W'=>(∃v,e=.returned v)∧J [] W':=by
 refine callsIn_of_wp Tryz.func248 rfl h7 ?_ hro;simp only[Tryz.ntmps248,List.size_toArray,List.length_cons,List.length_nil,Nat.reduceAdd,Nat.reduceSub,Array.replicate_succ,Array.replicate_zero,List.push_toArray,List.append_toArray,List.nil_append,List.cons_append]
 gi_wp2
 gi_loopw [7] (fun i wr=>i=.int .i64 0∧J [] wr) (fun _ _=>0)
 case atStart=>exact ⟨rfl,h0⟩
 case round=>
  obtain ⟨rfl,hJs⟩:=hrel
  gi_wp2
  go_end0
  exact ⟨⟨_,rfl⟩,hJs⟩
theorem ZHs (a:Option Addr) (len cap:Nat) (w:World) :
  Calls Tryz.prog 226 #[.slice a len cap] w fun e w'=>e=.returned (.func (.func 248) #[] #[.pointer (some ⟨w.heap.size,0,none⟩)])∧w'=w.alloc (.cells #[.slice a len cap] 22):=by
 go_enter Tryz.func226,Tryz.ntmps226
 go_wp2;go_ret;exact ⟨rfl,rfl⟩
theorem values_stops (F:Fence) (n:Nat) (h7:F.fn 248) (hro:F.round=none) (hn:1≤n) (Bs n₀:Nat) (sv:Value) (zs:List Int) (hreach:zs.length*8≤140737488351232) (w:World) (hBs:Bs<w.heap.size) (hn₀:n₀≤w.heap.size)
  (hc:w.cell? ⟨Bs,0,none⟩=some sv) (hI:Ints w sv zs) (w0:World) (hI0:Ints w0 sv zs) (h0:w0.heap.size≤n₀) :
  SeqStopsK F n Tryz.prog 248 #[.pointer (some ⟨Bs,0,none⟩)] (fun x:Int=>#[Value.int .i64 x]) (Below n₀) (fun ys=>ys=zs) (fun pre=>pre <+: zs) zs.length w:=fun l J Jx W hW _ _ hY h0'=>by
 have hc':=(hW.cell (p:=⟨Bs,0,none⟩) hBs).trans hc;obtain ⟨A,c,rfl,h1,h2⟩:=hI.form;rcases Nat.eq_zero_or_pos zs.length with hz|hp
 ·have:zs=[]:=List.length_eq_zero_iff.1 hz
  subst this;exact (values1_nil_in F n h7 hro l Bs A c J W hc' h0').mono fun e W' ⟨he,hj⟩=>⟨he,.inl ⟨_,rfl,hj⟩⟩
 ·obtain ⟨g,off,cap,e,h3,h4,hg,hcc⟩:=hI.open_ hp
  cases e
  refine (values1_in F n h7 hro hn l Bs n₀ g off zs.length c zs hreach (by
   obtain ⟨g',off',cap',e',-,-,hg',-⟩:=hI0.open_ hp
   cases e'
   omega) J Jx hY W hc' (fun j hj=>?_) h0').mono ?_
  ·rw[(hW.cell (p:=⟨g,off+j,none⟩) hg),hcc j hj]
   simp[hj]
  ·rintro e W' ⟨he,⟨ys,rfl,hj⟩|⟨pre,⟨k,hk,rfl⟩,hj⟩⟩
   ·exact ⟨he,.inl ⟨_,upto_all zs,hj⟩⟩
   ·exact ⟨he,.inr ⟨_,by rw[upto_take zs hk];exact List.take_prefix _ _,hj⟩⟩
theorem infE3:(Tryz.prog.info? 3).map (fun i=>(i.zero,i.size,i.bytes))=some (some (.int .i64 0),1,8):=inf3
theorem appendSeq_in (F:Fence) (n:Nat) (h98:F.fn 251) (h78:F.fn 248) (hro:F.round=none) (hn:3≤n) (Bs n₀:Nat) (zs:List Int) (sv:Value) (w:World) (hm:zs.length≤1048576)
  (hBs:Bs<w.heap.size) (hn₀:n₀≤w.heap.size) (hc:w.cell? ⟨Bs,0,none⟩=some sv) (hI:Ints w sv zs) :
  CallsIn F n Tryz.prog 251 #[.slice none 0 0,.func (.func 248) #[] #[.pointer (some ⟨Bs,0,none⟩)]] w fun e W'=>∃v,e=.returned v∧W'.ownsRow w.heap.size 3 1 v zs.length (zs.map (Value.int .i64))∧Below w.heap.size w W':=by
 have h1:1≤n:=by omega
 obtain ⟨i0,hi,hz0,hz1,hz2⟩:=info_parts infE3;refine callsIn_of_wp_marks Tryz.func251 rfl h98 ?_ hro;simp only[Tryz.ntmps251,List.size_toArray,List.length_cons,List.length_nil,Nat.reduceAdd,Nat.reduceSub,Array.replicate_succ,Array.replicate_zero,List.push_toArray,List.append_toArray,List.nil_append,List.cons_append]
 gi_wp2
 have bO:=Boxed.new w 22 (.slice none 0 0);have hB0:Below w.heap.size w (w.alloc (.cells #[.slice none 0 0] 22)):=((Below.refl _ w).alloc (Nat.le_refl _) _)
 refine wpIn_rangeFunc_ownG hro h1 (gf:=248) (lb:=#[.pointer (some ⟨Bs,0,none⟩)]) rfl h78 (enters_of Tryz.func248 (by kernel_rfl) rfl)
  (values_stops F (n-1) h78 hro (by omega) Bs w.heap.size sv zs (by omega) _ (by simp only[World.size_alloc];omega) (by simp only[World.size_alloc];omega) (ZJ hc _) (hI.below hB0) w hI (Nat.le_refl _)) belowK_t (belowK_b (by simp only[World.size_alloc];omega)) (Below.refl _ _) (fun _=>rfl)
  (fun pre W=>(∃v,Boxed W w.heap.size 22 v∧W.ownsRow w.heap.size 3 1 v pre.length (pre.map (Value.int .i64))∧(v=.slice none 0 0↔pre=[]))∧Below w.heap.size w W)
  (fun _ _ _=>False)
  (OwnFrom.and (Own.from (holdsRow_own w.heap.size w.heap.size 22 3 1 (fun pre=>pre.length) (fun pre=>pre.map (Value.int .i64)) (fun pre v=>v=.slice none 0 0↔pre=[])) _) (ownFrom_below (Nat.le_refl _) (by simp only[World.size_alloc];omega)))
  (fun _ _ _ _ _ hs _ _=>hs)
  ⟨⟨_,bO,World.ownsRow_nil _ _ _ _,by simp⟩,hB0⟩
  (fun x=>{ tmps:=#[.slice none 0 0,.func (.func 248) #[] #[.pointer (some ⟨Bs,0,none⟩)],.pointer (some ⟨w.heap.size,0,none⟩),undef,.slice none 0 0,.int .i64 x,.func (.func 248) #[] #[.pointer (some ⟨Bs,0,none⟩)],.int .i64 x,undef,undef,undef,undef,undef],defers:=[] }) ?assign ?body ?done ?stop
 case assign=>
  intro l x W K hK
  gi_wp2
  exact hK
 case body=>
  rintro l pre x W ⟨⟨v,hv,hrow,hnil⟩,hB⟩ hlt;have hc:=hv.cell
  gi_wp2_with (gi_at_builtin;refine wpListIn_append_own _ rfl _ _ 22 rfl w.heap.size 3 i0 (.int .i64 0) 1 8 und34 hi hz0 hz1 hz2 rfl (by decide) _ _ _ rfl (hrow.alloc _) ⟨W.heap.size,0,none⟩ 1 1 [.int .i64 x] rfl rfl (cell_one_new _ _ _) (by simp[Value.oneCell']) (by unfold maxLen;omega) (by omega) (by have:=hB.size;simp;omega) ?_;intro v' w1 hown' hgrow _;obtain ⟨g',cap',rfl⟩:=ownsRow_succ hown';obtain ⟨hv1,hv2,hr2,hk2,hb2⟩:=hv.appended (by decide) hrow hB.size (Nat.le_refl _) hown' hgrow;have hc1:=hv1.cell;have hf1:=hv1.frozen)
  exact ⟨hk2.from _,hb2,⟨_,hv2,by simpa using hr2,by simp⟩,hB.trans hb2⟩
 case done=>
  rintro D ys W hD rfl ⟨⟨v,hv,hrow,hnil⟩,hB⟩ hK;have hc:=hv.cell
  gi_wp2
  refine ⟨by simp,.inl ⟨_,_,rfl,run_takeDeferred hK,?_⟩⟩;exact ⟨_,results_tmp rfl _ _ _,v,rfl,ownsRow_putObj hrow _ hK rfl,hB.trans (belowK_b (w:=w) (Nat.le_refl _) W D _ _ (by simp at hD;omega) hK rfl rfl)⟩
 case stop=>
  rintro D c pre W _ _ h _;exact h.elim
end Go.Proofs.YtggmkofbikafhaaGreatDoor
namespace Go.Proofs.YtggmkofbikafhaaGreatDoor
def ZCW (c:Nat):Bool:=(decide (97≤c)&&decide (c≤122)) || (decide (65≤c)&&decide (c≤90)) || c==95
def ZHf (c:Nat):Bool:=decide (48≤c)&&decide (c≤57)
def wcB (c:Nat):Bool:=ZCW c || ZHf c
def keysL:List ByteArray:=[⟨#[118,111,105,100]⟩,⟨#[99,104,97,114]⟩,⟨#[115,104,111,114,116]⟩,⟨#[105,110,116]⟩,⟨#[117,110,115,105,103,110,101,100]⟩,⟨#[115,116,114,117,99,116]⟩,⟨#[118,111,108,97,116,105,108,101]⟩,⟨#[105,102]⟩,⟨#[101,108,115,101]⟩,⟨#[119,104,105,108,101]⟩,⟨#[100,111]⟩,⟨#[102,111,114]⟩,⟨#[115,119,105,116,99,104]⟩,⟨#[99,97,115,101]⟩,⟨#[100,101,102,97,117,108,116]⟩,⟨#[98,114,101,97,107]⟩,⟨#[99,111,110,116,105,110,117,101]⟩,⟨#[114,101,116,117,114,110]⟩,⟨#[115,105,122,101,111,102]⟩,⟨#[106,109,112,95,98,117,102]⟩]
def ZBz (l:List ByteArray) (s:ByteArray):Bool:=l.any (fun z=>z.toList==s.toList)
def ZAh (s:ByteArray):Bool:=
 if h:0<s.size then decide (s.size≤31)&&ZCW (s[0]'h).toNat&&s.data.toList.all (fun c=>wcB c.toNat) && !ZBz keysL s else false
inductive ImK
 | none
 | from0
 | const
 | halves
 | widths
 | copied
inductive TxK
 | empty
 | name
 | built
structure Rule where
 d:Bool
 a:Bool
 b:Bool
 im:ImK
 tx:TxK
 ar:Bool
 mb:Bool
def ruleL (k:Int):Option Rule:=
 if 3≤k∧k≤19 then some ⟨true,true,true,.none,.empty,false,false⟩
 else if k=1 then some ⟨true,false,false,.const,.empty,false,false⟩
 else if k=2 then some ⟨true,true,false,.none,.empty,false,false⟩
 else if k=20 then some ⟨true,true,false,.halves,.empty,false,false⟩
 else if k=21 then some ⟨true,false,false,.from0,.empty,false,false⟩
 else if k=22 then some ⟨true,false,false,.none,.name,false,false⟩
 else if k=23 then some ⟨true,false,false,.from0,.empty,false,false⟩
 else if k=24 then some ⟨true,false,false,.none,.name,false,false⟩
 else if k=25 then some ⟨true,true,false,.widths,.empty,false,false⟩
 else if k=26 then some ⟨false,true,true,.widths,.empty,false,false⟩
 else if k=27 then some ⟨false,true,true,.copied,.empty,false,false⟩
 else if k=28 then some ⟨true,true,false,.none,.empty,true,true⟩
 else if k=29 then some ⟨true,false,false,.none,.built,true,true⟩
 else none
def isS (s:ByteArray) (l:List UInt8):Bool:=s.toList==l
def ZCE (s:ByteArray):Option (Nat×Bool):=
 if isS s [103,101,116,99,104,97,114] then some (0,true)
 else if isS s [112,117,116,99,104,97,114] || isS s [99,111,95,121,105,101,108,100] || isS s [99,111,95,100,111,110,101] then some (1,true)
 else if isS s [101,120,105,116] || isS s [99,111,95,102,114,101,101] then some (1,false)
 else if isS s [108,111,110,103,106,109,112] then some (2,false)
 else if isS s [99,111,95,110,101,119] then some (3,true)
 else if isS s [99,111,95,114,101,115,117,109,101] then some (2,true)
 else none
def imB:ImK→Int→Bool
 | .none,n=>n==0
 | .from0,n=>decide (0≤n)
 | .const,n=>decide (-2147483648≤n)&&decide (n≤4294967295)
 | .halves,n=>n==8 || n==16
 | .widths,n=>n==1 || n==2 || n==4
 | .copied,n=>decide (1≤n)&&decide (n≤65536)
def txB:TxK→ByteArray→Bool
 | .empty,s=>isS s []
 | .name,s=>ZAh s
 | .built,s=>(ZCE s).isSome
def ZBL (regs r:Int) (used mb:Bool):Bool:=if r=-1 then !used || mb else used&&decide (0≤r)&&decide (r<regs)
def tailB (slots strs:Int) (o:Op):Bool:=
 if o.k=21 then decide (o.im<slots) else if o.k=23 then decide (o.im<strs)
 else if o.k=29 then (match ZCE o.tx with|some (n,ans)=>((o.ar.length:Int)==n)&&(ans || o.d == -1)|none=>((o.ar.length:Int)==0)&&(o.d == -1))
 else true
def opB (regs slots strs:Int) (o:Op):Bool:=
 match ruleL o.k with
 | none=>false
 | some r=>ZBL regs o.d r.d r.mb&&(ZBL regs o.a r.a false&&(ZBL regs o.b r.b false&&(imB r.im o.im&&(txB r.tx o.tx&&((r.ar || !decide (0<o.ar.length))&&(o.ar.all (fun a=>ZBL regs a true false)&&tailB slots strs o))))))
def toB (n blocks:Int):Bool:=decide (1≤n)&&decide (n<blocks)
def exB (regs blocks:Int) (x:Ex):Bool:=
 if x.k=1 then x.a == -1&&(x.d == -1&&(toB x.t blocks&&x.e==0))
 else if x.k=2 then ZBL regs x.a true false&&(x.d == -1&&(toB x.t blocks&&toB x.e blocks))
 else if x.k=3 then ZBL regs x.a true true&&(x.d == -1&&(x.t==0&&x.e==0))
 else if x.k=4 then ZBL regs x.a true false&&(ZBL regs x.d true false&&(toB x.t blocks&&(toB x.e blocks&&x.t != x.e)))
 else false
def exR (x:Ex):List Int:=if x.k=2∨x.k=4 then [x.a] else if x.k=3∧0≤x.a then [x.a] else []
def exT (x:Ex):List Int:=if x.k=1 then [x.t] else if x.k=2∨x.k=4 then [x.t,x.e] else []
def reads (o:Op):List Int:=if opB 4096 4611686018427387904 4611686018427387904 o then (o.a::o.b::o.ar).filter (fun r=>decide (0≤r)) else []
def slB (s:Sl):Bool:=decide (1≤s.sz)&&(decide (s.sz≤65536)&&(s.al==1 || (s.al==2 || s.al==4)))
def ledS (l:List Int) (to:Int):List Int:=l.set to.toNat (l.getD to.toNat 0+1)
def ledL (bs:List Bl):List Int:=bs.foldl (fun l b=>(exT b.x).foldl ledS l) (List.replicate bs.length 0)
def apartB (bs:List Bl):Bool:=!bs.any (fun b=>b.x.k==4&&decide (1<(ledL bs).getD b.x.e.toNat 0))
def ZIt (regs slots strs blocks:Int):Nat→List Bl→Bool
 | _,[]=>true
 | n,b::bs=>decide (n+b.os.length≤4096)&&(exB regs blocks b.x&&(b.os.all (opB regs slots strs)&&ZIt regs slots strs blocks (n+b.os.length) bs))
def headB (F:Fn):Bool:=ZAh F.nm&&(decide (0≤F.ps)&&(decide (F.ps≤8)&&(decide (F.ps≤F.rs)&&(decide (F.rs≤4096)&&(decide (F.sl.length≤256)&&(decide (1≤F.bl.length)&&decide (F.bl.length≤4096)))))))
def fnB (F:Fn):Bool:=headB F&&(F.sl.all slB&&(ZIt F.rs F.sl.length 4611686018427387904 F.bl.length 0 F.bl&&apartB F.bl))
end Go.Proofs.YtggmkofbikafhaaGreatDoor
namespace Go.Proofs.YtggmkofbikafhaaGreatDoor
open Go.RowKit
def imF:ImK→Nat
  | .none=>232
  | .from0=>236
  | .const=>234
  | .halves=>235
  | .widths=>237
  | .copied=>238
def txF:TxK→Nat
  | .empty=>233
  | .name=>172
  | .built=>239
theorem none_any (n:Int) (w:World):Calls Tryz.prog 232 #[.int .i64 n] w fun e w'=>e=.returned (.bool (imB .none n))∧w'=w:=by
  by_cases h:n=0
  all_goals
    go_enter Tryz.func232,Tryz.ntmps232
    go_wp2;go_ret;exact ⟨ZF (by rw[Bool.eq_iff_iff];simp[imB,h]),rfl⟩
theorem ZKI (n:Int) (w:World):Calls Tryz.prog 236 #[.int .i64 n] w fun e w'=>e=.returned (.bool (imB .from0 n))∧w'=w:=by
  by_cases h:0≤n
  all_goals
    go_enter Tryz.func236,Tryz.ntmps236
    go_wp2;go_ret;exact ⟨ZF (by rw[Bool.eq_iff_iff];simp[imB];try omega),rfl⟩
theorem ZF1 (n:Int) (w:World):Calls Tryz.prog 234 #[.int .i64 n] w fun e w'=>e=.returned (.bool (imB .const n))∧w'=w:=by
  rcases (show n < -2147483648∨(-2147483648≤n∧n≤4294967295)∨4294967295<n by omega) with h|⟨h,h'⟩|h
  all_goals
    go_enter Tryz.func234,Tryz.ntmps234
    go_wp2;go_ret;exact ⟨ZF (by rw[Bool.eq_iff_iff];simp[imB];try omega),rfl⟩
theorem ZIb (n:Int) (w:World):Calls Tryz.prog 238 #[.int .i64 n] w fun e w'=>e=.returned (.bool (imB .copied n))∧w'=w:=by
  rcases (show n<1∨(1≤n∧n≤65536)∨65536<n by omega) with h|⟨h,h'⟩|h
  all_goals
    go_enter Tryz.func238,Tryz.ntmps238
    go_wp2;go_ret;exact ⟨ZF (by rw[Bool.eq_iff_iff];simp[imB];try omega),rfl⟩
theorem ZIQ (n:Int) (w:World):Calls Tryz.prog 235 #[.int .i64 n] w fun e w'=>e=.returned (.bool (imB .halves n))∧w'=w:=by
  rcases (show n=8∨n=16∨(n≠8∧n≠16) by omega) with rfl|rfl|⟨h,h'⟩
  all_goals
    go_enter Tryz.func235,Tryz.ntmps235
    go_wp2;go_ret;exact ⟨ZF (by rw[Bool.eq_iff_iff];simp[imB];try omega),rfl⟩
theorem ZHn (n:Int) (w:World):Calls Tryz.prog 237 #[.int .i64 n] w fun e w'=>e=.returned (.bool (imB .widths n))∧w'=w:=by
  rcases (show n=1∨n=2∨n=4∨(n≠1∧n≠2∧n≠4) by omega) with rfl|rfl|rfl|⟨h,h',h''⟩
  all_goals
    go_enter Tryz.func237,Tryz.ntmps237
    go_wp2;go_ret;exact ⟨ZF (by rw[Bool.eq_iff_iff];simp[imB];try omega),rfl⟩
theorem im_any (k:ImK) (n:Int) (w:World):Calls Tryz.prog (imF k) #[.int .i64 n] w fun e w'=>e=.returned (.bool (imB k n))∧w'=w:=by
  cases k
  · exact none_any n w
  · exact ZKI n w
  · exact ZF1 n w
  · exact ZIQ n w
  · exact ZHn n w
  · exact ZIb n w
theorem isS_nil (s:ByteArray):isS s []=s.toList.isEmpty:=by
  unfold isS
  cases s.toList<;>rfl
theorem empty_any (s:ByteArray) (w:World):Calls Tryz.prog 233 #[.string s] w fun e w'=>e=.returned (.bool (isS s []))∧w'=w:=by
  cases h:s.toList.isEmpty
  all_goals
    go_enter Tryz.func233,Tryz.ntmps233
    go_wp2;go_ret;exact ⟨ZF (by rw[isS_nil,h]),rfl⟩
def ZDa (s:ByteArray):Value:=match ZCE s with|some (n,a)=>.tuple #[.int .i64 n,.bool a,.bool true]|none=>.tuple #[.int .i64 0,.bool false,.bool false]
def ss (l:List UInt8):ByteArray:=⟨l.toArray⟩
theorem ZF4 (s:ByteArray) (w:World):Calls Tryz.prog 210 #[.string s] w fun e w'=>e=.returned (ZDa s)∧w'=w:=by
  go_enter Tryz.func210,Tryz.ntmps210
  go_wp2
  all_goals first
    | (exfalso;simp_all;done)
    | (refine bodyPost_ret (v:=ZDa s) ?_ rfl ⟨rfl,rfl⟩
       simp[results,Tryz.results210,go_sem,ZDa,ZCE,isS, *])
theorem ZEM (c:Nat) (w:World):Calls Tryz.prog 201 #[.int .u8 c] w fun e w'=>e=.returned (.bool (ZCW c))∧w'=w:=by
 rcases (show c<65∨(65≤c∧c≤90)∨(91≤c∧c≤94)∨c=95∨c=96∨(97≤c∧c≤122)∨123≤c by omega) with h|⟨h,h'⟩|⟨h,h'⟩|rfl|rfl|⟨h,h'⟩|h
 all_goals
  go_enter Tryz.func201,Tryz.ntmps201
  go_wp2;go_ret;exact ⟨ZF (by rw[Bool.eq_iff_iff];simp[ZCW];try omega),rfl⟩
theorem ZKX (c:Nat) (w:World):Calls Tryz.prog 229 #[.int .u8 c] w fun e w'=>e=.returned (.bool (ZHf c))∧w'=w:=by
 rcases (show c<48∨(48≤c∧c≤57)∨58≤c by omega) with h|⟨h,h'⟩|h
 all_goals
  go_enter Tryz.func229,Tryz.ntmps229
  go_wp2;go_ret;exact ⟨ZF (by rw[Bool.eq_iff_iff];simp[ZHf];try omega),rfl⟩
theorem more_any (s:ByteArray) (k:Nat) (hk:k≤s.size) (hs:s.size≤maxLen) (g:Nat) (w:World) (c0:w.cell? ⟨g,0,none⟩=some (.string s)) (c1:w.cell? ⟨g,1,none⟩=some (.int .i64 k)) :
  Calls Tryz.prog 228 #[.pointer (some ⟨g,0,none⟩)] w fun e w'=>e=.returned (.bool (decide (k<s.size)))∧∃m,w'=w.drewN m:=by
 unfold maxLen at hs;have c0':=fun m=>(show (w.drewN m).cell? ⟨g,0,none⟩=some (.string s) from c0)
 have c1':=fun m=>(show (w.drewN m).cell? ⟨g,1,none⟩=some (.int .i64 k) from c1)
 by_cases h:k<s.size
 all_goals
  go_enter Tryz.func228,Tryz.ntmps228
  go_wp2;go_quiet (fail)
  go_wp2;go_ret;exact ⟨ZF (by simp;try omega),_,rfl⟩
theorem ZHt (s:ByteArray) (k:Nat) (h:k<s.size):s.data.toList.take (k+1)=s.data.toList.take k++[s[k]]:=by
 rw[List.take_succ_eq_append_getElem (by simpa using h)];rfl
theorem ZK2 (s:ByteArray) (p:UInt8→Bool) (k:Nat) (h:k<s.size) (h1:(s.data.toList.take k).all p=true) (h2:p s[k]=true):(s.data.toList.take (k+1)).all p=true:=by
 rw[ZHt s k h,List.all_append,h1];simp[h2]
theorem ZK1 (s:ByteArray) (p:UInt8→Bool) (k:Nat) (h:k<s.size) (h2:p s[k]=false):s.data.toList.all p=false:=by
 rw[List.all_eq_false];exact ⟨s[k],by simp only[Array.mem_toList_iff];exact Array.getElem_mem _,by simp[h2]⟩
theorem ZKP (s:ByteArray) (k:Nat) (h:k<s.size):((s.extract 0 k).toList==s.toList)=false:=by
 rw[beq_eq_false_iff_ne];intro e;have h1:(s.extract 0 k).data.toList.length=s.data.toList.length:=by rw[←Lib.toList_data,←Lib.toList_data,e]
 have h2:(s.extract 0 k).data.toList.length=k:=by
  rw[Array.length_toList];show (s.extract 0 k).size=k;rw[ByteArray.size_extract];omega
 have h3:s.data.toList.length=s.size:=by rw[Array.length_toList];rfl
 omega
theorem word_any (s:ByteArray) (g:Nat) (w:World) (hb:Blk w g 319 #[.string s,.int .i64 0]) (hs:s.size≤maxLen) :
  Calls Tryz.prog 202 #[.pointer (some ⟨g,0,none⟩)] w fun e w'=>∃r,e=.returned (.string r)∧(r.toList==s.toList)=s.data.toList.all (fun c=>wcB c.toNat)∧ZE (fun k=>k=g) w w':=by
 unfold maxLen at hs;have c1:w.cell? ⟨g,1,none⟩=some (.int .i64 0):=by rw[hb.cell];rfl
 have HB:=Zh hb;clear hb;go_enter Tryz.func202,Tryz.ntmps202
 go_wp2;clear c1
 go_loopg [] s.size (fun gk wr=>∃k:Nat,k≤s.size∧gk=s.size-k∧Hid ((s.data.toList.take k).all (fun c=>wcB c.toNat)=true)∧Hid (Blk wr g 319 #[.string s,.int .i64 (k:Int)]∧ZE (fun k=>k=g) w wr))
 case atStart=>exact ⟨0,Nat.zero_le _,rfl,rfl,HB.out,ZE.refl _ _⟩
 case round=>
  obtain ⟨k,hk,rfl,HA,HK⟩:=hrel;have d0:wr.cell? ⟨g,0,none⟩=some (.string s):=by rw[HK.out.1.cell];rfl
  have d1:wr.cell? ⟨g,1,none⟩=some (.int .i64 k):=by rw[HK.out.1.cell];rfl
  have e0:=fun m=>(show (wr.drewN m).cell? ⟨g,0,none⟩=some (.string s) from d0)
  have e1:=fun m=>(show (wr.drewN m).cell? ⟨g,1,none⟩=some (.int .i64 k) from d1)
  have MQ:=Zh (fun m=>more_any s k hk hs g (wr.drewN m) (e0 m) (e1 m))
  by_cases hlt:k<s.size
  ·have hd:decide (k<s.size)=true:=by simpa using hlt
   rw[hd] at MQ;obtain ⟨c,hc⟩:∃c:Nat,(s[k]'hlt).toNat=c:=⟨_,rfl⟩
   have LQ:=Zh (fun m=>ZEM c (wr.drewN m));have DQ:=Zh (fun m=>ZKX c (wr.drewN m));have HT:=Zh (fun h=>ZK2 s (fun c=>wcB c.toNat) k hlt HA.out (by rw[hc];exact h));have HF:=Zh (fun h=>ZK1 s (fun c=>wcB c.toNat) k hlt (by rw[hc];exact h));have hfro:∀m,(wr.drewN m).frozen? ⟨g,1,none⟩=false:=fun m=>HK.out.1.frozen 1
   cases hl:ZCW c with
   | true=>
    rw[hl] at LQ;have HT2:=Zh (HT.out (by simp[wcB,hl]));clear hl;go_wp2;go_quiet (first|exact Calls.quiet_of (MQ.out _)|exact Calls.quiet_of_same (LQ.out _))
    go_wp2
    go_roundg (s.size-(k+1))
    case measure=>omega
    case rel=>exact ⟨k+1,by omega,rfl,HT2.out,(HK.out.1.drewN _).set_ 1 _,(HK.out.2.drewN _).setCell (Or.inr rfl) _⟩
   | false=>
    rw[hl] at LQ
    cases hdg:ZHf c with
    | true=>
     rw[hdg] at DQ;have HT2:=Zh (HT.out (by simp[wcB,hdg]));clear hl hdg;go_wp2;go_quiet (first|exact Calls.quiet_of (MQ.out _)|exact Calls.quiet_of_same (LQ.out _)|exact Calls.quiet_of_same (DQ.out _))
     go_wp2
     go_roundg (s.size-(k+1))
     case measure=>omega
     case rel=>exact ⟨k+1,by omega,rfl,HT2.out,(HK.out.1.drewN _).set_ 1 _,(HK.out.2.drewN _).setCell (Or.inr rfl) _⟩
    | false=>
     rw[hdg] at DQ;have HF2:=Zh (HF.out (by simp[wcB,hdg,hl]));have HX:=Zh (ZKP s k hlt);clear hl hdg;go_wp2;go_quiet (first|exact Calls.quiet_of (MQ.out _)|exact Calls.quiet_of_same (LQ.out _)|exact Calls.quiet_of_same (DQ.out _))
     go_wp2;go_quiet (fail)
     go_wp2;go_ret;exact ⟨_,rfl,by rw[HF2.out];exact HX.out,(HK.out.2.drewN _).drewN _⟩
  ·have hd:decide (k<s.size)=false:=by simpa using hlt
   rw[hd] at MQ;obtain rfl:k=s.size:=by omega
   have hsk:s.data.toList.take s.size=s.data.toList:=List.take_of_length_le (Nat.le_of_eq (by rw[Array.length_toList];rfl));have hfin:s.data.toList.all (fun c=>wcB c.toNat)=true:=by rw[←hsk];exact HA.out
   have HN:=Zh hfin;clear hfin hsk;go_wp2;go_quiet (exact Calls.quiet_of (MQ.out _))
   go_wp2;go_quiet (fail)
   go_wp2;go_ret;exact ⟨_,rfl,by rw[HN.out];simp,(HK.out.2.drewN _).drewN _⟩
end Go.Proofs.YtggmkofbikafhaaGreatDoor
