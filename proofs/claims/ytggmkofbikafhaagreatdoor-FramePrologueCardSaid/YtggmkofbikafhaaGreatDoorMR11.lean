/- Walks and plain laws on the way to FramePrologue (MR8, MR9, MR10, MR11). Conditions: those that each theorem states. -/
import Derived.Test.YtggmkofbikafhaaGreatDoorMR7
set_option linter.unusedVariables false
set_option linter.unusedSimpArgs false
set_option maxRecDepth 100000
set_option maxHeartbeats 40000000
namespace Go.Proofs.YtggmkofbikafhaaGreatDoor
open Go.RowKit
def fillR (ms:List Area) (at_:Int) (cs:List Int):Int×List Area:=
 if 16777216<cs.length then (3,ms) else if cs=[] then (0,ms) else
  match ZBK ms at_ (cs.length:Int) with
  | none=>(30,ms)
  | some _=>(0,ZH7 ms at_ (cs.length:Int) cs)
def ZBT (bm:Nat) (ns:List Area) (at_:Int) (cs:List Int) (w:World) (e:Ending) (w':World):Prop:=
 e=.returned (.int .i64 (fillR ns at_ cs).1)∧ZW w' bm (fillR ns at_ cs).2∧ZE (·∈rowsOf ns) w w'∧rowsOf (fillR ns at_ cs).2=rowsOf ns
theorem ZAw {bm:Nat} {ns:List Area} {at_ er:Int} {cs:List Int} {w w':World} {e:Ending} (hm:ZW w bm ns) (hr:fillR ns at_ cs=(er,ns)) (he:e=.returned (.int .i64 er)) (hb:Below w.heap.size w w'):ZBT bm ns at_ cs w e w':=by
 unfold ZBT;rw[hr];exact ⟨he,hm.below hb,ZC _ hb,rfl⟩
theorem ZJU (bm:Nat) (ns:List Area) (at_:Int) (v:Value) (cs:List Int) (w:World) (hm:ZW w bm ns) (h0:0≤at_) (h1:at_≤4294967295) (hs:BSl w v cs) (hap:cs≠[]→∀b n c,v=.slice (some b) n c→b.block∉rowsOf ns) :
  Calls Tryz.prog 35 #[.pointer (some ⟨bm,0,none⟩),.int .u32 at_,v] w (ZBT bm ns at_ cs w):=by
 have HM:=Zh hm;clear hm;obtain ⟨A,cap,rfl,hc1,hc2,hcb,hcells⟩:=hs;have HCB:=Zh hcb;have HCELLS:=Zh hcells;have HAP:=Zh hap;obtain ⟨N,hN⟩:∃N,cs.length=N:=⟨_,rfl⟩
 have HN:=Zh hN;have HRR:Hid (fillR ns at_ cs=if 16777216<N then ((3:Int),ns) else if cs=[] then ((0:Int),ns) else match ZBK ns at_ (N:Int) with|none=>((30:Int),ns)|some _=>((0:Int),ZH7 ns at_ (N:Int) cs)):=by
  show fillR ns at_ cs=_;unfold fillR;rw[hN]
 rw[hN] at hc1 ⊢;unfold maxLen at hc2;clear hcb hcells hap hN
 by_cases hbig:16777216<N
 ·have HR:Hid (fillR ns at_ cs=(3,ns)):=by show fillR ns at_ cs=_;rw[HRR.out,if_pos hbig]
  go_enter Tryz.func35,Tryz.ntmps35
  go_wp2_with fail
  go_ret;exact ZAw HM.out HR.out rfl (Below.refl _ _)
 by_cases hzero:N=0
 ·have HR:Hid (fillR ns at_ cs=(0,ns)):=by show fillR ns at_ cs=_;rw[HRR.out,if_neg hbig,if_pos (by rw[←List.length_eq_zero_iff,HN.out];exact hzero)]
  subst hzero;go_enter Tryz.func35,Tryz.ntmps35
  go_wp2_with fail
  go_ret;exact ZAw HM.out HR.out rfl (Below.refl _ _)
 have hne:cs≠[]:=fun h=>hzero (by rw[←HN.out,h];rfl);have HRR2:Hid (fillR ns at_ cs=match ZBK ns at_ (N:Int) with|none=>((30:Int),ns)|some _=>((0:Int),ZH7 ns at_ (N:Int) cs)):=by
  show fillR ns at_ cs=_;rw[HRR.out,if_neg hbig,if_neg hne]
 obtain ⟨b,off,rfl,hb0,hcc⟩:=HCELLS.out hne;have hbn:b∉rowsOf ns:=HAP.out hne _ _ _ (by rw[HN.out]);have HBN:=Zh hbn;have HCC:=Zh hcc;clear HCELLS HAP HRR hbn hcc hne;have hN1:1≤N:=by omega
 have hz':((N:Int)==0)=false:=by simp;omega
 clear hzero;go_enter Tryz.func35,Tryz.ntmps35
 go_wp2_with fail
 refine (ZHI bm ns _ _ _ HM.out (by omega) (by omega) (by omega) (by omega)).mono ?_;rintro e w1 ⟨⟨i,k,rfl,hin⟩,hb⟩;have HM1:=Zh (HM.out.below hb);have HB:=Zh hb;clear hb;rcases hin with ⟨rfl,rfl,hf⟩|⟨p,a,rfl,hp,rfl,hf,ha,hpre⟩
 ·have HR:Hid (fillR ns at_ cs=(30,ns)):=by show fillR ns at_ cs=_;rw[HRR2.out,hf]
  clear hf;go_wp2_with fail
  go_ret;exact ZAw HM.out HR.out rfl HB.out
 ·have HR:Hid (fillR ns at_ cs=(0,ZH7 ns at_ (N:Int) cs)):=by show fillR ns at_ cs=_;rw[HRR2.out,hf]
  obtain ⟨hmem,hn0,hfr,hend⟩:=ZBd hf;obtain ⟨hpl,hpa⟩:=List.getElem?_eq_some_iff.1 hp;obtain ⟨gl,gn,gw,capl,capn,capw,ht⟩:=HM1.out.open_ (by omega);have hplen:=hpl;have hA:=HM1.out.each a hmem;obtain ⟨K,hK⟩:∃K:Nat,at_-a.r.fr=(K:Int):=⟨(at_-a.r.fr).toNat,by omega⟩
  have hlx:=hA.lx;have hKN:K+N≤a.xs.length:=by omega
  obtain ⟨g,capb,hnow,hb1,hb2,hgr,hbytes⟩:=ZCZ hA.now (by omega);obtain ⟨M,hM⟩:∃M,ns.length=M:=⟨_,rfl⟩
  rw[hM] at hpl;have hM16:M≤16:=by have:=HM1.out.few;omega
  have e3:(0:Int)≤(p:Int):=by omega
  have e4:(p:Int)<((M:Nat):Int):=by omega
  have c1:=ht.c1;have cn:=ht.now p hplen;rw[hpa,hnow] at cn;have n1:=ht.n1;have n2:=ht.n2;rw[hM] at c1 n1;have hgnb:gn<w1.heap.size:=cell_lt (a:=⟨gn,p,none⟩) cn;have hbmb:bm<w1.heap.size:=cell_lt (a:=⟨bm,1,none⟩) c1;obtain ⟨bc,hbc⟩:∃bc,Blk w1 g 5 bc:=hA.now.blk_of hgr;obtain ⟨lv,nv,wv,hbt,hl,hnv,hwv,hd⟩:=HM1.out.top;have hgbm:g≠bm:=hbc.ne_ hbt (by decide);have hggn:g≠gn:=by
   have:nv.ownBlock=some gn:=by
    have h1:w1.cell? ⟨bm,1,none⟩=some nv:=by rw[hbt.cell];rfl
    rw[c1] at h1;have:=Option.some.inj h1
    rw[←this];rfl
   obtain ⟨cc,hcc⟩:=ZI hnv this;exact hbc.ne_ hcc (by decide)
  have hgb:g≠b:=fun e=>HBN.out (by rw[←e];exact List.mem_flatMap.2 ⟨a,hmem,List.mem_append_left _ hgr⟩);have hb1w:b<w1.heap.size:=Nat.lt_of_lt_of_le hb0 HB.out.size;have HCC1:Hid (∀i,i<N→w1.cell? ⟨b,off+i,none⟩=some (.int .u8 (cs.getD i 0))):=fun i hi=>(HB.out.cell (p:=⟨b,off+i,none⟩) hb0).trans (HCC.out i (by rw[HN.out];exact hi));have HP:=Zh (Za hp (Za ha hpre));have HK:=Zh hK;have HGR:=Zh hgr;have HF0:Hid (ZBI w1 g a.now a.xs K cs 0 w1):=ZES K _ hA.now;obtain ⟨L,hL⟩:∃L,a.xs.length=L:=⟨_,rfl⟩
  have HLL:=Zh hL;rw[hL] at cn hb1 hKN;have hL24:L≤16777216:=by have:=hA.ok.s1;omega
  rw[hK];unfold maxLen at n2 hb2;clear ha hpre hp hpa hM ht hf hbytes hA hnow hbc hbt hl hnv hwv hd hgr hK hL hlx hmem hn0 hfr hend HRR2 HCC;go_wp2_with fail
  go_loopw [9] (fun i wr=>∃j:Nat,j≤N∧i=.int .i64 j∧Hid (ZBI w1 g a.now a.xs K cs j wr)) (fun i _=>N-(intOf i).toNat)
  case atStart=>exact ⟨0,Nat.zero_le _,rfl,HF0.out⟩
  case round=>
   obtain ⟨j,hj,rfl,HF⟩:=hrel
   by_cases hlt:j<N
   ·have d1:=(HF.out.keeps.cell (p:=⟨bm,1,none⟩) hbmb (fun e=>hgbm e.symm)).trans c1
    have d2:=(HF.out.keeps.cell (p:=⟨gn,p,none⟩) hgnb (fun e=>hggn e.symm)).trans cn;have d3:=(HF.out.keeps.cell (p:=⟨b,off+j,none⟩) hb1w (fun e=>hgb e.symm)).trans (HCC1.out j hlt);have HNX:Hid (ZBI w1 g a.now a.xs K cs (j+1) (wr.drew.setCell ⟨g,K+j,none⟩ (.int .u8 (cs.getD j 0)))):=
     HF.out.drew.step (by rw[HN.out,HLL.out];exact hKN) (by rw[HN.out];exact hlt) HGR.out
    obtain ⟨hfz,old,hold⟩:=HF.out.at_ (i:=K+j) (by rw[HN.out,HLL.out];exact hKN) (by rw[HLL.out];omega) (by rw[HN.out];omega) HGR.out;obtain ⟨x,hx⟩:∃x,cs.getD j 0=x:=⟨_,rfl⟩
    rw[hx] at d3 HNX;clear hx;have e5:IntKind.i64.wrap ((K:Int)+(j:Int))=((K+j:Nat):Int):=by rw[IntWalk.i64_in _ (by omega)];omega
    obtain ⟨J,hJ⟩:∃J:Nat,K+j=J:=⟨_,rfl⟩
    rw[hJ] at e5 HNX hfz hold;have e6:(0:Int)≤(J:Int):=by omega
    have e7:(J:Int)<((L:Nat):Int):=by omega
    have e8:(0:Int)≤(j:Int):=by omega
    have e9:(j:Int)<((N:Nat):Int):=by omega
    go_wp2_with fail
    go_still_tail 15,(by kernel_rfl)
    change wpList _ _ _ _ _ wr.drew
    go_wp2_with fail
    go_roundw
    case rel=>exact ⟨j+1,by omega,by go_num,HNX.out⟩
    case measure=>simp[intOf];omega
   ·have hjN:j=N:=by omega
    obtain rfl:=hjN;obtain ⟨q1,q2,q3⟩:=HM1.out.filled HP.out.1 HP.out.2.1 HP.out.2.2 HK.out (by rw[HN.out]) HCB.out HGR.out (by rw[HN.out];exact HF.out);have HFIN:Hid (ZBT bm ns at_ cs w (.returned (.int .i64 0)) wr):=by
     refine ⟨by rw[HR.out],by rw[HR.out];exact q1,?_,by rw[HR.out];exact q3⟩;exact (ZC (·∈rowsOf ns) HB.out).trans q2 (fun i hi e=>e)
    clear q1 q2 q3;go_wp2_with fail
    go_ret;exact HFIN.out
def Zm (w:World) (bm:Nat):Option Nat:=(w.cell? ⟨bm,2,none⟩).bind Value.ownBlock
theorem ZW.lt {w:World} {bm:Nat} {ns:List Area} (h:ZW w bm ns):bm<w.heap.size:=by obtain ⟨_,_,_,hb,_⟩:=h.top;exact hb.lt
theorem ZW.was_kind {w:World} {bm g:Nat} {ns:List Area} (h:ZW w bm ns) (hg:Zm w bm=some g):∃cur,Blk w g 32 cur:=by
 obtain ⟨lv,nv,wv,hb,hl,hn,hw,hd⟩:=h.top;have:w.cell? ⟨bm,2,none⟩=some wv:=by rw[hb.cell];rfl
 unfold Zm at hg;rw[this] at hg;exact ZI hw hg
theorem ZBN {w w':World} {F:Nat→Prop} {bm:Nat} {ns:List Area} (h:ZW w bm ns) (k:ZE F w w') (hF:¬F bm):Zm w' bm=Zm w bm:=by
 unfold Zm;rw[k.cell (p:=⟨bm,2,none⟩) h.lt hF]
theorem ZW.was_put {w W:World} {bm gw:Nat} {pre post:List Area} {a:Area} {v:Value} (h:ZW w bm (pre++a::post)) (hW:Below w.heap.size w W) (hv:ZCM W v a.xs) (hrows:∀g∈ZZ v a.xs,w.heap.size≤g)
  (hgw:Zm w bm=some gw) :
  ZW (W.setCell ⟨gw,pre.length,none⟩ v) bm (pre ++ { a with was:=v,ys:=a.xs } :: post)∧∀g∈rowsOf (pre ++ { a with was:=v,ys:=a.xs } :: post),g∈rowsOf (pre++a::post)∨w.heap.size≤g:=by
 have hr:=h.below hW;obtain ⟨curg,hg33⟩:=h.was_kind hgw;have hgW:Blk W gw 32 curg:=hg33.below hW hg33.lt;obtain ⟨lv,nv,wv,hb,hl,hn,hw,hd⟩:=hr.top;have hob:wv.ownBlock=some gw:=by
  have h1:W.cell? ⟨bm,2,none⟩=some wv:=by rw[hb.cell];rfl
  have h2:Zm W bm=Zm w bm:=ZBN h (ZC (fun _=>False) hW) (fun e=>e);unfold Zm at h2;rw[h1] at h2;exact h2.trans hgw
 have hk:ZE (· = gw) W (W.setCell ⟨gw,pre.length,none⟩ v):=(ZE.refl (fun x=>x=gw) W).setCell (p:=⟨gw,pre.length,none⟩) (Or.inr rfl) v;have hT:∀ {b:Nat} {t:TypeId} {cs:Array Value},Blk W b t cs→t≠32→¬(b=gw):=fun h1 h2=>h1.ne_ hgW h2;have hrow5:∀(x:Area),ZAt W x→∀g∈x.rows,¬(g=gw):=fun x hx g hg=>by
  obtain ⟨c,hc⟩:=hx.row_blk hg;exact hT hc (by decide)
 have hvB:∀g∈ZZ v a.xs,¬(g=gw):=fun g hg=>by
  obtain ⟨c,hc⟩:=hv.blk_of hg;exact hT hc (by decide)
 have hlt:∀g∈rowsOf (pre++a::post),g<w.heap.size:=fun g hg=>h.row_lt hg;have hnd1:(ZZ v a.xs).Nodup:=by
  unfold ZZ
  split
  ·exact List.nodup_nil
  ·cases v.ownBlock<;>simp
 refine ⟨⟨⟨lv,nv,wv,hb.keeps hk (hT hb (by decide)),?_,?_,?_,hd⟩,fun x hx=>?_,?_,?_⟩,fun g hg=>?_⟩
 ·have:=ZB hl hk (fun g' hg'=>by obtain ⟨c,hc⟩:=ZI hl hg';exact hT hc (by decide))
  simpa using this
 ·have:=ZB hn hk (fun g' hg' e=>by subst e;exact hd g' hg' hob)
  simpa using this
 ·rcases hw.2 with ⟨rfl,_⟩|⟨g',cap,cur,rfl,hbs,hh,h1,h2,h3,h4⟩
  ·simp[Value.ownBlock] at hob
  ·have e:g'=gw:=by simpa[Value.ownBlock] using hob
   subst e;have hset:Blk _ g' 32 _:=Blk.set_ (t:=32) hh pre.length v;refine ⟨by simp,Or.inr ⟨g',cap,_,by simp,hbs,hset,by simpa using h1,h2,by simpa using h3,?_⟩⟩;rw[Nat.mul_one] at h4 ⊢;rw[Array.toList_setIfInBounds];have e1:(pre ++ { a with was:=v,ys:=a.xs } :: post).length=(pre++a::post).length:=by simp
   rw[e1,List.take_set,h4];simp[List.set_append]
 ·rcases List.mem_append.1 hx with hx|hx
  ·have h1:=hr.each x (by simp[hx])
   exact h1.keeps hk (hrow5 x h1)
  ·rcases List.mem_cons.1 hx with rfl|hx
   ·have h1:=hr.each a (by simp)
    exact ⟨h1.now.keeps hk (fun g hg=>hrow5 a h1 g (List.mem_append_left _ hg)),hv.keeps hk hvB,h1.lx,h1.lx,h1.bx,h1.bx,h1.ok⟩
   ·have h1:=hr.each x (by simp[hx])
    exact h1.keeps hk (hrow5 x h1)
 ·have hap:=h.apart
  unfold rowsOf at hap ⊢;rw[List.flatMap_append,List.flatMap_cons] at hap ⊢;rw[List.nodup_append] at hap ⊢;obtain ⟨n1,n2,n3⟩:=hap;rw[List.nodup_append] at n2 ⊢;obtain ⟨n4,n5,n6⟩:=n2;unfold Area.rows at n3 n4 n6 ⊢;rw[List.nodup_append] at n4 ⊢;have hold:∀g,(g∈pre.flatMap Area.rows∨g∈ZZ a.now a.xs∨g∈post.flatMap Area.rows)→g<w.heap.size:=fun g hg=>hlt g (by
   unfold rowsOf Area.rows;rw[List.flatMap_append,List.flatMap_cons];rcases hg with hg|hg|hg
   ·exact List.mem_append_left _ hg
   ·exact List.mem_append_right _ (List.mem_append_left _ (List.mem_append_left _ hg))
   ·exact List.mem_append_right _ (List.mem_append_right _ hg))
  refine ⟨n1,⟨⟨n4.1,hnd1,fun x hx y hy e=>?_⟩,n5,fun x hx y hy=>?_⟩,fun x hx y hy=>?_⟩
  ·have:=hold x (Or.inr (Or.inl hx));have:=hrows y hy;omega
  ·rcases List.mem_append.1 hx with hx|hx
   ·exact n6 x (List.mem_append_left _ hx) y hy
   ·intro e;have:=hold y (Or.inr (Or.inr hy));have:=hrows x hx;omega
  ·rcases List.mem_append.1 hy with hy|hy
   ·rcases List.mem_append.1 hy with hy|hy
    ·exact n3 x hx y (List.mem_append_left _ (List.mem_append_left _ hy))
    ·intro e;have:=hold x (Or.inl hx);have:=hrows y hy;omega
   ·exact n3 x hx y (List.mem_append_right _ hy)
 ·have:=h.few
  simpa using this
 ·unfold rowsOf at hg ⊢
  rw[List.flatMap_append,List.flatMap_cons] at hg ⊢;rcases List.mem_append.1 hg with hg|hg
  ·exact Or.inl (List.mem_append_left _ hg)
  ·rcases List.mem_append.1 hg with hg|hg
   ·unfold Area.rows at hg
    rcases List.mem_append.1 hg with hg|hg
    ·exact Or.inl (List.mem_append_right _ (List.mem_append_left _ (List.mem_append_left _ hg)))
    ·exact Or.inr (hrows g hg)
   ·exact Or.inl (List.mem_append_right _ (List.mem_append_right _ hg))
structure ZCm (w:World) (bm:Nat) (ns:List Area) (k:Nat) (ns':List Area) (wr:World):Prop where
  mem:ZW wr bm ns'
  key:ns'.map Area.key=(ZDH ns k).map Area.key
  keeps:ZE (fun g=>Zm w bm=some g) w wr
  rows:∀g∈rowsOf ns',g∈rowsOf ns∨w.heap.size≤g
  was:Zm wr bm=Zm w bm
def ZDf (bm:Nat) (ns:List Area) (w:World) (e:Ending) (w':World):Prop:=
  e=.returned (.tuple #[])∧∃ns',ZW w' bm ns'∧ns'.map Area.key=(ns.map ZDn).map Area.key∧ZE (fun g=>Zm w bm=some g) w w'∧(∀g∈rowsOf ns',g∈rowsOf ns∨w.heap.size≤g)∧Zm w' bm=Zm w bm
theorem ZCm.step {w wr w2:World} {bm gw k:Nat} {ns ns':List Area} {a:Area} {v:Value} (h:ZCm w bm ns k ns' wr) (hk:ns'[k]? = some a) (hb:Below wr.heap.size wr w2) (hv:ZCM w2 v a.xs) (hr:∀g∈ZZ v a.xs,wr.heap.size≤g) (hgw:Zm wr bm=some gw) :
    ∃ns2,ZCm w bm ns (k+1) ns2 (w2.setCell ⟨gw,k,none⟩ v):=by
  obtain ⟨hl,rfl⟩:=List.getElem?_eq_some_iff.1 hk;have e:ns'=ns'.take k++(ns'[k]::ns'.drop (k+1)):=by rw[←List.drop_eq_getElem_cons hl,List.take_append_drop]
  have hpl:(ns'.take k).length=k:=by rw[List.length_take];omega
  have hm:=h.mem;rw[e] at hm;obtain ⟨q1,q2⟩:=hm.was_put hb hv hr hgw;rw[hpl] at q1;refine ⟨_,q1,?_,?_,fun g hg=>?_,?_⟩
  · have hkn:k<ns.length:=by
      have:=congrArg List.length h.key;simp[ZDH] at this;omega
    have hkey:=h.key;obtain ⟨m1,m2⟩:=markK_at (List.getElem?_eq_getElem hkn);rw[m1,List.map_append,List.map_cons] at hkey;rw[m2,List.map_append,List.map_cons];rw[e,List.map_append,List.map_cons] at hkey;have hlen:((ns'.take k).map Area.key).length=(((ns.take k).map ZDn).map Area.key).length:=by simp;omega
    obtain ⟨k1,k2⟩:=List.append_inj hkey hlen;rw[List.cons.injEq] at k2;have ka:=k2.1;unfold Area.key at ka;simp only[Prod.mk.injEq] at ka;rw[List.map_append,List.map_cons,k1,k2.2];unfold Area.key ZDn;rw[ka.1,ka.2.1]
  · refine h.keeps.trans ((ZC (fun g=>Zm w bm=some g) hb).setCell (p:=⟨gw,k,none⟩) (Or.inr (h.was.symm.trans hgw)) v) (fun i _ e=>e)
  · rcases q2 g hg with h1|h1
    · rw[←e] at h1
      exact h.rows g h1
    · exact Or.inr (Nat.le_trans h.keeps.size h1)
  · rw[ZBN h.mem ((ZC (fun g=>Zm w bm=some g) hb).setCell (p:=⟨gw,k,none⟩) (Or.inr (h.was.symm.trans hgw)) v) (fun e=>?_)]
    · exact h.was
    · obtain ⟨lv,nv,wv,hb2,_⟩:=h.mem.top
      obtain ⟨cur,hc⟩:=h.mem.was_kind (h.was.trans e);exact hc.ne_ hb2 (by decide) rfl
theorem ZCm.drew {w wr:World} {bm k:Nat} {ns ns':List Area} (h:ZCm w bm ns k ns' wr):ZCm w bm ns k ns' wr.drew:=
  ⟨h.mem.below ((Below.refl _ _).drew),h.key,h.keeps.drew,h.rows,h.was⟩
theorem ZJQ (bm:Nat) (ns:List Area) (w:World) (hm:ZW w bm ns):Calls Tryz.prog 36 #[.pointer (some ⟨bm,0,none⟩)] w (ZDf bm ns w):=by
  have HM:=Zh hm;clear hm
  by_cases hpos:0<ns.length
  · obtain ⟨N,hN⟩:∃N,ns.length=N:=⟨_,rfl⟩
    have hN16:N≤16:=by have:=HM.out.few;omega
    have HN:=Zh hN;rw[hN] at hpos;have HR0:Hid (ZCm w bm ns 0 ns w):=⟨HM.out,by rw[ZIH],ZE.refl _ _,fun g hg=>Or.inl hg,rfl⟩
    clear hN;go_enter Tryz.func36,Tryz.ntmps36
    go_wp2_with fail
    go_loopw [2] (fun i wr=>∃(k:Nat) (ns':List Area),k≤N∧i=.int .i64 k∧Hid (ZCm w bm ns k ns' wr)) (fun i _=>N-(intOf i).toNat)
    case atStart=>exact ⟨0,ns,Nat.zero_le _,rfl,HR0.out⟩
    case round=>
      obtain ⟨k,ns',hk,rfl,HR⟩:=hrel;have hlen:ns'.length=N:=by
        have h1:=congrArg List.length HR.out.key;have h2:=HN.out;simp[ZDH] at h1;omega
      obtain ⟨gl,gn,gw,capl,capn,capw,ht⟩:=HR.out.mem.open_ (by omega);rw[hlen] at ht;have c1:=ht.c1;have n1:=ht.n1;have n2:=ht.n2;unfold maxLen at n2
      by_cases hlt:k<N
      · have hkl:k<ns'.length:=by omega
        obtain ⟨a,hak⟩:∃a,ns'[k]=a:=⟨_,rfl⟩
        have hp:ns'[k]? = some a:=by rw[List.getElem?_eq_getElem hkl,hak]
        have hA:=HR.out.mem.each a (by rw[←hak];exact List.getElem_mem hkl);have c2:=ht.c2;have cn:=ht.now k hkl;have cw:=ht.was k hkl;rw[hak] at cn cw;have w1:=ht.w1;have w2:=ht.w2;unfold maxLen at w2;have hgw:Zm wr bm=some gw:=by unfold Zm;rw[c2];rfl
        obtain ⟨cur,hcur⟩:=HR.out.mem.was_kind hgw;have HSL:Hid (BSl wr a.now a.xs):=hA.now.sl hA.bx;have hL24:a.xs.length≤16777216:=by have:=hA.lx;have:=hA.ok.s1;omega
        obtain ⟨A,capA,hAn⟩:=ZBg hA.now;obtain ⟨wv,hwv⟩:∃wv,a.was=wv:=⟨_,rfl⟩
        rw[hwv] at cw;rw[hAn] at cn HSL;have HCUR:=Zh hcur;have HP:=Zh hp;have HGW:=Zh hgw;have hgwlt:=hcur.lt;have hbmlt:bm<wr.heap.size:=cell_lt (a:=⟨bm,1,none⟩) c1;have hgnlt:gn<wr.heap.size:=cell_lt (a:=⟨gn,k,none⟩) cn;have hbmgw:bm≠gw:=by obtain ⟨lv,nv,wv,hbx,_⟩:=HR.out.mem.top;exact hbx.ne_ hcur (by decide)
        have hgngw:gn≠gw:=by
          obtain ⟨lv,nv,wvv,hbx,_,_,_,hd⟩:=HR.out.mem.top;have q1:wr.cell? ⟨bm,1,none⟩=some nv:=by rw[hbx.cell];rfl
          have q2:wr.cell? ⟨bm,2,none⟩=some wvv:=by rw[hbx.cell];rfl
          rw[c1] at q1;rw[c2] at q2;have q3:=Option.some.inj q1;have q4:=Option.some.inj q2;intro e;exact hd gn (by rw[←q3];rfl) (by rw[←q4,e];rfl)
        have hwr1:wr.drew.heap.size=wr.heap.size:=rfl;have HRD:=Zh HR.out.drew;have HSLD:Hid (BSl wr.drew (.slice A a.xs.length capA) a.xs):=HSL.out.below ((Below.refl _ _).drew);have HCWD:Hid (wr.drew.cell? ⟨gw,k,none⟩=some wv):=cw;have HCURD:Hid (Blk wr.drew gw 32 cur):=HCUR.out;clear ht hp hak hA hAn hwv hcur hgw hlen hwr1;have e1:(0:Int)≤(k:Int):=by omega
        have e2:(k:Int)<((N:Nat):Int):=by omega
        go_wp2_with fail
        go_region_held3 (fun w'=>w'.cell? ⟨bm,1,none⟩=some (.slice (some ⟨gn,0,none⟩) N capn)∧w'.cell? ⟨bm,2,none⟩=some (.slice (some ⟨gw,0,none⟩) N capw)∧w'.cell? ⟨gn,k,none⟩=some (.slice A a.xs.length capA)) (first|go_keep|exact ⟨t1,t2,t3⟩)
          (first | (go_at_call 30;refine (ZG4 _ _ _ HSLD.out (by omega)).mono ?_;rintro e wz ⟨v,rfl,ho,hb2⟩;obtain ⟨hv1,hv2⟩:=ZF6 ho;obtain ⟨Av,capv,rfl⟩:=ZBg hv1
                    have d1:wz.cell? ⟨gw,k,none⟩=some wv:=(hb2.cell (p:=⟨gw,k,none⟩) HCURD.out.lt).trans HCWD.out;have d2:wz.frozen? ⟨gw,k,none⟩=false:=(HCURD.out.below hb2 HCURD.out.lt).frozen k;have s1:wz.cell? ⟨bm,1,none⟩=some (.slice (some ⟨gn,0,none⟩) N capn):=(hb2.cell (p:=⟨bm,1,none⟩) hbmlt).trans c1;have s2:wz.cell? ⟨bm,2,none⟩=some (.slice (some ⟨gw,0,none⟩) N capw):=(hb2.cell (p:=⟨bm,2,none⟩) hbmlt).trans c2;have s3:wz.cell? ⟨gn,k,none⟩=some (.slice A a.xs.length capA):=(hb2.cell (p:=⟨gn,k,none⟩) hgnlt).trans cn;have t1:=(World.cell?_of_block (a:=⟨bm,1,none⟩) (Below.heap_setCell wz ⟨gw,k,none⟩ (.slice Av a.xs.length capv) bm hbmgw)).trans s1;have t2:=(World.cell?_of_block (a:=⟨bm,2,none⟩) (Below.heap_setCell wz ⟨gw,k,none⟩ (.slice Av a.xs.length capv) bm hbmgw)).trans s2;have t3:=(World.cell?_of_block (a:=⟨gn,k,none⟩) (Below.heap_setCell wz ⟨gw,k,none⟩ (.slice Av a.xs.length capv) gn hgngw)).trans s3;obtain ⟨ns2,hns2⟩:=HRD.out.step HP.out hb2 hv1 hv2 (HRD.out.was.trans (HR.out.was.symm.trans HGW.out));have HNS2:=Zh hns2;clear ho hb2 hv1 hv2 hns2))
        go_wp2_with fail
        go_roundw
        case rel=>exact ⟨k+1,ns2,by omega,by go_num,HNS2.out⟩
        case measure=>simp[intOf];omega
      · have HFIN:Hid (ZDf bm ns w (.returned (.tuple #[])) wr):=by
          refine ⟨rfl,ns',HR.out.mem,?_,HR.out.keeps,HR.out.rows,HR.out.was⟩;rw[HR.out.key,ZJp ns (by rw[HN.out];omega)]
        clear ht;go_wp2_with fail
        go_end0
        exact HFIN.out
  · obtain rfl:ns=[]:=by cases ns with|nil=>rfl|cons=>simp at hpos
    obtain ⟨A1,k1,A2,k2,A3,k3,c0,c1,c2⟩:=HM.out.none_;have HFIN:Hid (ZDf bm [] w (.returned (.tuple #[])) w):=⟨rfl,[],HM.out,rfl,ZE.refl _ _,fun g hg=>Or.inl hg,rfl⟩
    clear hpos;go_enter Tryz.func36,Tryz.ntmps36
    go_wp2_with fail
    go_loop [2] (fun i=>i=.int .i64 0) (fun _=>0)
    case atStart=>rfl
    case round=>
      subst hrel;go_wp2_with fail
      go_end0
      exact HFIN.out
theorem ZBX {pre rest:List (Int×Int)} {p:Int} (h:∀g∈pre,g.1+g.2<p):rput (pre++rest) p=pre++rput rest p:=by
 induction pre with
 | nil=>rfl
 | cons g pre ih=>
  obtain ⟨f,s⟩:=g;have h1:f+s<p:=h (f,s) (by simp);rw[List.cons_append,rput.eq_def];dsimp only;rw[if_pos h1,ih (fun x hx=>h x (by simp[hx]))]
  rfl
theorem ZFa {f s p:Int} {rest:List (Int×Int)} (h:f+s=p) (h2:∀f' s' r',rest=(f',s')::r'→f'≠p+1):rput ((f,s)::rest) p=(f,s+1)::rest:=by
 rw[rput.eq_def];dsimp only;rw[if_neg (by omega),if_pos h]
 cases rest with
 | nil=>rfl
 | cons g r=>
  obtain ⟨f',s'⟩:=g;dsimp only;rw[if_neg (h2 f' s' r rfl)]
theorem ZH0 {f s p f' s':Int} {rest:List (Int×Int)} (h:f+s=p) (h2:f'=p+1):rput ((f,s)::(f',s')::rest) p=(f,s+1+s')::rest:=by
 rw[rput.eq_def];dsimp only;rw[if_neg (by omega),if_pos h,if_pos h2]
theorem ZH1 {f s p:Int} {rest:List (Int×Int)} (h1:¬f+s<p) (h2:¬f+s=p) (h3:f=p+1):rput ((f,s)::rest) p=(p,s+1)::rest:=by
 rw[rput.eq_def];dsimp only;rw[if_neg h1,if_neg h2,if_pos h3]
theorem ZGW {f s p:Int} {rest:List (Int×Int)} (h1:¬f+s<p) (h2:¬f+s=p) (h3:¬f=p+1):rput ((f,s)::rest) p=(p,1)::(f,s)::rest:=by
 rw[rput.eq_def];dsimp only;rw[if_neg h1,if_neg h2,if_neg h3]
theorem ZDS {pre rest:List (Int×Int)} {f s u:Int}:(flatG (pre++(f,s)::rest)).set (pre.length*2+1) (.int .i64 u)=flatG (pre++(f,u)::rest):=by
 rw[Zn,Zn,←ZAF pre,List.set_append_right _ _ (by omega),Nat.add_sub_cancel_left]
 rfl
theorem ZIU {pre rest:List (Int×Int)} {f s u:Int}:(flatG (pre++(f,s)::rest)).set (pre.length*2) (.int .i64 u)=flatG (pre++(u,s)::rest):=by
 rw[Zn,Zn,←ZAF pre,List.set_append_right _ _ (Nat.le_refl _),Nat.sub_self]
 rfl
theorem ZKN (gs:List (Int×Int)):∀u∈flatG gs,u.oneCell'=true:=by
 intro u hu;unfold flatG at hu;obtain ⟨g,_,hu⟩:=List.mem_flatMap.1 hu
 simp at hu
 rcases hu with rfl|rfl<;>rfl
theorem ZER (pre rest:List (Int×Int)):(flatG (pre++rest)).take (pre.length*2)=flatG pre:=by
 rw[Zn,←ZAF pre,List.take_left]
theorem ZDT (pre rest:List (Int×Int)) (j:Nat):(flatG rest)[j]? = (flatG (pre++rest))[pre.length*2+j]?:=by
 rw[Zn,List.getElem?_append_right (by rw[ZAF];omega),ZAF,Nat.add_sub_cancel_left]
theorem ZBy {w:World} {B g n cap:Nat} {xs ys:List (Int×Int)} (hown:w.ownsRow B 140 2 (.slice (some ⟨g,0,none⟩) n cap) n (flatG xs)) (ad:Addr) (m c:Nat) (hm:ys.length=m)
  (hc:∀j u,(flatG ys)[j]? = some u→w.cell? (ad.add j)=some u) (hb:(n+m)≤536870912) (hB:B≤w.heap.size) :
  ∃g' cap' w',(Builtin.append_ #[71,71] 71 #[.slice (some ⟨g,0,none⟩) n cap,.slice (some ad) m c]).run Tryz.prog w=.ok (.slice (some ⟨g',0,none⟩) (n+m) cap') w'∧
   w'.ownsRow B 140 2 (.slice (some ⟨g',0,none⟩) (n+m) cap') (n+m) (flatG (xs++ys))∧ZE (fun k=>k=g) w w':=by
 obtain ⟨i0,hi,hz0,hz1,hz2⟩:=info_parts info40f;obtain ⟨v',w2,hap,ho,hg,hnn⟩:=run_append_own (P:=Tryz.prog) w B 71 71 140 i0 (.agg #[.int .i64 0,.int .i64 0]) 2 16 Tryz.underlying71 hi hz0 hz1 hz2 rfl (by decide) _ n (flatG xs) hown ad m c (flatG ys) (by rw[ZAF,hm])
  hc (ZKN _) (by unfold maxLen;omega) (by omega) hB
 rw[←Zn] at ho
 rcases ho.2 with ⟨h0,_⟩|⟨g',cap',cur,hv,_⟩
 ·rw[hnn] at h0
  cases h0.1
 ·subst hv
  refine ⟨g',cap',w2,hap,ho,⟨hg.os,hg.tape,hg.output,hg.size,fun k hk hne=>hg.block k hk (fun e=>hne ?_)⟩⟩
  simpa[Value.ownBlock] using e
theorem ZBx {wd:World} {B g cap N k m c:Nat} {pre rest:List (Int×Int)} {p:Int} (ho:wd.ownsRow B 140 2 (.slice (some ⟨g,0,none⟩) N cap) N (flatG (pre++rest))) (hpl:pre.length=k) (hm:rest.length=m) (hB:B≤wd.heap.size) (hb:k+m≤268435456) (hkN:k≤N)
  (ad:Addr) (hc:∀j u,(flatG rest)[j]? = some u→wd.cell? (ad.add j)=some u) :
  ∃g1 cap1 w1 g2 cap2 w2,(Builtin.append_ #[71,71] 71 #[.slice (some ⟨wd.heap.size,0,none⟩) 1 1,.slice (some ad) m c]).run Tryz.prog (wd.alloc (.cells #[.int .i64 p,.int .i64 1] 140))=.ok (.slice (some ⟨g1,0,none⟩) (1+m) cap1) w1∧
   (Builtin.append_ #[71,71] 71 #[.slice (some ⟨g,0,none⟩) k cap,.slice (some ⟨g1,0,none⟩) (1+m) cap1]).run Tryz.prog w1=.ok (.slice (some ⟨g2,0,none⟩) (k+(1+m)) cap2) w2∧
   w2.ownsRow B 140 2 (.slice (some ⟨g2,0,none⟩) (k+(1+m)) cap2) (k+(1+m)) (flatG (pre++(p,1)::rest))∧ZE (fun k=>B≤k) wd w2:=by
 have hgp:=Zc ho;have hlit:=World.ownsRow_lit (base:=wd.heap.size) (e:=140) (size:=2) wd #[.int .i64 p,.int .i64 1] 1 (Nat.le_refl _) (by decide) rfl;have hlit':(wd.alloc (.cells #[.int .i64 p,.int .i64 1] 140)).ownsRow wd.heap.size 140 2 (.slice (some ⟨wd.heap.size,0,none⟩) 1 1) 1 (flatG [(p,1)]):=hlit;obtain ⟨g1,cap1,w1,hr1,ho1,hk1⟩:=ZBy hlit' ad m c hm (fun j u hj=>by have:=hc j u hj;rw[World.cell?_alloc_lt _ _ _ (cell_lt this)];exact this) (by omega) (by simp);have hka:ZE (fun k=>B≤k) wd w1:=((ZE.refl (fun k=>B≤k) wd).alloc _).trans hk1 (fun i hi e=>by omega);have hkf:ZE (fun k=>k=wd.heap.size) wd w1:=((ZE.refl (fun k=>k=wd.heap.size) wd).alloc _).trans hk1 (fun i hi e=>e);have hog:=ZB ho hkf (fun g' hg' e=>by
  have:g'=g:=by simpa[Value.ownBlock] using hg'.symm
  omega)
 have hot:=ZEi hog hkN
 rw[←hpl,ZER,hpl] at hot
 obtain ⟨_,_,_,_,hcc,_⟩:=Zc ho1;obtain ⟨g2,cap2,w2,hr2,ho2,hk2⟩:=ZBy hot ⟨g1,0,none⟩ (1+m) cap1 (ys:=[(p,1)]++rest) (by simp[hm];omega) (fun j u hj=>by rw[addr_add,Nat.zero_add];exact hcc j u hj) (by omega) (Nat.le_trans hB hkf.size);exact ⟨g1,cap1,w1,g2,cap2,w2,hr1,hr2,ho2,hka.trans hk2 (fun i hi e=>by subst e;exact hgp.1)⟩
end Go.Proofs.YtggmkofbikafhaaGreatDoor
