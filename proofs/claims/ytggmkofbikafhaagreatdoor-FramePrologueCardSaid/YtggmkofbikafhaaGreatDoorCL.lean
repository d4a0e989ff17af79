/- Walks and plain laws on the way to FramePrologue (CL). Conditions: those that each theorem states. -/
import Derived.Test.YtggmkofbikafhaaGreatDoorXW
set_option linter.unusedVariables false
set_option linter.unusedSimpArgs false
set_option maxRecDepth 100000
set_option maxHeartbeats 40000000
namespace Go.Proofs.YtggmkofbikafhaaGreatDoor
open Go.RowKit Go.Lib
theorem und_bbs:Tryz.prog.underlying 107=some (.slice 32):=by kernel_rfl
theorem inf_bb:(Tryz.prog.info? 32).map (fun i=>(i.zero,i.size,i.bytes))=some (some (.slice none 0 0),1,24):=by kernel_rfl
theorem arowBB:ZHl 107 32 1 24:=ZAy und_bbs inf_bb rfl (by decide)
structure CLo (w W:World) (gc:Nat) (lv nv wv:Value) (k1 k2:Nat):Prop where
 b:Blk W gc 122 #[lv,nv,wv]
 n:∃xs,W.ownsRow w.heap.size 32 1 nv k1 xs
 ow:∃xs,W.ownsRow w.heap.size 32 1 wv k2 xs
 d:∀g,nv.ownBlock=some g→wv.ownBlock≠some g
 be:Below w.heap.size w W
 ge:w.heap.size≤gc
theorem CLo.below {w W W':World} {gc:Nat} {lv nv wv:Value} {k1 k2:Nat} (h:CLo w W gc lv nv wv k1 k2) (hb:Below W.heap.size W W'):CLo w W' gc lv nv wv k1 k2:=by
 obtain ⟨xs,hx⟩:=h.n;obtain ⟨ys,hy⟩:=h.ow;exact ⟨h.b.below hb h.b.lt,⟨xs,ZB hx (ZC (fun _=>False) hb) (fun _ _=>id)⟩,⟨ys,ZB hy (ZC (fun _=>False) hb) (fun _ _=>id)⟩,h.d,h.be.trans (ZA hb h.be.size),h.ge⟩
theorem CLo.push1 {w W:World} {gc:Nat} {lv nv wv:Value} {k1 k2:Nat} (h:CLo w W gc lv nv wv k1 k2) (av:Value) (h1:av.oneCell'=true) (hk:k1≤100) :
  ∃A c W2,(Builtin.append_ #[107,107] 107 #[nv,.slice (some ⟨W.heap.size,0,none⟩) 1 1]).run Tryz.prog (W.alloc (.cells #[av] 32))=.ok (.slice A (k1+1) c) W2∧CLo w (W2.setCell ⟨gc,1,none⟩ (.slice A (k1+1) c)) gc lv (.slice A (k1+1) c) wv (k1+1) k2∧(∀(p:Addr) (v:Value),p.block<w.heap.size∨p.block=gc→W.cell? p=some v→W2.cell? p=some v)∧W2.frozen? ⟨gc,1,none⟩=false:=by
 obtain ⟨xs,hx⟩:=h.n;obtain ⟨ys,hy⟩:=h.ow;have ha:=ZV W (.cells #[av] 32);have hx1:=ZB hx (ZC (fun _=>False) ha) (fun _ _=>id);have hu:RowOf (W.alloc (.cells #[av] 32)) (.slice (some ⟨W.heap.size,0,none⟩) 1 1) 1 [av]:=by
  refine ⟨_,_,rfl,Nat.le_refl _,by decide,fun _=>⟨_,0,rfl,by simp[World.size_alloc],fun j u hj=>?_⟩⟩;rw[Nat.zero_add,(Blk.new W _ _).cell]
  simpa using hj
 obtain ⟨v',W2,e1,e2,e3,e4⟩:=app_any arowBB 107 hx1 hu (by simp) (by simpa using h1) (by unfold maxLen;omega) (by omega) (by have:=h.be.size;simp[World.size_alloc];omega);obtain ⟨A,c,rfl,-,-⟩:=slice_form e2;have hk2:ZE (fun g=>nv.ownBlock=some g) W W2:=(((ZE.refl (fun g=>nv.ownBlock=some g) W).alloc _).trans ((ZE.refl _ _).grown e3 (fun g hg=>Or.inr hg)) (fun _ _ h=>h))
 have hng:¬nv.ownBlock=some gc:=fun e=>by
  obtain ⟨cu,hcu⟩:=ZI hx e;exact absurd (hcu.kind h.b) (by decide)
 have hb2:Blk W2 gc 122 #[lv,nv,wv]:=h.b.keeps hk2 hng;have hy2:=ZB hy hk2 (fun g hg e=>h.d g e hg);have hk3:ZE (fun g=>g=gc) W2 (W2.setCell ⟨gc,1,none⟩ (.slice A (k1+1) c)):=(ZE.refl (fun g=>g=gc) W2).setCell (p:=⟨gc,1,none⟩) (Or.inr rfl) _;have hno:∀g,wv.ownBlock=some g→¬g=gc:=fun g hg e=>by
  subst e;obtain ⟨cu,hcu⟩:=ZI hy hg;exact absurd (hcu.kind h.b) (by decide)
 have hnn:∀g,(Value.slice A (k1+1) c).ownBlock=some g→¬g=gc:=fun g hg e=>by
  subst e;obtain ⟨cu,hcu⟩:=ZI e2 hg;exact absurd (hcu.kind hb2) (by decide)
 have hB:W2.heap.size≥W.heap.size:=hk2.size;have hd2:∀g,(Value.slice A (k1+1) c).ownBlock=some g→wv.ownBlock≠some g:=fun g hg e=>by
  rcases e4 with e4|e4
  ·rw[e4] at hg
   exact h.d g hg e
  ·rw[e4] at hg
   injection hg with hg
   have:=ZFe hy g e;simp[World.size_alloc] at hg;omega
 refine ⟨A,c,W2,e1,⟨hb2.set_ 1 _,⟨_,ZB e2 hk3 hnn⟩,⟨_,ZB hy2 hk3 hno⟩,hd2,?_,h.ge⟩,fun p v hp hv=>?_,hb2.frozen 1⟩
 ·refine (h.be.trans (hk2.toBelow h.be.size (fun g hg e=>?_))).trans (hk3.toBelow (by have:=h.be.size;omega) (fun g hg e=>by have:=h.ge;omega))
  have:=ZAB hx e;omega
 ·refine (hk2.cell (cell_lt hv) (fun e=>?_)).trans hv
  rcases hp with hp|hp
  ·have:=ZAB hx e
   omega
  ·rw[hp] at e
   exact hng e
theorem CLo.push2 {w W:World} {gc:Nat} {lv nv wv:Value} {k1 k2:Nat} (h:CLo w W gc lv nv wv k1 k2) (av:Value) (h1:av.oneCell'=true) (hk:k2≤100) :
  ∃A c W2,(Builtin.append_ #[107,107] 107 #[wv,.slice (some ⟨W.heap.size,0,none⟩) 1 1]).run Tryz.prog (W.alloc (.cells #[av] 32))=.ok (.slice A (k2+1) c) W2∧CLo w (W2.setCell ⟨gc,2,none⟩ (.slice A (k2+1) c)) gc lv nv (.slice A (k2+1) c) k1 (k2+1)∧(∀(p:Addr) (v:Value),p.block<w.heap.size∨p.block=gc→W.cell? p=some v→W2.cell? p=some v)∧W2.frozen? ⟨gc,2,none⟩=false:=by
 obtain ⟨xs,hx⟩:=h.ow;obtain ⟨ys,hy⟩:=h.n;have ha:=ZV W (.cells #[av] 32);have hx1:=ZB hx (ZC (fun _=>False) ha) (fun _ _=>id);have hu:RowOf (W.alloc (.cells #[av] 32)) (.slice (some ⟨W.heap.size,0,none⟩) 1 1) 1 [av]:=by
  refine ⟨_,_,rfl,Nat.le_refl _,by decide,fun _=>⟨_,0,rfl,by simp[World.size_alloc],fun j u hj=>?_⟩⟩;rw[Nat.zero_add,(Blk.new W _ _).cell]
  simpa using hj
 obtain ⟨v',W2,e1,e2,e3,e4⟩:=app_any arowBB 107 hx1 hu (by simp) (by simpa using h1) (by unfold maxLen;omega) (by omega) (by have:=h.be.size;simp[World.size_alloc];omega);obtain ⟨A,c,rfl,-,-⟩:=slice_form e2;have hk2:ZE (fun g=>wv.ownBlock=some g) W W2:=(((ZE.refl (fun g=>wv.ownBlock=some g) W).alloc _).trans ((ZE.refl _ _).grown e3 (fun g hg=>Or.inr hg)) (fun _ _ h=>h))
 have hng:¬wv.ownBlock=some gc:=fun e=>by
  obtain ⟨cu,hcu⟩:=ZI hx e;exact absurd (hcu.kind h.b) (by decide)
 have hb2:Blk W2 gc 122 #[lv,nv,wv]:=h.b.keeps hk2 hng;have hy2:=ZB hy hk2 (fun g hg e=>(fun g hg e=>h.d g e hg) g e hg);have hk3:ZE (fun g=>g=gc) W2 (W2.setCell ⟨gc,2,none⟩ (.slice A (k2+1) c)):=(ZE.refl (fun g=>g=gc) W2).setCell (p:=⟨gc,2,none⟩) (Or.inr rfl) _;have hno:∀g,nv.ownBlock=some g→¬g=gc:=fun g hg e=>by
  subst e;obtain ⟨cu,hcu⟩:=ZI hy hg;exact absurd (hcu.kind h.b) (by decide)
 have hnn:∀g,(Value.slice A (k2+1) c).ownBlock=some g→¬g=gc:=fun g hg e=>by
  subst e;obtain ⟨cu,hcu⟩:=ZI e2 hg;exact absurd (hcu.kind hb2) (by decide)
 have hB:W2.heap.size≥W.heap.size:=hk2.size;have hd2:∀g,(Value.slice A (k2+1) c).ownBlock=some g→nv.ownBlock≠some g:=fun g hg e=>by
  rcases e4 with e4|e4
  ·rw[e4] at hg
   exact (fun g hg e=>h.d g e hg) g hg e
  ·rw[e4] at hg
   injection hg with hg
   have:=ZFe hy g e;simp[World.size_alloc] at hg;omega
 refine ⟨A,c,W2,e1,⟨hb2.set_ 2 _,⟨_,ZB hy2 hk3 hno⟩,⟨_,ZB e2 hk3 hnn⟩,fun g hg e=>hd2 g e hg,?_,h.ge⟩,fun p v hp hv=>?_,hb2.frozen 2⟩
 ·refine (h.be.trans (hk2.toBelow h.be.size (fun g hg e=>?_))).trans (hk3.toBelow (by have:=h.be.size;omega) (fun g hg e=>by have:=h.ge;omega))
  have:=ZAB hx e;omega
 ·refine (hk2.cell (cell_lt hv) (fun e=>?_)).trans hv
  rcases hp with hp|hp
  ·have:=ZAB hx e
   omega
  ·rw[hp] at e
   exact hng e
theorem ZH5 (bm:Nat) (ns:List Area) (w:World) (hm:ZW w bm ns) (hpos:0<ns.length):Calls Tryz.prog 13 #[.pointer (some ⟨bm,0,none⟩)] w fun e w'=>(∃g,e=.returned (.pointer (some ⟨g,0,none⟩)))∧Below w.heap.size w w':=by
 obtain ⟨gl,gn,gw,capl,capn,capw,ht⟩:=hm.open_ hpos;have HT:=Zh ht;have HM:=Zh hm;obtain ⟨n,hn⟩:∃n,ns.length=n:=⟨_,rfl⟩
 have HN:=Zh hn;have hn16:n≤16:=by rw[←hn];exact hm.few
 have HLT:=Zh (show bm<w.heap.size∧gn<w.heap.size∧gw<w.heap.size from ⟨cell_lt ht.c0,cell_lt (ht.now 0 hpos),cell_lt (ht.was 0 hpos)⟩);have t0:=ht.c0;have t1:=ht.c1;have hl1:=ht.l1;have hl2:=ht.l2;rw[hn] at HT t0 t1 hl1
 -- the copied ranges
 obtain ⟨lv0,nv0,wv0,hb0,hl0,-,-,-⟩:=hm.top;have hlv:lv0=.slice (some ⟨gl,0,none⟩) n capl:=by
  have h1:=hb0.cell 0;rw[t0] at h1
  simpa using h1.symm
 rw[hn] at hl0;subst hlv;have ha:=ZV w (.cells #[] 42);obtain ⟨v',W1,e1,e2,e3,e4⟩:=app_any arowR 43 (ZAT (w:=w) 42 5) (RowOf.own (ZB hl0 (ZC (fun _=>False) ha) (fun _ _=>id))) (by rw[ZAZ (fun a:Area=>a.r.cells) 5 (fun _=>rfl),hn]) (by
  intro y hy;obtain ⟨x,-,hx⟩:=List.mem_flatMap.1 hy;exact ZJM x.r y hx) (by unfold maxLen;omega) (by omega) (by simp[World.size_alloc])
 rw[Nat.zero_add] at e2;obtain ⟨Al,cl,rfl,-,-⟩:=slice_form e2;have hbW1:Below w.heap.size w W1:=ha.trans (((ZE.refl (fun k=>k=w.heap.size) _).grown e3 (fun g hg=>Or.inr (by cases hg;rfl))).toBelow (by simp[World.size_alloc]) (fun k hk e=>by omega));have HAP:=Zh e1;have H1:=Zh hbW1;have t0':=ZJ t0 (.cells #[] 42);clear ht hm hl0 hb0 ha e1 e2 e3 e4 hbW1 hn t1 t0;go_enter Tryz.func13,Tryz.ntmps13
 go_wp2_with (at_builtin;go_loud (refine ZK (by rfl) (.tmp 5) (.tmp 9) 43 (by rfl) (by rfl) (by rfl) HAP.out ?_))
 clear HAP t0' hl1 hl2;obtain ⟨gc,hgc⟩:∃gc,W1.heap.size=gc:=⟨_,rfl⟩
 have HC0:Hid (CLo w (W1.alloc (.cells #[.slice Al n cl,.slice none 0 0,.slice none 0 0] 122)) gc (.slice Al n cl) (.slice none 0 0) (.slice none 0 0) 0 0):=
  ⟨by rw[←hgc];exact Blk.new W1 _ _,⟨[],World.ownsRow_nil _ _ _ _⟩,⟨[],World.ownsRow_nil _ _ _ _⟩,fun g hg=>by simp[Value.ownBlock] at hg,H1.out.trans (ZA (ZV _ _) H1.out.size),by have:=H1.out.size;omega⟩
 obtain ⟨W2,hW2⟩:∃W2,W1.alloc (.cells #[.slice Al n cl,.slice none 0 0,.slice none 0 0] 122)=W2:=⟨_,rfl⟩
 rw[hW2] at HC0 ⊢;obtain ⟨lv,hlv⟩:∃lv,Value.slice Al n cl=lv:=⟨_,rfl⟩
 rw[hlv] at HC0;try rw[hgc]
 clear hW2 H1 hgc;have HLV:=Zh hlv;clear hlv
 go_loopw [4] (fun iv W=>∃k:Nat,k≤n∧iv=.int .i64 k∧∃A1 c1 A2 c2,Hid (CLo w W gc lv (.slice A1 k c1) (.slice A2 k c2) k k)) (fun iv _=>n-(Go.RowKit.intOf iv).toNat)
 case atStart=>exact ⟨0,by omega,rfl,_,_,_,_,HC0.out⟩
 case round=>
  clear HC0;obtain ⟨k,hk,rfl,A1,c1,A2,c2,HC⟩:=hrel;have t1:wr.cell? ⟨bm,1,none⟩=some (.slice (some ⟨gn,0,none⟩) n capn):=(HC.out.be.cell (cell_lt HT.out.c1)).trans HT.out.c1;rcases Nat.lt_or_ge k n with hlt|hge
  ·have hkl:k<ns.length:=by rw[HN.out];exact hlt
   obtain ⟨a,hka⟩:∃a,ns[k]=a:=⟨_,rfl⟩
   have hma:a∈ns:=by rw[←hka];exact List.getElem_mem hkl
   have hea:=HM.out.each a hma;have hxl:a.xs.length≤16777216:=by have:=hea.lx;have:=hea.ok.s1;omega
   have hyl:a.ys.length≤16777216:=by have:=hea.ly;have:=hea.ok.s1;omega
   have HBY1:Hid (∀W,Below w.heap.size w W→Calls Tryz.prog 30 #[a.now] W (ZDg a.xs W)):=fun W hW=>ZG4 a.now a.xs W ((hea.now.sl hea.bx).below hW) (by omega);have HBY2:Hid (∀W,Below w.heap.size w W→Calls Tryz.prog 30 #[a.was] W (ZDg a.ys W)):=fun W hW=>ZG4 a.was a.ys W ((hea.was.sl hea.bY).below hW) (by omega);have hkI:(k:Int)<(n:Int):=by omega
   obtain ⟨Aa,ca,hnow,-,-,-⟩:=hea.now;obtain ⟨Ab,cb,hwas,-,-,-⟩:=hea.was;rw[hnow] at HBY1;rw[hwas] at HBY2;clear hma hea;go_upto_region 5 with fail
   have hS00:(fun W:World=>W.cell? ⟨gc,1,none⟩=some (.slice A1 k c1)∧W.cell? ⟨bm,1,none⟩=some (.slice (some ⟨gn,0,none⟩) n capn)∧W.cell? ⟨gn,k,none⟩=some a.now) wr.drew:=⟨(show wr.cell? _=_ from HC.out.b.cellq rfl),(show wr.cell? _=_ from (HC.out.be.cell (cell_lt HT.out.c1)).trans HT.out.c1),(show wr.cell? _=_ from (HC.out.be.cell (cell_lt (HT.out.now k hkl))).trans (by rw[HT.out.now k hkl,hka]))⟩
   have HD1:Hid (CLo w wr.drew gc lv (.slice A1 k c1) (.slice A2 k c2) k k):=HC.out.below (ZAO (Below.refl _ _));clear HC;refine Zk (S:=(fun W:World=>W.cell? ⟨gc,1,none⟩=some (.slice A1 k c1)∧W.cell? ⟨bm,1,none⟩=some (.slice (some ⟨gn,0,none⟩) n capn)∧W.cell? ⟨gn,k,none⟩=some a.now)) 17 (by kernel_rfl) hS00 (fun hS0=>?_);clear hS00;generalize wr.drew=V1 at HD1 hS0 ⊢;refine TE 0 0 rfl ?_;simp only[AP];refine TE 1 1 rfl ?_;simp only[AP];refine TE 2 2 rfl ?_;simp only[AP];refine TE 3 3 rfl ?_;simp only[AP];refine TE 4 4 rfl ?_;simp only[AP];refine TE 5 5 rfl ?_;simp only[AP];refine TE 6 6 rfl ?_;simp only[AP];refine TE 7 7 rfl ?_;simp only[AP];refine TE 8 8 rfl ?_;simp only[AP];refine TE 9 9 rfl ?_;simp only[AP];refine TE 10 10 rfl ?_;simp only[AP];refine TE 11 11 rfl ?_;simp only[AP];refine ZH (rs:=[12]) (by kernel_rfl) (by simp) ?_;refine ZG.cons rfl (fun K hK=>?_) ZG.nil;go_simp;go_at_call 30;refine (HBY1.out _ HD1.out.be).mono ?_;rintro e U1 ⟨v6,rfl,ho6,hb6⟩;obtain ⟨A6,c6,rfl,-,-⟩:=slice_form ho6;clear ho6;have HE1:=Zh (HD1.out.below hb6);obtain ⟨A3,c3,X1,hrun,hcl,hcell,hfz⟩:=HE1.out.push1 (.slice A6 a.xs.length c6) rfl (by omega);have HRUN:=Zh hrun;have HCL:=Zh hcl;have HFZ:=Zh hfz;have HCELL:=Zh hcell;clear hrun hcl hfz hcell;try go_simp
   refine hK.out _ _ (fun _=>(show _∧_∧_ from ⟨(hb6.cell (cell_lt hS0.1)).trans hS0.1,(hb6.cell (cell_lt hS0.2.1)).trans hS0.2.1,(hb6.cell (cell_lt hS0.2.2)).trans hS0.2.2⟩)) (fun hSq=>?_);have hSa:=hSq (by decide);clear hSq hK K hb6 hS0 HD1;try simp only[AP]
   refine ZH (rs:=[13]) (by kernel_rfl) (by simp) ?_;refine ZG.cons rfl (fun K hK=>?_) ZG.nil;go_simp;refine hK.out _ _ (fun _=>(show _∧_∧_ from ⟨ZJ hSa.1 _,ZJ hSa.2.1 _,ZJ hSa.2.2 _⟩)) (fun hSq=>?_);clear hSq hK K;try simp only[AP]
   refine ZH (rs:=[14]) (by kernel_rfl) (by simp) ?_;refine ZG.cons rfl (fun K hK=>?_) ZG.nil;refine ZL (by rfl) (.tmp 26) (.tmp 35) 107 (by rfl) (by rfl) (by rfl) HRUN.out ?_;have hS1:(fun W:World=>W.cell? ⟨gc,1,none⟩=some (.slice A1 k c1)∧W.cell? ⟨bm,1,none⟩=some (.slice (some ⟨gn,0,none⟩) n capn)∧W.cell? ⟨gn,k,none⟩=some a.now) X1:=⟨HCELL.out _ _ (Or.inr rfl) hSa.1,HCELL.out _ _ (Or.inl HLT.out.1) hSa.2.1,HCELL.out _ _ (Or.inl HLT.out.2.1) hSa.2.2⟩
   refine hK.out _ _ (fun _=>hS1) (fun _=>?_);clear hK K hSa HRUN HCELL;try simp only[AP]
   refine ZH (rs:=[15]) (by kernel_rfl) (by simp) ?_;refine ZG.cons rfl (fun K hK=>?_) ZG.nil;go_simp;refine hK.out _ _ (fun _=>hS1) (fun _=>?_);clear hK K;try simp only[AP]
   refine ZH (rs:=[16]) (by kernel_rfl) (by simp) ?_;refine ZG.cons rfl (fun K hK=>?_) ZG.nil;go_simp;refine hK.out _ _ (fun _=>hS1) (fun _=>?_);clear hK K;try simp only[AP]
   have hct:=hS1.1;have hfl2:=HFZ.out;refine ZH (rs:=[17]) (by kernel_rfl) (by simp) ?_;refine ZG.cons rfl (fun K hK=>?_) ZG.nil;go_simp;refine hK.out _ _ (fun h=>absurd rfl h) (fun _=>?_);clear hK K;try simp only[AP]
   refine ZAL (by kernel_rfl) ?_ _;clear hct hfl2 hS1 HFZ HE1;obtain ⟨W3,hW⟩:∃W3,X1.setCell ⟨gc,1,none⟩ (.slice A3 (k+1) c3)=W3:=⟨_,rfl⟩
   have HC3:Hid (CLo w W3 gc lv (.slice A3 (k+1) c3) (.slice A2 k c2) (k+1) k):=by rw[←hW];exact HCL.out
   rw[hW];clear hW HCL;go_upto_region 6 with fail
   have hS00:(fun W:World=>W.cell? ⟨gc,2,none⟩=some (.slice A2 k c2)∧W.cell? ⟨bm,2,none⟩=some (.slice (some ⟨gw,0,none⟩) n capw)∧W.cell? ⟨gw,k,none⟩=some a.was) W3.drew:=⟨(show W3.cell? _=_ from HC3.out.b.cellq rfl),(show W3.cell? _=_ from (HC3.out.be.cell (cell_lt HT.out.c2)).trans HT.out.c2),(show W3.cell? _=_ from (HC3.out.be.cell (cell_lt (HT.out.was k hkl))).trans (by rw[HT.out.was k hkl,hka]))⟩
   have HD2:Hid (CLo w W3.drew gc lv (.slice A3 (k+1) c3) (.slice A2 k c2) (k+1) k):=HC3.out.below (ZAO (Below.refl _ _));clear HC3;refine Zk (S:=(fun W:World=>W.cell? ⟨gc,2,none⟩=some (.slice A2 k c2)∧W.cell? ⟨bm,2,none⟩=some (.slice (some ⟨gw,0,none⟩) n capw)∧W.cell? ⟨gw,k,none⟩=some a.was)) 17 (by kernel_rfl) hS00 (fun hS0=>?_);clear hS00;generalize W3.drew=V2 at HD2 hS0 ⊢;refine TE 0 0 rfl ?_;simp only[AP];refine TE 1 1 rfl ?_;simp only[AP];refine TE 2 2 rfl ?_;simp only[AP];refine TE 3 3 rfl ?_;simp only[AP];refine TE 4 4 rfl ?_;simp only[AP];refine TE 5 5 rfl ?_;simp only[AP];refine TE 6 6 rfl ?_;simp only[AP];refine TE 7 7 rfl ?_;simp only[AP];refine TE 8 8 rfl ?_;simp only[AP];refine TE 9 9 rfl ?_;simp only[AP];refine TE 10 10 rfl ?_;simp only[AP];refine TE 11 11 rfl ?_;simp only[AP];refine ZH (rs:=[12]) (by kernel_rfl) (by simp) ?_;refine ZG.cons rfl (fun K hK=>?_) ZG.nil;go_simp;go_at_call 30;refine (HBY2.out _ HD2.out.be).mono ?_;rintro e U2 ⟨v6,rfl,ho6,hb6⟩;obtain ⟨A6,c6,rfl,-,-⟩:=slice_form ho6;clear ho6;have HE2:=Zh (HD2.out.below hb6);obtain ⟨A4,c4,X2,hrun,hcl,hcell,hfz⟩:=HE2.out.push2 (.slice A6 a.ys.length c6) rfl (by omega);have HRUN:=Zh hrun;have HCL:=Zh hcl;have HFZ:=Zh hfz;have HCELL:=Zh hcell;clear hrun hcl hfz hcell;try go_simp
   refine hK.out _ _ (fun _=>(show _∧_∧_ from ⟨(hb6.cell (cell_lt hS0.1)).trans hS0.1,(hb6.cell (cell_lt hS0.2.1)).trans hS0.2.1,(hb6.cell (cell_lt hS0.2.2)).trans hS0.2.2⟩)) (fun hSq=>?_);have hSa:=hSq (by decide);clear hSq hK K hb6 hS0 HD2;try simp only[AP]
   refine ZH (rs:=[13]) (by kernel_rfl) (by simp) ?_;refine ZG.cons rfl (fun K hK=>?_) ZG.nil;go_simp;refine hK.out _ _ (fun _=>(show _∧_∧_ from ⟨ZJ hSa.1 _,ZJ hSa.2.1 _,ZJ hSa.2.2 _⟩)) (fun hSq=>?_);clear hSq hK K;try simp only[AP]
   refine ZH (rs:=[14]) (by kernel_rfl) (by simp) ?_;refine ZG.cons rfl (fun K hK=>?_) ZG.nil;refine ZL (by rfl) (.tmp 43) (.tmp 52) 107 (by rfl) (by rfl) (by rfl) HRUN.out ?_;have hS1:(fun W:World=>W.cell? ⟨gc,2,none⟩=some (.slice A2 k c2)∧W.cell? ⟨bm,2,none⟩=some (.slice (some ⟨gw,0,none⟩) n capw)∧W.cell? ⟨gw,k,none⟩=some a.was) X2:=⟨HCELL.out _ _ (Or.inr rfl) hSa.1,HCELL.out _ _ (Or.inl HLT.out.1) hSa.2.1,HCELL.out _ _ (Or.inl HLT.out.2.2) hSa.2.2⟩
   refine hK.out _ _ (fun _=>hS1) (fun _=>?_);clear hK K hSa HRUN HCELL;try simp only[AP]
   refine ZH (rs:=[15]) (by kernel_rfl) (by simp) ?_;refine ZG.cons rfl (fun K hK=>?_) ZG.nil;go_simp;refine hK.out _ _ (fun _=>hS1) (fun _=>?_);clear hK K;try simp only[AP]
   refine ZH (rs:=[16]) (by kernel_rfl) (by simp) ?_;refine ZG.cons rfl (fun K hK=>?_) ZG.nil;go_simp;refine hK.out _ _ (fun _=>hS1) (fun _=>?_);clear hK K;try simp only[AP]
   have hct:=hS1.1;have hfl2:=HFZ.out;refine ZH (rs:=[17]) (by kernel_rfl) (by simp) ?_;refine ZG.cons rfl (fun K hK=>?_) ZG.nil;go_simp;refine hK.out _ _ (fun h=>absurd rfl h) (fun _=>?_);clear hK K;try simp only[AP]
   refine ZAL (by kernel_rfl) ?_ _;clear hct hfl2 hS1 HFZ HE2;obtain ⟨W4,hW⟩:∃W4,X2.setCell ⟨gc,2,none⟩ (.slice A4 (k+1) c4)=W4:=⟨_,rfl⟩
   have HC4:Hid (CLo w W4 gc lv (.slice A3 (k+1) c3) (.slice A4 (k+1) c4) (k+1) (k+1)):=by rw[←hW];exact HCL.out
   rw[hW];clear hW HCL;go_wp2_with fail
   go_roundw
   case rel=>exact ⟨k+1,by omega,by go_num,_,_,_,_,HC4.out⟩
   case measure=>first|(simp[Go.RowKit.intOf];done)|(simp[Go.RowKit.intOf];omega)
  ·have:k=n:=by omega
   subst this;go_wp2_with fail
   go_ret;exact ⟨⟨_,rfl⟩,HC.out.be⟩
end Go.Proofs.YtggmkofbikafhaaGreatDoor
