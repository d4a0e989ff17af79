/- Walks and plain laws on the way to FramePrologue (MR16, MR18). Conditions: those that each theorem states. -/
import Derived.Test.YtggmkofbikafhaaGreatDoorMR15
set_option linter.unusedVariables false
set_option linter.unusedSimpArgs false
set_option maxRecDepth 100000
set_option maxHeartbeats 40000000
namespace Go.Proofs.YtggmkofbikafhaaGreatDoor
open Go.RowKit
def lBlk (w:World) (bm:Nat):Option Nat:=(w.cell? ⟨bm,0,none⟩).bind Value.ownBlock
def ZCz (rs:List Rng) (w:World) (e:Ending) (w':World):Prop:=
 Below w.heap.size w w'∧((ZAU rs≠0∧e=.returned (.tuple #[.pointer none,.int .i64 (ZAU rs)]))∨
  (ZAU rs=0∧∃bm ns,e=.returned (.tuple #[.pointer (some ⟨bm,0,none⟩),.int .i64 0])∧w.heap.size≤bm∧ZW w' bm ns∧Fresh w rs ns∧(∀g,Zm w' bm=some g→w.heap.size≤g)∧∀g,lBlk w' bm=some g→w.heap.size≤g))
structure ZFG (bm j:Nat) (lv:Value) (g o:Nat) (z:Nat) (w':World):Prop where
 top:w'.cell? ⟨bm,j,none⟩=some lv
 siz:w'.cell? ⟨g,o,none⟩=some (.int .i64 (z:Int))
theorem ZFG.alloc {bm j:Nat} {lv:Value} {g o z:Nat} {w':World} (h:ZFG bm j lv g o z w') (ob:Obj):ZFG bm j lv g o z (w'.alloc ob):=⟨ZJ h.top ob,ZJ h.siz ob⟩
theorem ZBh.wasge {w wr:World} {bm:Nat} {rs:List Rng} {lv:Value} {ns:List Area} {ex:List Value} (h:ZBh w bm rs lv ns ex wr):∀g,Zm wr bm=some g→w.heap.size≤g:=by
 obtain ⟨nv,wv,hb,hlr,hn,hw,hd⟩:=h.top;intro g hg;have e:wr.cell? ⟨bm,2,none⟩=some wv:=by rw[hb.cell];rfl
 unfold Zm at hg;rw[e] at hg;exact (hw.lt g hg).1
theorem ZBh.lge {w wr:World} {bm:Nat} {rs:List Rng} {lv:Value} {ns:List Area} {ex:List Value} (h:ZBh w bm rs lv ns ex wr):∀g,lBlk wr bm=some g→w.heap.size≤g:=by
 obtain ⟨nv,wv,hb,hlr,hn,hw,hd⟩:=h.top;intro g hg;have e:wr.cell? ⟨bm,0,none⟩=some lv:=by rw[hb.cell];rfl
 unfold lBlk at hg;rw[e] at hg;exact (hlr.lt g hg).1
theorem rnew_bad (v:Value) (rs:List Rng) (w:World) (h:ZBn w v rs) (hc:ZAU rs≠0):Calls Tryz.prog 34 #[v] w (ZCz rs w):=by
 have HCON:=Zh (ZBs v rs w h);have hv:=chk_val rs;obtain ⟨c,hcc⟩:∃c,ZAU rs=c:=⟨_,rfl⟩
 have HC:=Zh hc;rw[hcc] at hv hc HCON;have HCC:=Zh hcc;have hb:(c != 0)=true:=by simp[hc]
 obtain ⟨A,cap,rfl,_⟩:=h;clear hcc hc hv;go_enter Tryz.func34,Tryz.ntmps34
 go_wp2_with fail
 refine HCON.out.mono ?_;rintro e w1 ⟨rfl,hb1⟩;have HB1:=Zh hb1;clear hb1;go_wp2_with fail
 go_ret2
 exact ⟨HB1.out,Or.inl ⟨HC.out,by rw[HCC.out];rfl⟩⟩
theorem ZJP (v:Value) (rs:List Rng) (w:World) (h:ZBn w v rs) (hchk:ZAU rs=0):Calls Tryz.prog 34 #[v] w (ZCz rs w):=by
 have HCON:=Zh (ZBs v rs w h);have H:=Zh h;have hlen:rs.length≤16:=by
  rcases Nat.lt_or_ge 16 rs.length with hl|hl
  ·unfold ZAU at hchk;rw[if_pos hl] at hchk;cases hchk
  ·exact hl
 obtain ⟨A,cap,rfl,hcap,hmax,hnm,hcells⟩:=h;have HCELLS:=Zh hcells;have hok:∀k (h:k<rs.length),(rs[k]).Ok:=by
  intro k hk;have h1:ZCl rs=true:=by
   unfold ZAU at hchk;rw[if_neg (by omega)] at hchk
   cases h:ZCl rs with
   | true=>rfl
   | false=>rw[h] at hchk;simp at hchk
  have h2:=List.all_eq_true.1 h1 k (List.mem_range.2 hk);rw[ZDG hk] at h2
  simp at h2
  exact ZGX h2.1
 have HOK:=Zh hok;have HCHK:=Zh hchk;have HLEN:=Zh hlen;clear hok hchk hnm hcells;unfold maxLen at hmax;have hbs:∀w,(Instr.buildSlice 43 0 #[]).run Tryz.prog w=.ok (.slice (some ⟨w.heap.size,0,none⟩) 0 0) (w.alloc (.cells #[] 42)):=fun _=>by kernel_rfl
 obtain ⟨N,hN⟩:∃N,rs.length=N:=⟨_,rfl⟩
 have HN:=Zh hN;rw[hN] at hlen hcap HCON H ⊢;clear hN;go_enter Tryz.func34,Tryz.ntmps34
 go_wp2_with fail
 refine HCON.out.mono ?_;rintro e w1 ⟨rfl,hb1⟩;rw[HCHK.out];have HB1:=Zh hb1;obtain ⟨Al,capl,w2,hap,hc1,hc2,ho,hbel⟩:=ZGz (H.out.below hb1) (by rw[HN.out];omega);have hb2:=hb1.trans (hbel.mono hb1.size);have HST:=Zh (ZH3 (ZO ho hb1.size) hb2);have HAP:=Zh hap;rw[HN.out] at HAP HST;have hbm:=hb2.size;clear hb1 hap ho hbel hb2 hc1 hc2;go_wp2_with (at_builtin;refine ZK rfl (.tmp 12) (.tmp 13) 43 rfl rfl rfl HAP.out ?_)
 go_loopw [6] (fun i wr=>∃(k:Nat) (ns:List Area),k≤N∧i=.int .i64 k∧ns.length=k∧Hid (ZBh w w2.heap.size rs (.slice Al N capl) ns [] wr)) (fun i _=>N-(intOf i).toNat)
 case atStart=>exact ⟨0,[],Nat.zero_le _,rfl,rfl,HST.out⟩
 case round=>
  obtain ⟨k,ns,hk,rfl,hlk,HR⟩:=hrel
  by_cases hlt:k<N
  ·have hkl:k<rs.length:=by rw[HN.out];exact hlt
   obtain ⟨g,off,rfl,hg,hc⟩:=HCELLS.out (by rintro rfl;simp at hkl);have hOk:=HOK.out k hkl;have hrk:rs[k]? = some rs[k]:=List.getElem?_eq_getElem hkl;obtain ⟨_,_,c2,_,_⟩:=hc.five hkl;obtain ⟨r,hr⟩:∃r,rs[k]=r:=⟨_,rfl⟩
   rw[hr] at c2 hOk hrk;obtain ⟨z,hz⟩:∃z:Nat,r.sz=z:=⟨r.sz.toNat,by have:=hOk.s0;omega⟩
   have hmk:=fun W=>make_run W z (by have:=hOk.s1;omega);rw[hz] at c2;have HG:=Zh hg;have HC2:Hid (∀W:World,(∀b o,b<w.heap.size→W.cell? ⟨b,o,none⟩=w.cell? ⟨b,o,none⟩)→W.cell? ⟨g,off+k*5+2,none⟩=some (.int .i64 (z:Int))):=fun W hW=>(hW g _ HG.out).trans c2;obtain ⟨A0,cap0,g1,cap1,w3,ct,hrun,ct2,hfz,hold,hR2⟩:=HR.out.now_ (z:=z) (by omega) (fun r' hr'=>by rw[hlk,hrk] at hr';cases hr';exact hz);have hS1:ZFG w2.heap.size 1 (.slice A0 ns.length cap0) g (off+k*5+2) z w3:=⟨ct2,HC2.out w3 hold⟩
   have hS00:ZFG w2.heap.size 1 (.slice A0 ns.length cap0) g (off+k*5+2) z wr.drew:=⟨ct,HC2.out wr (fun b o hbo=>HR.out.bel.cell (p:=⟨b,o,none⟩) hbo)⟩
   have HRUN:=Zh hrun;have HR2:=Zh hR2;have HRK:=Zh hrk;have HOKR:=Zh hOk;have HZ:=Zh hz;have HLK:=Zh hlk;have HFZ:=Zh hfz;have e5:(0:Int)≤(k:Int):=by omega
   have e6:(k:Int)<((N:Nat):Int):=by omega
   clear hrun hR2 hc hg c2 hOk hrk hr hz hfz ct ct2 hold hlk;go_wp2_with fail
   refine Zk (S:=ZFG w2.heap.size 1 (.slice A0 ns.length cap0) g (off+k*5+2) z) 15 (by kernel_rfl) hS00 (fun hS0=>?_);clear hS00;refine TE 0 0 rfl ?_ (by intro w h;obtain ⟨s0,s1⟩:=h;go_simp;try (with_reducible rfl));simp only[AP];refine TE 1 1 rfl ?_ (by intro w h;obtain ⟨s0,s1⟩:=h;go_simp;try (with_reducible rfl));simp only[AP];refine TE 2 2 rfl ?_ (by intro w h;obtain ⟨s0,s1⟩:=h;go_simp;try (with_reducible rfl));simp only[AP];refine TE 3 3 rfl ?_ (by intro w h;obtain ⟨s0,s1⟩:=h;go_simp;try (with_reducible rfl));simp only[AP];refine TE 4 4 rfl ?_ (by intro w h;obtain ⟨s0,s1⟩:=h;go_simp;try (with_reducible rfl));simp only[AP];refine TE 5 5 rfl ?_ (by intro w h;obtain ⟨s0,s1⟩:=h;go_simp;try (with_reducible rfl));simp only[AP];refine TE 6 6 rfl ?_ (by intro w h;obtain ⟨s0,s1⟩:=h;go_simp;try (with_reducible rfl));simp only[AP];refine TE 7 7 rfl ?_ (by intro w h;obtain ⟨s0,s1⟩:=h;go_simp;try (with_reducible rfl));simp only[AP];refine TE 8 8 rfl ?_ (by intro w h;obtain ⟨s0,s1⟩:=h;go_simp;try (with_reducible rfl));simp only[AP];refine TE 9 9 rfl ?_ (by intro w h;obtain ⟨s0,s1⟩:=h;go_simp;try (with_reducible rfl));simp only[AP];refine ZH (rs:=[10]) (by kernel_rfl) (by simp) ?_;refine ZG.cons rfl (fun K hK=>?_) ZG.nil;go_simp;refine hK.out _ _ (fun _=>?_) (fun hSq=>?_)
   ·exact hS0.alloc _
   have hSa:=hSq (by decide);clear hSq hK K;try simp only[AP]
   refine ZH (rs:=[11]) (by kernel_rfl) (by simp) ?_;refine ZG.cons rfl (fun K hK=>?_) ZG.nil;go_simp;refine hK.out _ _ (fun _=>?_) (fun hSq=>?_)
   ·exact hSa.alloc _
   have hSb:=hSq (by decide);clear hSq hK K;try simp only[AP]
   refine ZH (rs:=[12]) (by kernel_rfl) (by simp) ?_;refine ZG.cons rfl (fun K hK=>?_) ZG.nil;refine ZL (by rfl) (.tmp 27) (.tmp 34) 107 (by rfl) (by rfl) (by rfl) HRUN.out ?_;refine hK.out _ _ (fun _=>hS1) (fun _=>?_);clear hK K hS0 hSa hSb;try simp only[AP]
   refine ZH (rs:=[13]) (by kernel_rfl) (by simp) ?_;refine ZG.cons rfl (fun K hK=>?_) ZG.nil;go_simp;refine hK.out _ _ (fun _=>hS1) (fun _=>?_);clear hK K;try simp only[AP]
   refine ZH (rs:=[14]) (by kernel_rfl) (by simp) ?_;refine ZG.cons rfl (fun K hK=>?_) ZG.nil;go_simp;refine hK.out _ _ (fun _=>hS1) (fun _=>?_);clear hK K;try simp only[AP]
   have hct:=hS1.top;have hfl2:=HFZ.out;refine ZH (rs:=[15]) (by kernel_rfl) (by simp) ?_;refine ZG.cons rfl (fun K hK=>?_) ZG.nil;go_simp;refine hK.out _ _ (fun h=>absurd rfl h) (fun _=>?_);clear hK K;try simp only[AP]
   refine ZAL (by kernel_rfl) ?_ _;clear hct hfl2 hS1 HFZ;generalize hW3:w3.setCell ⟨w2.heap.size,1,none⟩ (.slice (some ⟨g1,0,none⟩) (ns.length+1) cap1)=W3 at HR2 ⊢;clear hW3;obtain ⟨A2,cap2,g3,cap3,w4,ns',ct,hrun,ct2,hfz,hold,hlen',hR3⟩:=HR2.out.was_ (by rw[HLK.out];omega) (by rw[HLK.out];exact HRK.out) HZ.out HOKR.out;have hS2:ZFG w2.heap.size 2 (.slice A2 ns.length cap2) g (off+k*5+2) z w4:=⟨ct2,HC2.out w4 hold⟩
   have hS00:ZFG w2.heap.size 2 (.slice A2 ns.length cap2) g (off+k*5+2) z W3.drew:=⟨ct,HC2.out W3 (fun b o hbo=>HR2.out.bel.cell (p:=⟨b,o,none⟩) hbo)⟩
   have HRUN2:=Zh hrun;have HR3:=Zh hR3;have HFZ:=Zh hfz;clear hrun hR3 hfz ct ct2 hold;have HLEN':=Zh hlen';clear hlen';go_wp2_with fail
   refine Zk (S:=ZFG w2.heap.size 2 (.slice A2 ns.length cap2) g (off+k*5+2) z) 15 (by kernel_rfl) hS00 (fun hS0=>?_);clear hS00;refine TE 0 0 rfl ?_ (by intro w h;obtain ⟨s0,s1⟩:=h;go_simp;try (with_reducible rfl));simp only[AP];refine TE 1 1 rfl ?_ (by intro w h;obtain ⟨s0,s1⟩:=h;go_simp;try (with_reducible rfl));simp only[AP];refine TE 2 2 rfl ?_ (by intro w h;obtain ⟨s0,s1⟩:=h;go_simp;try (with_reducible rfl));simp only[AP];refine TE 3 3 rfl ?_ (by intro w h;obtain ⟨s0,s1⟩:=h;go_simp;try (with_reducible rfl));simp only[AP];refine TE 4 4 rfl ?_ (by intro w h;obtain ⟨s0,s1⟩:=h;go_simp;try (with_reducible rfl));simp only[AP];refine TE 5 5 rfl ?_ (by intro w h;obtain ⟨s0,s1⟩:=h;go_simp;try (with_reducible rfl));simp only[AP];refine TE 6 6 rfl ?_ (by intro w h;obtain ⟨s0,s1⟩:=h;go_simp;try (with_reducible rfl));simp only[AP];refine TE 7 7 rfl ?_ (by intro w h;obtain ⟨s0,s1⟩:=h;go_simp;try (with_reducible rfl));simp only[AP];refine TE 8 8 rfl ?_ (by intro w h;obtain ⟨s0,s1⟩:=h;go_simp;try (with_reducible rfl));simp only[AP];refine TE 9 9 rfl ?_ (by intro w h;obtain ⟨s0,s1⟩:=h;go_simp;try (with_reducible rfl));simp only[AP];refine ZH (rs:=[10]) (by kernel_rfl) (by simp) ?_;refine ZG.cons rfl (fun K hK=>?_) ZG.nil;go_simp;refine hK.out _ _ (fun _=>?_) (fun hSq=>?_)
   ·exact hS0.alloc _
   have hSa:=hSq (by decide);clear hSq hK K;try simp only[AP]
   refine ZH (rs:=[11]) (by kernel_rfl) (by simp) ?_;refine ZG.cons rfl (fun K hK=>?_) ZG.nil;go_simp;refine hK.out _ _ (fun _=>?_) (fun hSq=>?_)
   ·exact hSa.alloc _
   have hSb:=hSq (by decide);clear hSq hK K;try simp only[AP]
   refine ZH (rs:=[12]) (by kernel_rfl) (by simp) ?_;refine ZG.cons rfl (fun K hK=>?_) ZG.nil;refine ZL (by rfl) (.tmp 42) (.tmp 49) 107 (by rfl) (by rfl) (by rfl) HRUN2.out ?_;refine hK.out _ _ (fun _=>hS2) (fun _=>?_);clear hK K hS0 hSa hSb;try simp only[AP]
   refine ZH (rs:=[13]) (by kernel_rfl) (by simp) ?_;refine ZG.cons rfl (fun K hK=>?_) ZG.nil;go_simp;refine hK.out _ _ (fun _=>hS2) (fun _=>?_);clear hK K;try simp only[AP]
   refine ZH (rs:=[14]) (by kernel_rfl) (by simp) ?_;refine ZG.cons rfl (fun K hK=>?_) ZG.nil;go_simp;refine hK.out _ _ (fun _=>hS2) (fun _=>?_);clear hK K;try simp only[AP]
   have hct:=hS2.top;have hfl2:=HFZ.out;refine ZH (rs:=[15]) (by kernel_rfl) (by simp) ?_;refine ZG.cons rfl (fun K hK=>?_) ZG.nil;go_simp;refine hK.out _ _ (fun h=>absurd rfl h) (fun _=>?_);clear hK K;try simp only[AP]
   refine ZAL (by kernel_rfl) ?_ _;clear hct hfl2 hS2 HFZ;go_wp2_with fail
   go_roundw
   case rel=>exact ⟨k+1,ns',by omega,by go_num,by rw[HLEN'.out,HLK.out],HR3.out⟩
   case measure=>simp[intOf];omega
  ·have hfin:ZCz rs w (.returned (.tuple #[.pointer (some ⟨w2.heap.size,0,none⟩),.int .i64 0])) wr:=by
    obtain ⟨q1,q2⟩:=HR.out.done (by rw[HN.out];omega) HLEN.out;exact ⟨HR.out.bel,Or.inr ⟨HCHK.out,_,ns,rfl,hbm,q1,q2,HR.out.wasge,HR.out.lge⟩⟩
   have HFIN:=Zh hfin;clear hfin;go_wp2_with fail
   go_ret2
   exact HFIN.out
theorem rnew_any (v:Value) (rs:List Rng) (w:World) (h:ZBn w v rs):Calls Tryz.prog 34 #[v] w (ZCz rs w):=by
 by_cases hc:ZAU rs=0
 ·exact ZJP v rs w h hc
 ·exact rnew_bad v rs w h hc
def rG (a:Area) (gs:List (Int×Int)) (j:Nat):List (Int×Int):=(ZGE a j).foldl rput gs
def ZBY (ns:List Area):List (Int×Int):=(chgD ns).foldl rput []
theorem ZJa {a:Area} {gs:List (Int×Int)} {j:Nat} (h:a.xs.getD j 0=a.ys.getD j 0):rG a gs (j+1)=rG a gs j:=by
 unfold rG;show (if a.xs.getD j 0=a.ys.getD j 0 then ZGE a j else ZGE a j++[a.r.fr+(j:Int)]).foldl rput gs=_;rw[if_pos h]
theorem rG_put {a:Area} {gs:List (Int×Int)} {j:Nat} (h:¬a.xs.getD j 0=a.ys.getD j 0):rG a gs (j+1)=rput (rG a gs j) (a.r.fr+j):=by
 unfold rG;show (if a.xs.getD j 0=a.ys.getD j 0 then ZGE a j else ZGE a j++[a.r.fr+(j:Int)]).foldl rput gs=_;rw[if_neg h,List.foldl_append]
 rfl
theorem ZJc (ns:List Area) (a:Area):ZBY (ns++[a])=rG a (ZBY ns) a.xs.length:=by
 unfold ZBY rG chgD;rw[List.flatMap_append,List.foldl_append];simp[chgA]
theorem ZJF:∀ {gs:List (Int×Int)} {p:Int},ZGC gs→16≤p→p+1≤4294967296→ZGC (rput gs p)
 | [],p,_,h0,h1=>by
  intro x hx;have e:x=(p,1):=by simpa[rput] using hx
  subst e;exact ⟨h0,by simp,h1⟩
 | (f,s)::r,p,h,h0,h1=>by
  obtain ⟨a1,a2,a3⟩:=h (f,s) (by simp);dsimp only at a1 a2 a3;have hr:ZGC r:=fun x hx=>h x (by simp[hx])
  by_cases c1:f+s<p
  ·have e:rput ((f,s)::r) p=(f,s)::rput r p:=by rw[rput.eq_def];dsimp only;rw[if_pos c1]
   rw[e];intro x hx;rcases List.mem_cons.1 hx with rfl|hx
   ·exact ⟨a1,a2,a3⟩
   ·exact ZJF hr h0 h1 x hx
  ·by_cases c2:f+s=p
   ·cases r with
    | nil=>
     have e:rput [(f,s)] p=[(f,s+1)]:=by rw[rput.eq_def];dsimp only;rw[if_neg c1,if_pos c2]
     rw[e];intro x hx;obtain rfl:=List.mem_singleton.1 hx;exact ⟨a1,by dsimp only;omega,by dsimp only;omega⟩
    | cons g' r'=>
     obtain ⟨f',s'⟩:=g';obtain ⟨b1,b2,b3⟩:=h (f',s') (by simp);dsimp only at b1 b2 b3
     by_cases c3:f'=p+1
     ·have e:rput ((f,s)::(f',s')::r') p=(f,s+1+s')::r':=by rw[rput.eq_def];dsimp only;rw[if_neg c1,if_pos c2,if_pos c3]
      rw[e];intro x hx;rcases List.mem_cons.1 hx with rfl|hx
      ·exact ⟨a1,by dsimp only;omega,by dsimp only;omega⟩
      ·exact h x (by simp[hx])
     ·have e:rput ((f,s)::(f',s')::r') p=(f,s+1)::(f',s')::r':=by rw[rput.eq_def];dsimp only;rw[if_neg c1,if_pos c2,if_neg c3]
      rw[e];intro x hx;rcases List.mem_cons.1 hx with rfl|hx
      ·exact ⟨a1,by dsimp only;omega,by dsimp only;omega⟩
      ·exact hr x hx
   ·by_cases c3:f=p+1
    ·have e:rput ((f,s)::r) p=(p,s+1)::r:=by rw[rput.eq_def];dsimp only;rw[if_neg c1,if_neg c2,if_pos c3]
     rw[e];intro x hx;rcases List.mem_cons.1 hx with rfl|hx
     ·exact ⟨h0,by dsimp only;omega,by dsimp only;omega⟩
     ·exact hr x hx
    ·have e:rput ((f,s)::r) p=(p,1)::(f,s)::r:=by rw[rput.eq_def];dsimp only;rw[if_neg c1,if_neg c2,if_neg c3]
     rw[e];intro x hx;rcases List.mem_cons.1 hx with rfl|hx
     ·exact ⟨h0,by simp,h1⟩
     ·exact h x hx
theorem ZHF:∀(gs:List (Int×Int)) (p:Int),(rput gs p).length≤gs.length+1
 | [],p=>by simp[rput]
 | (f,s)::r,p=>by
  rw[rput.eq_def];dsimp only
  split
  ·have:=ZHF r p
   simpa using this
  ·split
   ·split
    ·split<;>simp
    ·simp
   ·split<;>simp
theorem ZJb (a:Area) (gs:List (Int×Int)):∀j,(rG a gs j).length≤gs.length+j
 | 0=>by simp[rG,ZGE]
 | j+1=>by
  have ih:=ZJb a gs j
  by_cases he:a.xs.getD j 0=a.ys.getD j 0
  ·rw[ZJa he];omega
  ·rw[rG_put he]
   have:=ZHF (rG a gs j) (a.r.fr+j);omega
structure RChgI (w:World) (gs:List (Int×Int)) (out:Value) (wr:World):Prop where
 shape:∃g cap,out=.slice (some ⟨g,0,none⟩) gs.length cap
 row:wr.ownsRow w.heap.size 140 2 out gs.length (flatG gs)
 bel:Below w.heap.size w wr
 ok:ZGC gs
theorem RChgI.drewN {w wr:World} {gs:List (Int×Int)} {out:Value} (h:RChgI w gs out wr) (q:Nat):RChgI w gs out (wr.drewN q):=⟨h.shape,ZIA h.row q,ZM h.bel q,h.ok⟩
def ZFH (ns:List Area) (w:World) (e:Ending) (w':World):Prop:=∃v,e=.returned v∧w'.ownsRow w.heap.size 140 2 v (ZBY ns).length (flatG (ZBY ns))∧Below w.heap.size w w'
theorem RChgI.put {w wr w':World} {gs:List (Int×Int)} {out:Value} {p:Int} {e:Ending} (h:RChgI w gs out wr) (hp:ZBH w.heap.size (rput gs p) wr e w') (h0:16≤p) (h1:p+1≤4294967296):∃v,e=.returned v∧RChgI w (rput gs p) v w':=by
 obtain ⟨g',cap',rfl,ho,hk⟩:=hp;exact ⟨_,rfl,⟨g',cap',rfl⟩,ho,((ZC (fun _=>False) h.bel).trans hk (fun i hi e=>by omega)).below,ZJF h.ok h0 h1⟩
theorem ZCi (bm:Nat) (ns:List Area) (w:World) (hm:ZW w bm ns):Calls Tryz.prog 16 #[.pointer (some ⟨bm,0,none⟩)] w (ZFH ns w):=by
 have hbs:∀w,(Instr.buildSlice 71 0 #[]).run Tryz.prog w=.ok (.slice (some ⟨w.heap.size,0,none⟩) 0 0) (w.alloc (.cells #[] 140)):=fun _=>by kernel_rfl
 have HS:Hid (RChgI w [] (.slice (some ⟨w.heap.size,0,none⟩) 0 0) (w.alloc (.cells #[] 140))):=
  ⟨⟨_,_,rfl⟩,⟨rfl,Or.inr ⟨w.heap.size,0,#[],rfl,Nat.le_refl _,heap_alloc_new w _,Nat.le_refl _,Nat.zero_le _,rfl,rfl⟩⟩,(Below.refl _ _).alloc (Nat.le_refl _) _,fun x hx=>by cases hx⟩
 by_cases hpos:0<ns.length
 ·obtain ⟨gl,gn,gw,capl,capn,capw,ht⟩:=hm.open_ hpos
  obtain ⟨N,hN⟩:∃N,ns.length=N:=⟨_,rfl⟩
  rw[hN] at ht hpos;have hN16:N≤16:=by have:=hm.few;omega
  have HN:=Zh hN;have HT:=Zh ht;have HM:=Zh hm;have l1:=ht.l1;have l2:=ht.l2;have n1:=ht.n1;have n2:=ht.n2;have w1:=ht.w1;have w2:=ht.w2;unfold maxLen at l2 n2 w2;have hbml:=hm.lt;clear ht hm hN;go_enter Tryz.func16,Tryz.ntmps16
  go_wp2_with fail
  go_loopw [3,4] (fun o i wr=>∃k:Nat,k≤N∧i=.int .i64 k∧Hid (RChgI w (ZBY (ns.take k)) o wr∧(ZBY (ns.take k)).length≤16777216*k)) (fun _ i _=>N-(intOf i).toNat)
  case atStart=>exact ⟨0,Nat.zero_le _,rfl,HS.out,by simp[ZBY,chgD]⟩
  case round=>
   obtain ⟨k,hk,rfl,HR⟩:=hrel;have c0:=(HR.out.1.bel.cell (p:=⟨bm,0,none⟩) hbml).trans HT.out.c0
   by_cases hlt:k<N
   ·have hkl:k<ns.length:=by rw[HN.out];exact hlt
    have hA:=HM.out.each ns[k] (List.getElem_mem hkl);have hsn:ZBY (ns.take (k+1))=rG ns[k] (ZBY (ns.take k)) (ns[k]).xs.length:=by rw[List.take_succ_eq_append_getElem hkl,ZJc]
    have t1:=HT.out.now k hkl;have t2:=HT.out.was k hkl;have t3:w.cell? ⟨gl,k*5+1,none⟩=some (.int .i64 ns[k].r.fr):=HT.out.rng k hkl 1 _ rfl;obtain ⟨a,hak⟩:∃a,ns[k]=a:=⟨_,rfl⟩
    rw[hak] at hA hsn t1 t2 t3;have hglb:gl<w.heap.size:=cell_lt (a:=⟨gl,k*5+1,none⟩) t3;have hgnb:gn<w.heap.size:=cell_lt (a:=⟨gn,k,none⟩) t1;have hgwb:gw<w.heap.size:=cell_lt (a:=⟨gw,k,none⟩) t2;obtain ⟨L,hL⟩:∃L,a.xs.length=L:=⟨_,rfl⟩
    have hL24:L≤16777216:=by have:=hA.lx;have:=hA.ok.s1;omega
    have hLsz:(L:Int)=a.r.sz:=by rw[←hL];exact hA.lx
    have hLy:a.ys.length=L:=by have:=hA.lx;have:=hA.ly;omega
    have hok:=hA.ok;have HOK:=Zh hok;obtain ⟨f0,f1,s0,s1,fs⟩:=hok;have HA:=Zh hA;have HSN:=Zh hsn;have HL:=Zh hL;have HLY:=Zh hLy;have T1:=Zh t1;have T2:=Zh t2;have T3:=Zh t3;obtain ⟨gs,hgs⟩:∃gs,ZBY (ns.take k)=gs:=⟨_,rfl⟩
    rw[hgs] at HR HSN;clear hA hsn t1 t2 t3 hak hL hLy hgs;obtain ⟨An,capb,hAn⟩:=ZBg HA.out.now;rw[HL.out] at hAn;have HNV:=Zh hAn;obtain ⟨Aw,capc,hAw⟩:=ZBg HA.out.was;rw[HLY.out] at hAw;have HWV:=Zh hAw;clear hAn hAw;have e5:(0:Int)≤(k:Int):=by omega
    have e6:(k:Int)<((N:Nat):Int):=by omega
    go_wp2_with fail
    obtain ⟨wo,hwo⟩:∃wo:World,wo=wr:=⟨_,rfl⟩
    go_loopw [3,5] (fun o i wi=>∃j:Nat,j≤L∧i=.int .i64 j∧Hid (RChgI w (rG a gs j) o wi)) (fun _ i _=>L-(intOf i).toNat)
    case atStart=>exact ⟨0,Nat.zero_le _,rfl,HR.out.1⟩
    case round=>
     obtain ⟨j,hj,rfl,HI⟩:=hrel;have d1:=(HI.out.bel.cell (p:=⟨bm,1,none⟩) hbml).trans HT.out.c1;have d4:=(HI.out.bel.cell (p:=⟨gn,k,none⟩) hgnb).trans T1.out;rw[HNV.out] at d4
     by_cases hlt2:j<L
     ·have d0:=(HI.out.bel.cell (p:=⟨bm,0,none⟩) hbml).trans HT.out.c0
      have d2:=(HI.out.bel.cell (p:=⟨bm,2,none⟩) hbml).trans HT.out.c2;have d3:=(HI.out.bel.cell (p:=⟨gl,k*5+1,none⟩) hglb).trans T3.out;have d5:=(HI.out.bel.cell (p:=⟨gw,k,none⟩) hgwb).trans T2.out;rw[HWV.out] at d5;obtain ⟨g,capx,hx,hx1,hx2,hxg,hxc⟩:=ZCZ HA.out.now (by rw[HL.out];omega);rw[HNV.out,HL.out] at hx
      cases hx
      obtain ⟨g',capy,hy,hy1,hy2,hyg,hyc⟩:=ZCZ HA.out.was (by rw[HLY.out];omega);rw[HWV.out,HLY.out] at hy
      cases hy
      have q1:=hxc j (by rw[HL.out];exact hlt2);have q2:=hyc j (by rw[HLY.out];exact hlt2);have d6:=(HI.out.bel.cell (p:=⟨g,j,none⟩) (cell_lt q1)).trans q1;have d7:=(HI.out.bel.cell (p:=⟨g',j,none⟩) (cell_lt q2)).trans q2;have e7:(0:Int)≤(j:Int):=by omega
      have e8:(j:Int)<((L:Nat):Int):=by omega
      have hlen:(rG a gs j).length≤268435456:=by
       have h1:=ZJb a gs j;have h2:=HR.out.2;omega
      have hsame:=ZJa (a:=a) (gs:=gs) (j:=j);have hput:=rG_put (a:=a) (gs:=gs) (j:=j);obtain ⟨x,hx⟩:∃x,a.xs.getD j 0=x:=⟨_,rfl⟩
      obtain ⟨y,hy⟩:∃y,a.ys.getD j 0=y:=⟨_,rfl⟩
      rw[hx] at d6 hsame hput;rw[hy] at d7 hsame hput;obtain ⟨GS,hGS⟩:∃GS,rG a gs j=GS:=⟨_,rfl⟩
      rw[hGS] at HI hsame hput hlen;clear hGS hx hy hxc hyc q1 q2 hx1 hx2 hxg hy1 hy2 hyg
      by_cases hxy:x=y
      ·have HS2:=Zh (hsame hxy)
       clear hsame hput;subst hxy;have hb:(x==x)=true:=by simp
       go_wp2_with fail
       go_quiet (fail)
       go_wp2_with fail
       go_roundw
       case rel=>exact ⟨j+1,by omega,by go_num,by rw[HS2.out];exact HI.out.drewN _⟩
       case measure=>simp[intOf];omega
      ·have HS2:=Zh (hput hxy)
       have hb:(x==y)=false:=by simpa using hxy
       clear hsame hput hxy;have e1:IntKind.i64.wrap (a.r.fr+(j:Int))=a.r.fr+(j:Int):=IntWalk.i64_in _ (by omega);obtain ⟨go,capo,rfl⟩:=HI.out.shape;have HP:Hid (∀q,Calls Tryz.prog 48 #[.slice (some ⟨go,0,none⟩) GS.length capo,.int .i64 (a.r.fr+(j:Int))] (wr.drewN q) (ZBH w.heap.size (rput GS (a.r.fr+(j:Int))) (wr.drewN q))):=fun q=>
        put_any w.heap.size go capo GS (a.r.fr+(j:Int)) (wr.drewN q) (HI.out.drewN q).row (HI.out.drewN q).bel.size HI.out.ok (by omega) (by omega) hlen
       clear hlen;go_wp2_with fail
       go_quiet (fail)
       go_wp2_with fail
       refine (HP.out _).mono ?_;intro e w5 hpp;obtain ⟨v5,rfl,hi5⟩:=(HI.out.drewN _).put hpp (by omega) (by omega);have HI5:Hid (RChgI w (rG a gs (j+1)) v5 w5):=by show RChgI w (rG a gs (j+1)) v5 w5;rw[HS2.out];exact hi5
       clear hpp hi5;go_wp2_with fail
       go_roundw
       case rel=>exact ⟨j+1,by omega,by go_num,HI5.out⟩
       case measure=>simp[intOf];omega
     ·have hjL:j=L:=by omega
      have HNX:Hid (∀o,RChgI w (rG a gs j) o wr→RChgI w (ZBY (ns.take (k+1))) o wr∧(ZBY (ns.take (k+1))).length≤16777216*(k+1)):=fun o h=>by
       rw[HSN.out,HL.out,←hjL];have h1:=ZJb a gs j;have h2:=HR.out.2;exact ⟨h,by omega⟩
      clear hjL;go_wp2_with fail
      go_roundw
      case rel=>exact ⟨k+1,by omega,by go_num,HNX.out _ HI.out⟩
      case measure=>simp[intOf];omega
   ·have HFIN:Hid (∀o,RChgI w (ZBY (ns.take k)) o wr→ZFH ns w (.returned o) wr):=fun o h=>by
     rw[List.take_of_length_le (by rw[HN.out];omega)] at h;exact ⟨o,rfl,h.row,h.bel⟩
    go_wp2_with fail
    go_ret;exact HFIN.out _ HR.out.1
 ·obtain rfl:ns=[]:=by cases ns with|nil=>rfl|cons=>simp at hpos
  obtain ⟨A1,k1,A2,k2,A3,k3,c0,c1,c2⟩:=hm.none_;have d0:(w.alloc (.cells #[] 140)).cell? ⟨bm,0,none⟩=some (.slice A1 0 k1):=ZJ c0 _;have HFIN:Hid (ZFH [] w (.returned (.slice (some ⟨w.heap.size,0,none⟩) 0 0)) (w.alloc (.cells #[] 140))):=⟨_,rfl,HS.out.row,HS.out.bel⟩
  clear hm hpos;go_enter Tryz.func16,Tryz.ntmps16
  go_wp2_with fail
  go_loop [3,4] (fun o i=>o=.slice (some ⟨w.heap.size,0,none⟩) 0 0∧i=.int .i64 0) (fun _ _=>0)
  case atStart=>exact ⟨rfl,rfl⟩
  case round=>
   obtain ⟨rfl,rfl⟩:=hrel;go_wp2_with fail
   go_ret;exact HFIN.out
end Go.Proofs.YtggmkofbikafhaaGreatDoor
