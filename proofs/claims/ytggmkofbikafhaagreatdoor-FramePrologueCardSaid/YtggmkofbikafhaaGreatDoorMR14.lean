/- Walks and plain laws on the way to FramePrologue (MR12, MR13, MR14). Conditions: those that each theorem states. -/
import Derived.Test.YtggmkofbikafhaaGreatDoorMR11
set_option linter.unusedVariables false
set_option linter.unusedSimpArgs false
set_option maxRecDepth 100000
set_option maxHeartbeats 40000000
namespace Go.Proofs.YtggmkofbikafhaaGreatDoor
open Go.RowKit
def ZBH (B:Nat) (rs:List (Int×Int)) (w:World) (e:Ending) (w':World):Prop:=
 ∃g' cap',e=.returned (.slice (some ⟨g',0,none⟩) rs.length cap')∧w'.ownsRow B 140 2 (.slice (some ⟨g',0,none⟩) rs.length cap') rs.length (flatG rs)∧ZE (fun k=>B≤k) w w'
theorem ZEh {w W:World} {B g cap N k:Nat} {gs pre rest:List (Int×Int)} {f s p:Int} (hk:ZE (fun k=>B≤k) w W) (ho:W.ownsRow B 140 2 (.slice (some ⟨g,0,none⟩) N cap) N (flatG gs)) (hs:gs=pre++(f,s)::rest) (hpl:pre.length=k) (hN:gs.length=N)
  (hR:rput gs p=pre++(p,s+1)::rest):ZBH B (rput gs p) w (.returned (.slice (some ⟨g,0,none⟩) N cap)) ((W.setCell ⟨g,k*2,none⟩ (.int .i64 p)).setCell ⟨g,k*2+1,none⟩ (.int .i64 (s+1))):=by
 have hBg:=(Zc ho).1;have hl:(flatG gs).length=N*2:=by rw[ZAF,hN]
 have hkN:k<N:=by rw[←hN,hs,←hpl];simp
 have h1:=ZDC ho (j:=k*2) (by omega) (.int .i64 p);have h2:=ZDC h1 (j:=k*2+1) (by rw[List.length_set];omega) (.int .i64 (s+1));rw[hs,←hpl,ZIU,ZDS,←hR] at h2;have hlen:(rput gs p).length=N:=by rw[hR,←hN,hs];simp
 refine ⟨g,cap,by rw[hlen],by rw[hlen];rw[hpl] at h2;exact h2,?_⟩;exact (hk.setCell (p:=⟨g,k*2,none⟩) (Or.inr hBg) _).setCell (p:=⟨g,k*2+1,none⟩) (Or.inr hBg) _
theorem ZCj {w W:World} {B g cap N k:Nat} {gs pre rest:List (Int×Int)} {f s p:Int} (hk:ZE (fun k=>B≤k) w W) (ho:W.ownsRow B 140 2 (.slice (some ⟨g,0,none⟩) N cap) N (flatG gs)) (hs:gs=pre++(f,s)::rest) (hpl:pre.length=k) (hN:gs.length=N)
  (hR:rput gs p=pre++(f,s+1)::rest):ZBH B (rput gs p) w (.returned (.slice (some ⟨g,0,none⟩) N cap)) (W.setCell ⟨g,k*2+1,none⟩ (.int .i64 (s+1))):=by
 have hBg:=(Zc ho).1;have hl:(flatG gs).length=N*2:=by rw[ZAF,hN]
 have hkN:k<N:=by rw[←hN,hs,←hpl];simp
 have h2:=ZDC ho (j:=k*2+1) (by omega) (.int .i64 (s+1));rw[hs,←hpl,ZDS,←hR] at h2;have hlen:(rput gs p).length=N:=by rw[hR,←hN,hs];simp
 refine ⟨g,cap,by rw[hlen],by rw[hlen];rw[hpl] at h2;exact h2,?_⟩;exact hk.setCell (p:=⟨g,k*2+1,none⟩) (Or.inr hBg) _
theorem ZBu {w w2:World} {B g2 cap2 k m Q:Nat} {gs pre rest:List (Int×Int)} {p:Int} (hk:ZE (fun k=>B≤k) (w.drewN Q) w2) (ho:w2.ownsRow B 140 2 (.slice (some ⟨g2,0,none⟩) (k+(1+m)) cap2) (k+(1+m)) (flatG (pre++(p,1)::rest)))
  (hR:rput gs p=pre++(p,1)::rest) (hpl:pre.length=k) (hm:rest.length=m):ZBH B (rput gs p) w (.returned (.slice (some ⟨g2,0,none⟩) (k+(1+m)) cap2)) w2:=by
 have hlen:(rput gs p).length=k+(1+m):=by rw[hR,←hpl,←hm];simp;omega
 exact ⟨g2,cap2,by rw[hlen],by rw[hlen,hR];exact ho,(((ZE.refl (fun k=>B≤k) w).drewN Q).trans hk (fun _ _ e=>e))⟩
theorem ZET {wd:World} {B g cap N k m c:Nat} {pre rest:List (Int×Int)} {x y:Int×Int} (ho:wd.ownsRow B 140 2 (.slice (some ⟨g,0,none⟩) N cap) N (flatG (pre++x::y::rest))) (hpl:pre.length+1=k) (hm:rest.length=m) (hN:k≤N) (hB:B≤wd.heap.size) (hb:k+m≤268435456)
  (ad:Addr) (hc:∀j u,(flatG rest)[j]? = some u→wd.cell? (ad.add j)=some u) :
  ∃g' cap' w',(Builtin.append_ #[71,71] 71 #[.slice (some ⟨g,0,none⟩) k cap,.slice (some ad) m c]).run Tryz.prog wd=.ok (.slice (some ⟨g',0,none⟩) (k+m) cap') w'∧
   w'.ownsRow B 140 2 (.slice (some ⟨g',0,none⟩) (k+m) cap') (k+m) (flatG (pre++x::rest))∧ZE (fun k=>B≤k) wd w':=by
 have hgp:=Zc ho;have hot:=ZEi ho hN;have e1:pre++x::y::rest=(pre++[x])++(y::rest):=by simp
 have e2:pre++x::rest=(pre++[x])++rest:=by simp
 have e3:(pre++[x]).length=k:=by simp[hpl]
 rw[e1,←e3,ZER,e3] at hot;obtain ⟨g',cap',w',hr,ho',hk⟩:=ZBy hot ad m c hm hc (by omega) hB;exact ⟨g',cap',w',hr,by rw[e2];exact ho',⟨hk.os,hk.tape,hk.output,hk.size,fun i hi hne=>hk.block i hi (fun e=>hne (by subst e;exact hgp.1))⟩⟩
theorem ZC9 {w w2:World} {B g2 cap2 k m:Nat} {gs pre rest:List (Int×Int)} {x:Int×Int} {p:Int} (hk:ZE (fun k=>B≤k) w w2) (ho:w2.ownsRow B 140 2 (.slice (some ⟨g2,0,none⟩) (k+m) cap2) (k+m) (flatG (pre++x::rest)))
  (hR:rput gs p=pre++x::rest) (hpl:pre.length+1=k) (hm:rest.length=m):ZBH B (rput gs p) w (.returned (.slice (some ⟨g2,0,none⟩) (k+m) cap2)) w2:=by
 have hlen:(rput gs p).length=k+m:=by rw[hR,←hpl,←hm];simp;omega
 exact ⟨g2,cap2,by rw[hlen],by rw[hlen,hR];exact ho,hk⟩
theorem ZHK {w W:World} {B g cap N k:Nat} {gs pre rest:List (Int×Int)} {f s u:Int} (hk:ZE (fun k=>B≤k) w W) (ho:W.ownsRow B 140 2 (.slice (some ⟨g,0,none⟩) N cap) N (flatG gs)) (hs:gs=pre++(f,s)::rest) (hpl:pre.length=k) (hN:gs.length=N) :
  (W.setCell ⟨g,k*2+1,none⟩ (.int .i64 u)).ownsRow B 140 2 (.slice (some ⟨g,0,none⟩) N cap) N (flatG (pre++(f,u)::rest))∧ZE (fun k=>B≤k) w (W.setCell ⟨g,k*2+1,none⟩ (.int .i64 u)):=by
 have hBg:=(Zc ho).1;have hl:(flatG gs).length=N*2:=by rw[ZAF,hN]
 have hkN:k<N:=by rw[←hN,hs,←hpl];simp
 have h2:=ZDC ho (j:=k*2+1) (by omega) (.int .i64 u);rw[hs,←hpl,ZDS] at h2;rw[hpl] at h2;exact ⟨h2,hk.setCell (p:=⟨g,k*2+1,none⟩) (Or.inr hBg) _⟩
theorem put_any (B g cap:Nat) (gs:List (Int×Int)) (p:Int) (w:World) (ho:w.ownsRow B 140 2 (.slice (some ⟨g,0,none⟩) gs.length cap) gs.length (flatG gs)) (hB:B≤w.heap.size) (hok:ZGC gs) (hp0:16≤p) (hp1:p≤4294967295) (hlen:gs.length≤268435456) :
  Calls Tryz.prog 48 #[.slice (some ⟨g,0,none⟩) gs.length cap,.int .i64 p] w (ZBH B (rput gs p) w):=by
 have HO:=Zh ho;have HOK:=Zh hok;have HB:=Zh hB;obtain ⟨hBg,hgw,hnc,hcm,hcl,hfz⟩:=Zc ho;have HCL:=Zh hcl;have HFZ:=Zh hfz;obtain ⟨N,hN⟩:∃N,gs.length=N:=⟨_,rfl⟩
 have HN:=Zh hN;rw[hN] at hlen hnc HO ⊢;unfold maxLen at hcm;clear ho hok hcl hfz hN hB;go_enter Tryz.func48,Tryz.ntmps48
 go_wp2_with fail
 go_loopw [5] (fun i wr=>∃k:Nat,k≤N∧i=.int .i64 k∧Hid (∀x∈gs.take k,x.1+x.2<p)∧Hid (∃q,wr=w.drewN q)) (fun i _=>N-(intOf i).toNat)
 case atStart=>exact ⟨0,Nat.zero_le _,rfl,(fun x hx=>by simp at hx),0,rfl⟩
 case round=>
  obtain ⟨k,hk,rfl,HF,HQ⟩:=hrel;obtain ⟨q,rfl⟩:=HQ.out;clear HQ
  by_cases hlt:k<N
  ·have hkl:k<gs.length:=by rw[HN.out];exact hlt
   obtain ⟨f,s,hp⟩:∃f s,gs[k]? = some (f,s):=⟨_,_,List.getElem?_eq_getElem hkl⟩
   have d1:=HCL.out _ _ (ZBc hp).1;have d2:=HCL.out _ _ (ZBc hp).2;dsimp only at d1 d2;obtain ⟨hb1,hb2,hb3⟩:=HOK.out (f,s) (List.mem_of_getElem? hp);dsimp only at hb1 hb2 hb3;have HP:=Zh hp;have HSP:Hid (gs=gs.take k++(f,s)::gs.drop (k+1)):=by
    show gs=_;have h1:gs[k]=(f,s):=by rw[List.getElem?_eq_getElem hkl] at hp;exact Option.some.inj hp
    rw[←h1,←List.drop_eq_getElem_cons hkl,List.take_append_drop]
   have HPL:Hid ((gs.take k).length=k):=by show (gs.take k).length=k;rw[List.length_take];omega
   clear hp;have e2:IntKind.i64.wrap (f+s)=f+s:=IntWalk.i64_in _ (by omega);have e5:(0:Int)≤(k:Int):=by omega
   have e6:(k:Int)<((N:Nat):Int):=by omega
   by_cases c1:f+s<p
   ·have HS:Hid (∀x∈gs.take (k+1),x.1+x.2<p):=by
     intro x hx;obtain ⟨_,h1⟩:=List.getElem?_eq_some_iff.1 HP.out;rw[List.take_succ_eq_append_getElem hkl,h1] at hx;rcases List.mem_append.1 hx with hx|hx
     ·exact HF.out x hx
     ·obtain rfl:x=(f,s):=by simpa using hx
      exact c1
    go_wp2_with fail
    go_quiet (fail)
    clear e2;go_wp2_with fail
    go_roundw
    case rel=>exact ⟨k+1,by omega,by go_num,HS.out,_,rfl⟩
    case measure=>simp[intOf];omega
   ·have c1':decide (f+s<p)=false:=by simpa using c1
    by_cases c2:f+s=p
    ·have c2':(f+s==p)=true:=by simpa using c2
     have C2:=Zh c2;clear c2;have e4:IntKind.i64.wrap (s+1)=s+1:=IntWalk.i64_in _ (by omega);have z2:=HFZ.out (k*2+1)
     by_cases hk1:k+1<N
     ·have hkl':k+1<gs.length:=by rw[HN.out];exact hk1
      obtain ⟨f',s',hp'⟩:∃f s,gs[k+1]? = some (f,s):=⟨_,_,List.getElem?_eq_getElem hkl'⟩
      have d1':=HCL.out _ _ (ZBc hp').1;have d2':=HCL.out _ _ (ZBc hp').2;dsimp only at d1' d2';obtain ⟨hb1',hb2',hb3'⟩:=HOK.out (f',s') (List.mem_of_getElem? hp');dsimp only at hb1' hb2' hb3';have HP':=Zh hp';clear hp'
      by_cases c4:f'=p+1
      ·have c4':(f' == p+1)=true:=by simpa using c4
       have HSP2:Hid (gs.drop (k+1)=(f',s')::gs.drop (k+2)):=by
        show gs.drop (k+1)=_;obtain ⟨h0,h1⟩:=List.getElem?_eq_some_iff.1 HP'.out;rw[List.drop_eq_getElem_cons h0,h1]
       have HR:Hid (rput gs p=gs.take k++(f,s+1+s')::gs.drop (k+2)):=by
        show rput gs p=_
        conv=>lhs;rw[HSP.out,HSP2.out]
        rw[ZBX HF.out,ZH0 C2.out c4]
       clear c4;go_wp2_with fail
       go_quiet (fail)
       revert nq
       intro nq1;go_wp2_with fail
       go_quiet (fail)
       go_wp2_with fail
       obtain ⟨ho1,hk1w⟩:=ZHK (W:=w.drewN (q+nq1+nq)) (u:=s+1) ((ZE.refl (fun k=>B≤k) w).drewN _) HO.out HSP.out HPL.out HN.out;rw[HSP2.out] at ho1;generalize (w.drewN (q+nq1+nq)).setCell ⟨g,k*2+1,none⟩ (.int .i64 (s+1))=W1 at ho1 hk1w ⊢;obtain ⟨ho2,hk2w⟩:=ZHK (W:=W1) (u:=s+1+s') hk1w ho1 rfl HPL.out (by rw[←HSP2.out,List.length_append,List.length_cons,HPL.out,List.length_drop,HN.out];omega);obtain ⟨k1,hkk1⟩:∃k1,k1=k+1:=⟨_,rfl⟩
       obtain ⟨k2,hkk2⟩:∃k2,k2=k+2:=⟨_,rfl⟩
       obtain ⟨_,_,_,_,hcl1,hfz1⟩:=Zc ho1;have hat:(gs.take k++(f,s+1)::(f',s')::gs.drop (k+2))[k]? = some (f,s+1):=by rw[List.getElem?_append_right (by rw[HPL.out];exact Nat.le_refl _),HPL.out,Nat.sub_self];rfl
       have hat':(gs.take k++(f,s+1)::(f',s')::gs.drop (k+2))[k1]? = some (f',s'):=by rw[List.getElem?_append_right (by rw[HPL.out];omega),HPL.out,hkk1,Nat.add_sub_cancel_left];rfl
       have d3:=hcl1 _ _ (ZBc hat).2;have d4:=hcl1 _ _ (ZBc hat').2;have z3:=hfz1 (k*2+1);dsimp only at d3 d4;have HO2:=Zh ho2;have HK2:=Zh hk2w;have HKK1:=Zh hkk1;have HKK2:=Zh hkk2;have a1:IntKind.i64.wrap ((k:Int)+1)=(k1:Int):=by rw[IntWalk.i64_in _ (by omega)];omega
       have a2:IntKind.i64.wrap ((k:Int)+2)=(k2:Int):=by rw[IntWalk.i64_in _ (by omega)];omega
       have a3:IntKind.i64.wrap (s+1+s')=s+1+s':=IntWalk.i64_in _ (by omega);have a4:(0:Int)≤(k1:Int):=by omega
       have a5:(k1:Int)<((N:Nat):Int):=by omega
       have a6:(0:Int)≤(k2:Int):=by omega
       have a7:(k2:Int)≤((N:Nat):Int):=by omega
       clear ho1 hk1w ho2 hk2w hkk1 hkk2 hcl1 hfz1 hat hat' d1 d2 d1' d2'
       go_still_tail 14,(by kernel_rfl)
       change wpList _ _ _ _ _ W1.drew
       go_wp2_with fail
       have ho3:=HO2.out;have hk3:=HK2.out;generalize W1.setCell ⟨g,k*2+1,none⟩ (.int .i64 (s+1+s'))=W2 at ho3 hk3 ⊢;have hpl1:(gs.take k).length+1=k1:=by rw[HPL.out,HKK1.out]
       have hdl:(gs.drop (k+2)).length=N-k2:=by rw[List.length_drop,HN.out,HKK2.out]
       have hB2:B≤W2.drew.drew.heap.size:=Nat.le_trans HB.out hk3.size;have hle1:k1≤N:=by omega
       have hle2:k1≤cap:=by omega
       have hle3:k2≤N:=by omega
       have hle4:k2≤cap:=by omega
       have hle5:(k2:Int)≤((cap:Nat):Int):=by omega
       have hle6:(k1:Int)≤((cap:Nat):Int):=by omega
       have hsum:k1+(N-k2)≤268435456:=by have i1:=HKK1.out;have i2:=HKK2.out;omega
       by_cases hcap2:cap=k2
       ·obtain rfl:k2=N:=by omega
        obtain rfl:k2=cap:=hcap2.symm;obtain ⟨g2,cap2,w2,hr,ho4,hk4⟩:=ZET (wd:=W2.drew.drew) (c:=0) (m:=0) (k:=k1) (ho3.drew.drew) hpl1 (by rw[hdl,Nat.sub_self]) hle1 hB2 (by omega) ⟨g,0,none⟩ (fun j u hj=>by
         rw[List.eq_nil_of_length_eq_zero (hdl.trans (Nat.sub_self _))] at hj;simp[flatG] at hj)
        have HAP:=Zh hr;have HFIN:Hid (ZBH B (rput gs p) w (.returned (.slice (some ⟨g2,0,none⟩) (k1+0) cap2)) w2):=ZC9 (hk3.drew.drew.trans hk4 (fun _ _ e=>e)) ho4 HR.out hpl1 (by rw[hdl,Nat.sub_self]);clear ho3 hk3 hr ho4 hk4 hpl1 hdl
        go_region_held3 (fun _=>True) (trivial) (first|(refine ZL (by rfl) (.tmp 87) (.tmp 91) 71 (by rfl) (by rfl) (by rfl) HAP.out ?_))
        go_wp2_with fail
        go_ret;exact HFIN.out
       ·obtain ⟨g2,cap2,w2,hr,ho4,hk4⟩:=ZET (wd:=W2.drew.drew) (c:=cap-k2) (m:=N-k2) (k:=k1) (ho3.drew.drew) hpl1 hdl hle1 hB2 (by omega) ⟨g,k2*2,none⟩ (fun j u hj=>by
         have h1:=ZDT (gs.take k++[(f,s+1+s'),(f',s')]) (gs.drop (k+2)) j;rw[List.append_assoc,List.length_append,HPL.out] at h1;rw[h1] at hj;rw[addr_add,HKK2.out];exact (Zc ho3).2.2.2.2.1 _ _ hj)
        have HAP:=Zh hr;have HFIN:Hid (ZBH B (rput gs p) w (.returned (.slice (some ⟨g2,0,none⟩) (k1+(N-k2)) cap2)) w2):=ZC9 (hk3.drew.drew.trans hk4 (fun _ _ e=>e)) ho4 HR.out hpl1 hdl;clear ho3 hk3 hr ho4 hk4 hpl1 hdl
        go_region_held3 (fun _=>True) (trivial) (first|(refine ZL (by rfl) (.tmp 87) (.tmp 91) 71 (by rfl) (by rfl) (by rfl) HAP.out ?_))
        go_wp2_with fail
        go_ret;exact HFIN.out
      ·have c4':(f' == p+1)=false:=by simpa using c4
       have HR:Hid (rput gs p=gs.take k++(f,s+1)::gs.drop (k+1)):=by
        show rput gs p=_
        conv=>lhs;rw[HSP.out]
        rw[ZBX HF.out,ZFa C2.out (fun f2 s2 r2 h=>by
         obtain ⟨h0,h1⟩:=List.getElem?_eq_some_iff.1 HP'.out;rw[List.drop_eq_getElem_cons h0,h1] at h;simp only[List.cons.injEq,Prod.mk.injEq] at h
         rw[←h.1.1]
         exact c4)]
       clear c4;go_wp2_with fail
       go_quiet (fail)
       go_wp2_with fail
       go_quiet (fail)
       go_wp2_with fail
       go_ret;exact ZCj ((ZE.refl _ _).drewN _) HO.out HSP.out HPL.out HN.out HR.out
     ·have hk1':decide ((k:Int)+1<(N:Int))=false:=by simp;omega
      have HR:Hid (rput gs p=gs.take k++(f,s+1)::gs.drop (k+1)):=by
       show rput gs p=_
       conv=>lhs;rw[HSP.out]
       rw[ZBX HF.out,ZFa C2.out (fun f' s' r' h=>by rw[List.drop_eq_nil_of_le (by rw[HN.out];omega)] at h;cases h)]
      go_wp2_with fail
      go_quiet (fail)
      go_wp2_with fail
      go_quiet (fail)
      go_wp2_with fail
      go_ret;exact ZCj ((ZE.refl _ _).drewN _) HO.out HSP.out HPL.out HN.out HR.out
    ·have c2':(f+s==p)=false:=by simpa using c2
     by_cases c3:f=p+1
     ·have c3':(f==p+1)=true:=by simpa using c3
      have e3:IntKind.i64.wrap (p+1)=p+1:=IntWalk.i64_in _ (by omega);have e4:IntKind.i64.wrap (s+1)=s+1:=IntWalk.i64_in _ (by omega);have z1:=HFZ.out (k*2);have z2:=HFZ.out (k*2+1);have HR:Hid (rput gs p=gs.take k++(p,s+1)::gs.drop (k+1)):=by
       show rput gs p=_
       conv=>lhs;rw[HSP.out]
       rw[ZBX HF.out,ZH1 c1 c2 c3]
      go_wp2_with fail
      go_quiet (fail)
      go_wp2_with fail
      go_quiet (fail)
      go_wp2_with fail
      go_ret;exact ZEh ((ZE.refl _ _).drewN _) HO.out HSP.out HPL.out HN.out HR.out
     ·have c3':(f==p+1)=false:=by simpa using c3
      have e3:IntKind.i64.wrap (p+1)=p+1:=IntWalk.i64_in _ (by omega);have HR:Hid (rput gs p=gs.take k++(p,1)::gs.drop k):=by
       show rput gs p=_
       conv=>lhs;rw[HSP.out]
       rw[ZBX HF.out,ZGW c1 c2 c3]
       congr 2
       obtain ⟨_,h1⟩:=List.getElem?_eq_some_iff.1 HP.out
       rw[←h1,←List.drop_eq_getElem_cons hkl]
      go_wp2_with fail
      go_quiet (fail)
      revert nq
      intro nq1;go_wp2_with fail
      go_quiet (fail)
      revert nq
      intro nq2;go_wp2_with fail
      generalize q+nq1+nq2=q2;obtain ⟨g1,cap1,w1,g2,cap2,w2,hr1,hr2,ho2,hk2⟩:=ZBx (wd:=w.drewN (q2+1)) (p:=p) (c:=cap-k) (pre:=gs.take k) (rest:=gs.drop k) (N:=N) (cap:=cap) (by rw[List.take_append_drop];exact HO.out) (k:=k) (m:=N-k) HPL.out (by rw[List.length_drop,HN.out]) HB.out (by omega) (by omega) ⟨g,k*2,none⟩ (fun j u hj=>by
       have h1:=ZDT (gs.take k) (gs.drop k) j;rw[List.take_append_drop,HPL.out] at h1;rw[h1] at hj;rw[addr_add];exact HCL.out _ _ hj)
      have HAP1:=Zh hr1;have HAP2:=Zh hr2;have HO2:=Zh ho2;have HK2:=Zh hk2;clear hr1 hr2 ho2 hk2;have hcapk:¬cap=k:=by omega
      have hkc:k≤cap:=by omega
      have hkc':k≤N:=by omega
      go_region_held3 (fun _=>True) (trivial) (first|(refine ZL (by rfl) (.tmp 125) (.tmp 128) 71 (by rfl) (by rfl) (by rfl) HAP1.out ?_)|(refine ZL (by rfl) (.tmp 122) (.tmp 129) 71 (by rfl) (by rfl) (by rfl) HAP2.out ?_))
      go_wp2_with fail
      go_ret;exact ZBu HK2.out HO2.out HR.out HPL.out (by rw[List.length_drop,HN.out])
  ·go_wp2_with fail
   go_quiet (fail)
   revert nq
   intro nq1;go_wp2_with fail
   go_quiet (fail)
   go_wp2_with fail
   generalize q+nq1+nq=q2;obtain rfl:k=N:=by omega
   have HR:Hid (rput gs p=gs++(p,1)::[]):=by
    have h1:=HF.out;rw[List.take_of_length_le (by rw[HN.out];omega)] at h1;have h2:=ZBX (rest:=[]) h1;rw[List.append_nil] at h2;exact h2
   have HON:Hid (∀Q,(w.drewN Q).ownsRow B 140 2 (.slice (some ⟨g,0,none⟩) k cap) k (flatG (gs++[]))):=fun Q=>by rw[List.append_nil];exact HO.out
   have e5:(0:Int)≤(k:Int):=by omega
   by_cases hcapk:cap=k
   ·obtain rfl:k=cap:=hcapk.symm
    obtain ⟨g1,cap1,w1,g2,cap2,w2,hr1,hr2,ho2,hk2⟩:=ZBx (p:=p) (c:=0) (HON.out (q2+1)) (k:=k) (m:=0) HN.out rfl HB.out (by omega) (by omega) ⟨g,0,none⟩ (fun j u hj=>by simp[flatG] at hj);have HAP1:=Zh hr1;have HAP2:=Zh hr2;have HO2:=Zh ho2;have HK2:=Zh hk2;clear hr1 hr2 ho2 hk2 hcapk
    go_region_held3 (fun _=>True) (trivial) (first|(refine ZL (by rfl) (.tmp 125) (.tmp 128) 71 (by rfl) (by rfl) (by rfl) HAP1.out ?_)|(refine ZL (by rfl) (.tmp 122) (.tmp 129) 71 (by rfl) (by rfl) (by rfl) HAP2.out ?_))
    go_wp2_with fail
    go_ret;exact ZBu HK2.out HO2.out HR.out HN.out rfl
   ·have hck:k<cap:=by omega
    obtain ⟨g1,cap1,w1,g2,cap2,w2,hr1,hr2,ho2,hk2⟩:=ZBx (p:=p) (c:=cap-k) (HON.out (q2+1)) (k:=k) (m:=0) HN.out rfl HB.out (by omega) (by omega) ⟨g,k*2,none⟩ (fun j u hj=>by simp[flatG] at hj);have HAP1:=Zh hr1;have HAP2:=Zh hr2;have HO2:=Zh ho2;have HK2:=Zh hk2;clear hr1 hr2 ho2 hk2
    go_region_held3 (fun _=>True) (trivial) (first|(refine ZL (by rfl) (.tmp 125) (.tmp 128) 71 (by rfl) (by rfl) (by rfl) HAP1.out ?_)|(refine ZL (by rfl) (.tmp 122) (.tmp 129) 71 (by rfl) (by rfl) (by rfl) HAP2.out ?_))
    go_wp2_with fail
    go_ret;exact ZBu HK2.out HO2.out HR.out HN.out rfl
theorem ZC5 (s:ByteArray) (w:World) (hs:s.size≤maxLen) :
  Calls Tryz.prog 123 #[.string s] w fun e w'=>e=.returned (.bool (nameB s))∧w=w':=by
 unfold maxLen at hs
 by_cases h0:0<s.size
 ·have e0:=ZIL s h0
  by_cases h1:s.size≤31
  ·by_cases h2:97≤(s[0]'h0).toNat
   ·by_cases h3:(s[0]'h0).toNat≤122
    ·have hfin:nameB s=s.data.toList.all (fun c=>ZEn c.toNat):=by simp[nameB,h0,h1,h2,h3]
     have HFIN:=Zh hfin;clear hfin;go_enter Tryz.func123,Tryz.ntmps123
     go_wp2
     go_loop [3] (fun i=>∃k:Nat,k≤s.size∧i=.int .i64 k∧Hid ((s.data.toList.take k).all (fun c=>ZEn c.toNat)=true)) (fun i=>s.size-(intOf i).toNat)
     case atStart=>exact ⟨0,Nat.zero_le _,rfl,rfl⟩
     case round=>
      obtain ⟨k,hk,rfl,HA⟩:=hrel
      by_cases hlt:k<s.size
      ·obtain ⟨c,hc⟩:∃c:Nat,(s[k]'hlt).toNat=c:=⟨_,rfl⟩
       have HT:=Zh (fun h=>all_step s (fun c=>ZEn c.toNat) k hlt HA.out (by rw[hc];exact ZID (c:=c) h));have HF:=Zh (fun h=>all_stop s (fun c=>ZEn c.toNat) k hlt (by rw[hc];exact ZGk (c:=c) h));clear h2 h3;rcases (show ((97≤c∧c≤122)∨(48≤c∧c≤57)∨c=95)∨(c<48∨(58≤c∧c≤94)∨c=96∨123≤c) by omega) with hcs|hcs
       ·have HT2:=Zh (HT.out hcs)
        rcases hcs with ⟨d1,d2⟩|⟨d1,d2⟩|rfl
        ·have q97:decide ((c:Int)<97)=false:=by simp;omega
         have q122:decide ((122:Int)<(c:Int))=false:=by simp;omega
         go_wp2
         go_round
         case rel=>exact ⟨k+1,by omega,by go_num,HT2.out⟩
         case measure=>simp[intOf];omega
        ·have q97:decide ((c:Int)<97)=true:=by simp;omega
         have q48:decide ((c:Int)<48)=false:=by simp;omega
         have q57:decide ((57:Int)<(c:Int))=false:=by simp;omega
         go_wp2
         go_round
         case rel=>exact ⟨k+1,by omega,by go_num,HT2.out⟩
         case measure=>simp[intOf];omega
        ·go_wp2
         go_round
         case rel=>exact ⟨k+1,by omega,by go_num,HT2.out⟩
         case measure=>simp[intOf];omega
       ·have HF2:=Zh (HF.out (by omega))
        have q95:((c:Int) != 95)=true:=by simp;omega
        rcases hcs with d1|⟨d1,d2⟩|rfl|d1
        ·go_wp2
         go_ret;exact ⟨by rw[HFIN.out,HF2.out];rfl,rfl⟩
        ·have q97:decide ((c:Int)<97)=true:=by simp;omega
         have q48:decide ((c:Int)<48)=false:=by simp;omega
         have q57:decide ((57:Int)<(c:Int))=true:=by simp;omega
         go_wp2;go_ret;exact ⟨by rw[HFIN.out,HF2.out];rfl,rfl⟩
        ·go_wp2
         go_ret;exact ⟨by rw[HFIN.out,HF2.out];rfl,rfl⟩
        ·have q97:decide ((c:Int)<97)=false:=by simp;omega
         have q48:decide ((c:Int)<48)=false:=by simp;omega
         have q57:decide ((57:Int)<(c:Int))=true:=by simp;omega
         have q122:decide ((122:Int)<(c:Int))=true:=by simp;omega
         go_wp2;go_ret;exact ⟨by rw[HFIN.out,HF2.out];rfl,rfl⟩
      ·have hsk:s.data.toList.take k=s.data.toList:=List.take_of_length_le (by have h3:s.size=s.data.size:=rfl;simp;omega)
       have hfin:nameB s=true:=by rw[HFIN.out,←hsk];exact HA.out
       have HN:=Zh hfin;clear hfin hsk;go_wp2;go_ret;exact ⟨by rw[HN.out];rfl,rfl⟩
    ·have hfin:nameB s=false:=by simp[nameB,h0,h1,h2,h3]
     have HFIN:=Zh hfin;clear hfin;go_enter Tryz.func123,Tryz.ntmps123
     go_wp2;go_ret;exact ⟨by rw[HFIN.out];rfl,rfl⟩
   ·have hfin:nameB s=false:=by simp[nameB,h0,h1,h2]
    have HFIN:=Zh hfin;clear hfin;go_enter Tryz.func123,Tryz.ntmps123
    go_wp2;go_ret;exact ⟨by rw[HFIN.out];rfl,rfl⟩
  ·have hfin:nameB s=false:=by simp[nameB,h0,h1]
   have HFIN:=Zh hfin;clear hfin;go_enter Tryz.func123,Tryz.ntmps123
   go_wp2;go_ret;exact ⟨by rw[HFIN.out];rfl,rfl⟩
 ·have e0:=isEmpty_nil s h0
  have hfin:nameB s=false:=by simp[nameB,h0]
  have HFIN:=Zh hfin;clear hfin;go_enter Tryz.func123,Tryz.ntmps123
  go_wp2;go_ret;exact ⟨by rw[HFIN.out];rfl,rfl⟩
theorem ZG1 (r o:Rng):((o.nm.toList==r.nm.toList)=true∧clash r o=true)∨((o.nm.toList==r.nm.toList)=false∧
  ((r.sz≤0∧clash r o=false)∨0<r.sz∧((o.sz≤0∧clash r o=false)∨0<o.sz∧((o.fr+o.sz≤r.fr∧clash r o=false)∨r.fr<o.fr+o.sz∧((r.fr+r.sz≤o.fr∧clash r o=false)∨o.fr<r.fr+r.sz∧clash r o=true))))):=by
 cases hn:(o.nm.toList==r.nm.toList) with
 | true=>exact Or.inl ⟨rfl,by simp only[clash,hn,Bool.true_or]⟩
 | false=>
  refine Or.inr ⟨rfl,?_⟩;have hc:clash r o=ZFh r o:=by simp only[clash,hn,Bool.false_or]
  rw[hc];simp[ZFh];omega
theorem ZGc (g off cap:Nat) (rs:List Rng) (w:World) (hlen:rs.length≤16) (hn2:rs.length≤cap) (hcap:cap≤maxLen) (hg:g<w.heap.size) (hc:ZCn w g off rs) (hnm:∀r∈rs,r.nm.size≤maxLen) :
  Calls Tryz.prog 76 #[.slice (some ⟨g,off,none⟩) rs.length cap] w fun e w'=>e=.returned (.int .i64 (ZAU rs))∧Below w.heap.size w w':=by
 have HC:=Zh hc;have HNM:=Zh hnm;have hcap':=hcap;unfold maxLen at hcap';have HLEN:=Zh hlen;clear hc hnm hcap;obtain ⟨N,hN⟩:∃N,rs.length=N:=⟨_,rfl⟩
 rw[hN] at hlen hn2 ⊢;have HN:=Zh hN;clear hN;go_enter Tryz.func76,Tryz.ntmps76
 go_wp2_with fail
 go_loopw [3] (fun i wr=>∃k:Nat,k≤N∧i=.int .i64 k∧Hid (∀j,j<k→okAt rs j=true)∧Below w.heap.size w wr) (fun i _=>N-(intOf i).toNat)
 case atStart=>exact ⟨0,Nat.zero_le _,rfl,fun j hj=>absurd hj (by omega),Below.refl _ _⟩
 case round=>
  obtain ⟨k,hk,rfl,HF,hbel⟩:=hrel;have HBel:=Zh hbel;clear hbel
  by_cases hlt:k<N
  ·have hkl:k<rs.length:=by rw[HN.out];exact hlt
   obtain ⟨c0,c1,c2,c3,c4⟩:=(HC.out.below HBel.out hg).five hkl;have hbad:ZFK rs[k]=false→ZAU rs=5:=fun h=>ZKf HLEN.out hkl (by rw[ZDG hkl,h];rfl);have hbad2:(rs.take k).any (clash rs[k])=true→ZAU rs=5:=fun h=>ZKf HLEN.out hkl (by rw[ZDG hkl,h];simp);have hgood:ZFK rs[k]=true→(rs.take k).any (clash rs[k])=false→∀j,j<k+1→okAt rs j=true:=fun h1 h2 j hj=>by
    rcases Nat.lt_or_ge j k with h|h
    ·exact HF.out j h
    ·obtain rfl:j=k:=by omega
     rw[ZDG hkl,h1,h2];rfl
   have hnmk:(rs[k]).nm.size≤maxLen:=HNM.out _ (List.getElem_mem hkl);obtain ⟨r,hr⟩:∃r,rs[k]=r:=⟨_,rfl⟩
   rw[hr] at c0 c1 c2 c3 c4 hbad hbad2 hgood hnmk;have HBAD:=Zh hbad;have HBAD2:=Zh hbad2;have HGOOD:=Zh hgood;have HNMK:=Zh hnmk;have hsz:=HBel.out.size;clear hr hbad hbad2 hgood hnmk;have HB1:=Zh (fun o=>HBel.out.alloc hsz o);have HBN:Hid (Blk (wr.alloc (.cells (ZAM r) 42)) wr.heap.size 42 (ZAM r)):=Blk.new wr 42 (ZAM r);rcases ZJO r with hok|⟨hno,hcs⟩
   ·have hOk:=ZGX hok
    have hnb:nameB r.nm=true:=by simp[ZFK] at hok;exact hok.1.1.1.1.1.1.1
    have m1:(r.fr%16 != 0)=false:=by simp[ZFK] at hok;simp;omega
    have m2:(r.sz%16 != 0)=false:=by simp[ZFK] at hok;simp;omega
    obtain ⟨f0,f1,s0,s1,fs⟩:=hOk;have HOK:=Zh hok;clear hok;have HNB:=Zh hnb;clear hnb;go_wp2_with fail
    refine (ZC5 _ _ HNMK.out).mono ?_;rintro e w1 ⟨rfl,rfl⟩;rw[HNB.out];go_wp2_with fail
    have hbr:wr.heap.size<(wr.alloc (.cells (ZAM r) 42)).heap.size:=by simp
    have HB2:Hid (Below w.heap.size w (wr.alloc (.cells (ZAM r) 42))):=HB1.out _
    change Hid (Blk (wr.alloc (.cells (ZAM r) 42)) wr.heap.size 42 (ZAM r)) at HBN
    generalize hw2:wr.alloc (.cells #[.string r.nm,.int .i64 r.fr,.int .i64 r.sz,.bool r.wr,.bool r.ex] 42)=w2;have hw2':wr.alloc (.cells (ZAM r) 42)=w2:=hw2;rw[hw2'] at HBN HB2 hbr;obtain ⟨br,hbreq⟩:∃br,wr.heap.size=br:=⟨_,rfl⟩
    rw[hbreq] at HBN hbr ⊢;clear hw2 hw2' hbreq HB1 c0 c1 c2 c3 c4 m1 m2;obtain ⟨wo,hwo⟩:∃wo:World,wo=wr:=⟨_,rfl⟩
    go_loopw [5] (fun i wi=>∃k2:Nat,k2≤k∧i=.int .i64 k2∧Hid ((rs.take k2).any (clash r)=false)∧Hid (Below w2.heap.size w2 wi)) (fun i _=>k-(intOf i).toNat)
    case atStart=>exact ⟨0,Nat.zero_le _,rfl,rfl,Below.refl _ _⟩
    case round=>
     obtain ⟨k2,hk2,rfl,HA,HBI⟩:=hrel;have HBW:=Zh (HB2.out.trans (HBI.out.mono HB2.out.size));have hbi:=HBN.out.below HBI.out hbr;have d0:wr.cell? ⟨br,0,none⟩=some (.string r.nm):=by rw[hbi.cell];rfl
     have d1:wr.cell? ⟨br,1,none⟩=some (.int .i64 r.fr):=by rw[hbi.cell];rfl
     have d2:wr.cell? ⟨br,2,none⟩=some (.int .i64 r.sz):=by rw[hbi.cell];rfl
     have hbrw:br<wr.heap.size:=hbi.lt;clear hbi
     by_cases hlt2:k2<k
     ·have hkl2:k2<rs.length:=by omega
      obtain ⟨c0,c1,c2,c3,c4⟩:=(HC.out.below HBW.out hg).five hkl2;have hokk:(rs[k2]).Ok:=oks_of HF.out (by omega) _ (List.mem_take_iff_getElem.2 ⟨k2,by omega,rfl⟩);have hstep:clash r rs[k2]=false→(rs.take (k2+1)).any (clash r)=false:=fun h=>any_step hkl2 HA.out h;have hhit:clash r rs[k2]=true→(rs.take k).any (clash r)=true:=fun h=>any_hitM hkl2 hlt2 h;obtain ⟨o,ho⟩:∃o,rs[k2]=o:=⟨_,rfl⟩
      rw[ho] at c0 c1 c2 c3 c4 hokk hstep hhit;obtain ⟨g0,g1,t0,t1,gs⟩:=hokk;have HSTEP:=Zh hstep;have HHIT:=Zh hhit;have HNB2:=Zh (fun o=>HBI.out.alloc HBI.out.size o);have HNB3:=Zh (fun o=>HBW.out.alloc HBW.out.size o);clear ho hstep hhit;have e1:IntKind.i64.wrap (o.fr+o.sz)=o.fr+o.sz:=IntWalk.i64_in _ (by omega);have e2:IntKind.i64.wrap (r.fr+r.sz)=r.fr+r.sz:=IntWalk.i64_in _ (by omega);rcases ZG1 r o with ⟨hn,hcl⟩|⟨hn,q1|⟨q1,q2|⟨q2,q3|⟨q3,q4|q4⟩⟩⟩⟩
      ·have HR:=Zh (HBAD2.out (HHIT.out hcl))
       clear hcl;go_wp2_with fail
       go_ret;exact ⟨by rw[HR.out];rfl,HNB3.out _⟩
      ·have HS:=Zh (HSTEP.out q1.2)
       obtain ⟨q1,_⟩:=q1;go_wp2_with fail
       go_roundw
       case rel=>exact ⟨k2+1,by omega,by go_num,HS.out,HNB2.out _⟩
       case measure=>simp[intOf];omega
      ·have HS:=Zh (HSTEP.out q2.2)
       obtain ⟨q2,_⟩:=q2;go_wp2_with fail
       go_roundw
       case rel=>exact ⟨k2+1,by omega,by go_num,HS.out,HNB2.out _⟩
       case measure=>simp[intOf];omega
      ·have HS:=Zh (HSTEP.out q3.2)
       obtain ⟨q3,_⟩:=q3;have q3':decide (r.fr<o.fr+o.sz)=false:=by simp;omega
       go_wp2_with fail
       go_roundw
       case rel=>exact ⟨k2+1,by omega,by go_num,HS.out,HNB2.out _⟩
       case measure=>simp[intOf];omega
      ·have HS:=Zh (HSTEP.out q4.2)
       obtain ⟨q4,_⟩:=q4;have q4':decide (o.fr<r.fr+r.sz)=false:=by simp;omega
       go_wp2_with fail
       go_roundw
       case rel=>exact ⟨k2+1,by omega,by go_num,HS.out,HNB2.out _⟩
       case measure=>simp[intOf];omega
      ·have HR:=Zh (HBAD2.out (HHIT.out q4.2))
       obtain ⟨q4,_⟩:=q4;go_wp2_with fail
       go_ret;exact ⟨by rw[HR.out];rfl,HNB3.out _⟩
     ·have hk2k:k2=k:=by omega
      have HR:=Zh (HGOOD.out HOK.out (by rw[←hk2k];exact HA.out));clear hk2k;go_wp2_with fail
      go_roundw
      case rel=>exact ⟨k+1,by omega,by go_num,HR.out,HBW.out⟩
      case measure=>simp[intOf];omega
   ·have HR:=Zh (HBAD.out hno)
    clear hno;rcases hcs with hnb|⟨hnb,hcs⟩
    ·have HNB:=Zh hnb
     clear hnb;go_wp2_with fail
     refine (ZC5 _ _ HNMK.out).mono ?_;rintro e w1 ⟨rfl,rfl⟩;rw[HNB.out];go_wp2_with fail
     go_ret;exact ⟨by rw[HR.out];rfl,HB1.out _⟩
    ·have HNB:=Zh hnb
     clear hnb;rcases hcs with q1|⟨q1,q2|⟨q2,q3|⟨q3,q4|⟨q4,q5|⟨q5,q6|⟨q6,q7⟩⟩⟩⟩⟩⟩
     all_goals
      go_wp2_with fail
      refine (ZC5 _ _ HNMK.out).mono ?_;rintro e w1 ⟨rfl,rfl⟩;rw[HNB.out];go_wp2_with fail
      go_ret;exact ⟨by rw[HR.out];rfl,HB1.out _⟩
  ·have hfin:ZAU rs=0:=chk_good HLEN.out (by rw[HN.out];intro j hj;exact HF.out j (by omega))
   have HFIN:=Zh hfin;clear hfin;go_wp2_with fail
   go_ret;exact ⟨by rw[HFIN.out];rfl,HBel.out⟩
end Go.Proofs.YtggmkofbikafhaaGreatDoor
