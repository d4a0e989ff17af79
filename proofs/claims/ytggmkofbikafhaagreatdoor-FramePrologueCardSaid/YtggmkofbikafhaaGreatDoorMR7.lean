/- Walks and plain laws on the way to FramePrologue (MR1, MR2, MR3, MR4, MR5, MR6, MR7). Conditions: those that each theorem states. -/
import Derived.Test.YtggmkofbikafhaaGreatDoorMA
set_option linter.unusedVariables false
set_option linter.unusedSimpArgs false
set_option maxRecDepth 100000
set_option maxHeartbeats 40000000
namespace Go.Proofs.YtggmkofbikafhaaGreatDoor
open Go.RowKit
structure ZAt (w:World) (a:Area):Prop where
 now:ZCM w a.now a.xs
 was:ZCM w a.was a.ys
 lx:(a.xs.length:Int)=a.r.sz
 ly:(a.ys.length:Int)=a.r.sz
 bx:isBytes a.xs
 bY:isBytes a.ys
 ok:a.r.Ok
structure ZW (w:World) (bm:Nat) (ns:List Area):Prop where
 top:∃lv nv wv,Blk w bm 122 #[lv,nv,wv]∧w.ownsRow 0 42 5 lv ns.length (ns.flatMap fun a=>a.r.cells)∧w.ownsRow 0 32 1 nv ns.length (ns.map (·.now))∧
  w.ownsRow 0 32 1 wv ns.length (ns.map (·.was))∧∀g,nv.ownBlock=some g→wv.ownBlock≠some g
 each:∀a∈ns,ZAt w a
 apart:(rowsOf ns).Nodup
 few:ns.length≤16
theorem ZAt.row_blk {w:World} {a:Area} (h:ZAt w a) {g:Nat} (hg:g∈a.rows):∃cur,Blk w g 5 cur:=by
 rcases List.mem_append.1 hg with hg|hg
 ·exact h.now.blk_of hg
 ·exact h.was.blk_of hg
theorem ZAt.keeps {w w':World} {F:Nat→Prop} {a:Area} (h:ZAt w a) (k:ZE F w w') (hF:∀g∈a.rows,¬F g):ZAt w' a:=
 { h with
  now:=h.now.keeps k fun g hg=>hF g (List.mem_append_left _ hg)
  was:=h.was.keeps k fun g hg=>hF g (List.mem_append_right _ hg) }
theorem ZW.row_blk {w:World} {bm:Nat} {ns:List Area} (h:ZW w bm ns) {g:Nat} (hg:g∈rowsOf ns):∃cur,Blk w g 5 cur:=by
 obtain ⟨a,ha,hg⟩:=List.mem_flatMap.1 hg;exact (h.each a ha).row_blk hg
theorem ZW.row_lt {w:World} {bm:Nat} {ns:List Area} (h:ZW w bm ns) {g:Nat} (hg:g∈rowsOf ns):g<w.heap.size:=(h.row_blk hg).elim fun _ hb=>hb.lt
theorem ZW.keeps {w w':World} {F:Nat→Prop} {bm:Nat} {ns:List Area} (h:ZW w bm ns) (k:ZE F w w')
  (hT:∀g t cs,F g→Blk w g t cs→t≠122∧t≠42∧t≠32) (hF:∀g∈rowsOf ns,¬F g):ZW w' bm ns:=by
 obtain ⟨lv,nv,wv,hb,hl,hn,hw,hd⟩:=h.top;refine ⟨⟨lv,nv,wv,hb.keeps k (fun hf=>(hT _ _ _ hf hb).1 rfl),ZB hl k (fun g hg hf=>?_),ZB hn k (fun g hg hf=>?_),ZB hw k (fun g hg hf=>?_),hd⟩,fun a ha=>?_,h.apart,h.few⟩
 ·obtain ⟨cur,hc⟩:=ZI hl hg
  exact (hT _ _ _ hf hc).2.1 rfl
 ·obtain ⟨cur,hc⟩:=ZI hn hg
  exact (hT _ _ _ hf hc).2.2 rfl
 ·obtain ⟨cur,hc⟩:=ZI hw hg
  exact (hT _ _ _ hf hc).2.2 rfl
 ·exact (h.each a ha).keeps k (fun g hg=>hF g (List.mem_flatMap.2 ⟨a,ha,hg⟩))
theorem ZW.below {w w':World} {bm:Nat} {ns:List Area} (h:ZW w bm ns) (hb:Below w.heap.size w w'):ZW w' bm ns:=
 h.keeps (F:=fun _=>False) (ZC _ hb) (fun _ _ _ hf=>hf.elim) (fun _ _ hf=>hf)
structure RTop (w:World) (bm gl gn gw capl capn capw N:Nat) (ns:List Area):Prop where
 c0:w.cell? ⟨bm,0,none⟩=some (.slice (some ⟨gl,0,none⟩) N capl)
 c1:w.cell? ⟨bm,1,none⟩=some (.slice (some ⟨gn,0,none⟩) N capn)
 c2:w.cell? ⟨bm,2,none⟩=some (.slice (some ⟨gw,0,none⟩) N capw)
 l1:N≤capl
 l2:capl≤maxLen
 n1:N≤capn
 n2:capn≤maxLen
 w1:N≤capw
 w2:capw≤maxLen
 rng:∀k (hk:k<ns.length) j u,(ZAM ns[k].r)[j]? = some u→w.cell? ⟨gl,k*5+j,none⟩=some u
 now:∀k (hk:k<ns.length),w.cell? ⟨gn,k,none⟩=some ns[k].now
 was:∀k (hk:k<ns.length),w.cell? ⟨gw,k,none⟩=some ns[k].was
 len:ns.length=N
theorem ZDB {w:World} {e:TypeId} {size:Nat} {v:Value} {n:Nat} {xs:List Value} (h:w.ownsRow 0 e size v n xs) (hn:0<n) :
  ∃g cap,v=.slice (some ⟨g,0,none⟩) n cap∧n≤cap∧cap≤maxLen∧∀j u,xs[j]? = some u→w.cell? ⟨g,j,none⟩=some u:=by
 have hh:=h;rcases h.2 with ⟨rfl,h0⟩|⟨g,cap,cur,rfl,_,hb,h1,h2,_⟩
 ·omega
 ·refine ⟨g,cap,rfl,h1,h2,fun j u hj=>?_⟩
  have:=hh.cells (g:=g) rfl j u hj;rwa[addr_add,Nat.zero_add] at this
theorem ZW.open_ {w:World} {bm:Nat} {ns:List Area} (h:ZW w bm ns) (hpos:0<ns.length):∃gl gn gw capl capn capw,RTop w bm gl gn gw capl capn capw ns.length ns:=by
 obtain ⟨lv,nv,wv,hb,hl,hn,hw,hd⟩:=h.top;obtain ⟨gl,capl,rfl,l1,l2,hcl⟩:=ZDB hl hpos;obtain ⟨gn,capn,rfl,n1,n2,hcn⟩:=ZDB hn hpos;obtain ⟨gw,capw,rfl,w1,w2,hcw⟩:=ZDB hw hpos;refine ⟨gl,gn,gw,capl,capn,capw,⟨by rw[hb.cell];rfl,by rw[hb.cell];rfl,by rw[hb.cell];rfl,l1,l2,n1,n2,w1,w2,fun k hk j u hj=>?_,fun k hk=>?_,fun k hk=>?_,rfl⟩⟩
 ·have hj5:j<5:=by
   rcases Nat.lt_or_ge j 5 with h|h
   ·exact h
   ·rw[Array.getElem?_eq_none (by simpa[ZAM] using h)] at hj;cases hj
  refine hcl _ _ ?_;rw[Zg (fun a:Area=>a.r.cells) 5 (fun _=>rfl) ns k hk j hj5]
  simpa[ZAM,Rng.cells] using hj
 ·exact hcn _ _ (by rw[List.getElem?_map,List.getElem?_eq_getElem hk];rfl)
 ·exact hcw _ _ (by rw[List.getElem?_map,List.getElem?_eq_getElem hk];rfl)
theorem ZW.none_ {w:World} {bm:Nat} (h:ZW w bm []):∃A1 c1 A2 c2 A3 c3,w.cell? ⟨bm,0,none⟩=some (.slice A1 0 c1)∧w.cell? ⟨bm,1,none⟩=some (.slice A2 0 c2)∧w.cell? ⟨bm,2,none⟩=some (.slice A3 0 c3):=by
 obtain ⟨lv,nv,wv,hb,hl,hn,hw,hd⟩:=h.top;obtain ⟨A1,k1,rfl,_⟩:=slice_form hl;obtain ⟨A2,k2,rfl,_⟩:=slice_form hn;obtain ⟨A3,k3,rfl,_⟩:=slice_form hw;exact ⟨A1,k1,A2,k2,A3,k3,by rw[hb.cell];rfl,by rw[hb.cell];rfl,by rw[hb.cell];rfl⟩
theorem RTop.drewN {w:World} {bm gl gn gw capl capn capw N:Nat} {ns:List Area} (h:RTop w bm gl gn gw capl capn capw N ns) (q:Nat):RTop (w.drewN q) bm gl gn gw capl capn capw N ns:=
 ⟨h.c0,h.c1,h.c2,h.l1,h.l2,h.n1,h.n2,h.w1,h.w2,h.rng,h.now,h.was,h.len⟩
def ZIr (ns:List Area) (at_ n i k:Int):Prop:=
 (i=-1∧k=0∧ZBK ns at_ n=none)∨
 ∃(p:Nat) (a:Area),i=p∧ns[p]? = some a∧k=at_-a.r.fr∧ZBK ns at_ n=some a∧a.has at_ n=true∧∀x∈ns.take p,x.has at_ n=false
theorem ZKD {ns:List Area} {at_ n:Int} (h:∀x∈ns,x.has at_ n=false):ZIr ns at_ n (-1) 0:=by
 refine Or.inl ⟨rfl,rfl,?_⟩;unfold ZBK;rw[List.find?_eq_none];intro x hx;simp[h x hx]
theorem in_some {ns:List Area} {at_ n:Int} {p:Nat} {a:Area} (hp:ns[p]? = some a) (ha:a.has at_ n=true) (h:∀x∈ns.take p,x.has at_ n=false):ZIr ns at_ n p (at_-a.r.fr):=by
 refine Or.inr ⟨p,a,rfl,hp,rfl,?_,ha,h⟩;obtain ⟨hl,rfl⟩:=List.getElem?_eq_some_iff.1 hp;have e:ns=ns.take p++(ns[p]::ns.drop (p+1)):=by rw[←List.drop_eq_getElem_cons hl,List.take_append_drop]
 conv=>lhs;rw[e]
 exact find_of ha h
theorem ZFU {ns:List Area} {at_ n:Int} {p:Nat} {a:Area} (hp:ns[p]? = some a) (ha:a.has at_ n=false) (h:∀x∈ns.take p,x.has at_ n=false):∀x∈ns.take (p+1),x.has at_ n=false:=by
 obtain ⟨hl,rfl⟩:=List.getElem?_eq_some_iff.1 hp;intro x hx;rw[List.take_succ_eq_append_getElem hl] at hx;rcases List.mem_append.1 hx with hx|hx
 ·exact h x hx
 ·obtain rfl:x=ns[p]:=by simpa using hx
  exact ha
theorem ZHI (bm:Nat) (ns:List Area) (at_ n:Int) (w:World) (hm:ZW w bm ns) (h0:0≤at_) (h1:at_≤4294967295) (h2:0<n) (h3:n≤16777216) :
  Calls Tryz.prog 77 #[.pointer (some ⟨bm,0,none⟩),.int .i64 at_,.int .i64 n] w fun e w'=>(∃i k,e=.returned (.tuple #[.int .i64 i,.int .i64 k])∧ZIr ns at_ n i k)∧Below w.heap.size w w':=by
 by_cases hpos:0<ns.length
 ·obtain ⟨gl,gn,gw,capl,capn,capw,ht⟩:=hm.open_ hpos
  obtain ⟨N,hN⟩:∃N,ns.length=N:=⟨_,rfl⟩
  rw[hN] at ht hpos;have hN16:N≤16:=by have:=hm.few;omega
  have HN:=Zh hN;have HT:=Zh ht;have HM:=Zh hm;have c0:=ht.c0;have l1:=ht.l1;have l2:=ht.l2;unfold maxLen at l2;clear ht hm hN;go_enter Tryz.func77,Tryz.ntmps77
  go_wp2_with fail
  go_loopw [8] (fun i wr=>∃k:Nat,k≤N∧i=.int .i64 k∧Hid (∀x∈ns.take k,x.has at_ n=false)∧Hid (∃q,wr=w.drewN q)) (fun i _=>N-(intOf i).toNat)
  case atStart=>exact ⟨0,Nat.zero_le _,rfl,(fun x hx=>by simp at hx),0,rfl⟩
  case round=>
   obtain ⟨k,hk,rfl,HF,HQ⟩:=hrel;obtain ⟨q,rfl⟩:=HQ.out;clear HQ
   by_cases hlt:k<N
   ·have hkl:k<ns.length:=by rw[HN.out];exact hlt
    obtain ⟨a,hak⟩:∃a,ns[k]=a:=⟨_,rfl⟩
    have r1:w.cell? ⟨gl,k*5+1,none⟩=some (.int .i64 ns[k].r.fr):=HT.out.rng k hkl 1 _ rfl;have r2:w.cell? ⟨gl,k*5+2,none⟩=some (.int .i64 ns[k].r.sz):=HT.out.rng k hkl 2 _ rfl;have hok:=(HM.out.each ns[k] (List.getElem_mem hkl)).ok;rw[hak] at r1 r2 hok;have hp:ns[k]? = some a:=by rw[List.getElem?_eq_getElem hkl,hak]
    obtain ⟨f0,f1,s0,s1,fs⟩:=hok;have HP:=Zh hp;clear hp hak;have e1:IntKind.i64.wrap (at_+n)=at_+n:=IntWalk.i64_in _ (by omega);have e2:IntKind.i64.wrap (a.r.fr+a.r.sz)=a.r.fr+a.r.sz:=IntWalk.i64_in _ (by omega);have e5:(0:Int)≤(k:Int):=by omega
    have e6:(k:Int)<((N:Nat):Int):=by omega
    by_cases d1:a.r.fr≤at_
    ·by_cases d2:at_+n≤a.r.fr+a.r.sz
     ·have HI:Hid (ZIr ns at_ n k (at_-a.r.fr)):=in_some HP.out (by simp[Area.has,hasB,h2,d1,d2]) HF.out
      go_wp2_with fail
      go_quiet (fail)
      clear e1 e2;go_wp2_with fail
      go_quiet (fail)
      go_wp2_with fail
      go_ret2
      exact ⟨⟨_,_,by go_num,HI.out⟩,ZM (ZM (ZM (Below.refl _ _) _) _) _⟩
     ·have d2':decide (at_+n≤a.r.fr+a.r.sz)=false:=by simpa using d2
      have HS:Hid (∀x∈ns.take (k+1),x.has at_ n=false):=ZFU HP.out (by simp[Area.has,hasB,d2]) HF.out;go_wp2_with fail
      go_quiet (fail)
      clear e1 e2;go_wp2_with fail
      go_roundw
      case rel=>exact ⟨k+1,by omega,by go_num,HS.out,_,rfl⟩
      case measure=>simp[intOf];omega
    ·have d1':decide (a.r.fr≤at_)=false:=by simpa using d1
     have HS:Hid (∀x∈ns.take (k+1),x.has at_ n=false):=ZFU HP.out (by simp[Area.has,hasB,d1]) HF.out;go_wp2_with fail
     go_quiet (fail)
     clear e1 e2;go_wp2_with fail
     go_roundw
     case rel=>exact ⟨k+1,by omega,by go_num,HS.out,_,rfl⟩
     case measure=>simp[intOf];omega
   ·have HI:Hid (ZIr ns at_ n (-1) 0):=ZKD (by have:=HF.out;rwa[List.take_of_length_le (by rw[HN.out];omega)] at this)
    go_wp2_with fail
    go_ret2
    exact ⟨⟨_,_,rfl,HI.out⟩,ZM (Below.refl _ _) _⟩
 ·obtain rfl:ns=[]:=by cases ns with|nil=>rfl|cons=>simp at hpos
  obtain ⟨A1,k1,A2,k2,A3,k3,c0,c1,c2⟩:=hm.none_;have HI:Hid (ZIr [] at_ n (-1) 0):=ZKD (fun x hx=>by cases hx);clear hm hpos;go_enter Tryz.func77,Tryz.ntmps77
  go_wp2_with fail
  go_loop [8] (fun i=>i=.int .i64 0) (fun _=>0)
  case atStart=>rfl
  case round=>
   subst hrel;go_wp2_with fail
   go_ret2
   exact ⟨⟨_,_,rfl,HI.out⟩,Below.refl _ _⟩
def RAcc (ns:List Area) (at_ n i k e:Int):Prop:=
 (e≠0∧i=0∧k=0∧ZF8 ns at_ n=(e,none))∨
 e=0∧∃(p:Nat) (a:Area),i=p∧ns[p]? = some a∧k=at_-a.r.fr∧ZF8 ns at_ n=(0,some a)∧a.has at_ n=true∧∀x∈ns.take p,x.has at_ n=false
def ZFI (ns:List Area) (at_ n:Int) (w:World) (e:Ending) (w':World):Prop:=(∃i k er,e=.returned (.tuple #[.int .i64 i,.int .i64 k,.int .i64 er])∧RAcc ns at_ n i k er)∧Below w.heap.size w w'
theorem ZGf (bm:Nat) (ns:List Area) (at_ n:Int) (w:World) (hm:ZW w bm ns) (h0:0≤at_) (h1:at_≤4294967295) (hn:n=1∨n=2∨n=4) :
  Calls Tryz.prog 78 #[.pointer (some ⟨bm,0,none⟩),.int .u32 at_,.int .i64 n] w (ZFI ns at_ n w):=by
 have HM:=Zh hm;clear hm;have hfin:ZF8 ns at_ n=(if at_%n≠0 then (31,none) else match ZBK ns at_ n with|none=>(30,none)|some a=>(0,some a):Int×Option Area):=by
  unfold ZF8;rw[if_neg (by omega)];rfl
 have HFIN:=Zh hfin;clear hfin
 by_cases hz:at_%n=0
 ·have hz':(at_%n != 0)=false:=by simp[hz]
  have hfin2:ZF8 ns at_ n=(match ZBK ns at_ n with|none=>(30,none)|some a=>(0,some a):Int×Option Area):=by rw[HFIN.out,if_neg (by simp[hz])]
  have HACC:=Zh hfin2;clear hfin2 hz HFIN;rcases hn with rfl|rfl|rfl
  all_goals
   go_enter Tryz.func78,Tryz.ntmps78
   go_wp2_with fail
   refine (ZHI bm ns _ _ _ HM.out (by omega) (by omega) (by omega) (by omega)).mono ?_;rintro e w1 ⟨⟨i,k,rfl,hin⟩,hb⟩;have HB:=Zh hb;clear hb;rcases hin with ⟨rfl,rfl,hf⟩|⟨p,a,rfl,hp,rfl,hf,ha,hpre⟩
   ·have HF:=Zh hf
    clear hf;go_wp2_with fail
    go_ret3
    exact ⟨⟨_,_,_,rfl,Or.inl ⟨by decide,rfl,rfl,by rw[HACC.out,HF.out]⟩⟩,HB.out⟩
   ·have HP:=Zh (Za hp (Za hf (Za ha hpre)))
    clear hp hf ha hpre;go_wp2_with fail
    go_ret3
    exact ⟨⟨_,_,_,rfl,Or.inr ⟨rfl,p,a,rfl,HP.out.1,rfl,by rw[HACC.out,HP.out.2.1],HP.out.2.2.1,HP.out.2.2.2⟩⟩,HB.out⟩
 ·have hz':(at_%n != 0)=true:=by simp[hz]
  have hfin2:ZF8 ns at_ n=(31,none):=by rw[HFIN.out,if_pos hz]
  have HFIN2:=Zh hfin2;clear hfin2 HFIN;rcases hn with rfl|rfl|rfl
  ·omega
  all_goals
   clear hz;go_enter Tryz.func78,Tryz.ntmps78
   go_wp2_with fail
   go_ret3
   exact ⟨⟨_,_,_,rfl,Or.inl ⟨by decide,rfl,rfl,HFIN2.out⟩⟩,Below.refl _ _⟩
theorem ZGg (bm:Nat) (ns:List Area) (at_ n:Int) (w:World) (h1:(n != 1)=true) (h2:(n != 2)=true) (h3:(n != 4)=true) :
  Calls Tryz.prog 78 #[.pointer (some ⟨bm,0,none⟩),.int .u32 at_,.int .i64 n] w (ZFI ns at_ n w):=by
 have hfin:ZF8 ns at_ n=(1,none):=by unfold ZF8;rw[if_pos ⟨by simpa using h1,by simpa using h2,by simpa using h3⟩]
 have HFIN:=Zh hfin;clear hfin;go_enter Tryz.func78,Tryz.ntmps78
 go_wp2_with fail
 go_ret3
 exact ⟨⟨_,_,_,rfl,Or.inl ⟨by decide,rfl,rfl,HFIN.out⟩⟩,Below.refl _ _⟩
theorem ZBt (bm:Nat) (ns:List Area) (at_ n:Int) (w:World) (hm:ZW w bm ns) (h0:0≤at_) (h1:at_≤4294967295) :
  Calls Tryz.prog 78 #[.pointer (some ⟨bm,0,none⟩),.int .u32 at_,.int .i64 n] w (ZFI ns at_ n w):=by
 by_cases hn:n=1∨n=2∨n=4
 ·exact ZGf bm ns at_ n w hm h0 h1 hn
 ·exact ZGg bm ns at_ n w (by simp;omega) (by simp;omega) (by simp;omega)
theorem ZCZ {w:World} {v:Value} {xs:List Int} (h:ZCM w v xs) (hne:0<xs.length):∃g cap,v=.slice (some ⟨g,0,none⟩) xs.length cap∧xs.length≤cap∧cap≤maxLen∧g∈ZZ v xs∧∀j,j<xs.length→w.cell? ⟨g,j,none⟩=some (.int .u8 (xs.getD j 0)):=by
 obtain ⟨A,cap,rfl,h1,h2,h3⟩:=h;have hn:xs≠[]:=by rintro rfl;simp at hne
 obtain ⟨g,cur,rfl,hb,hs,ht⟩:=h3 hn;refine ⟨g,cap,rfl,h1,h2,by simp[ZZ,hn,Value.ownBlock],fun j hj=>?_⟩;rw[hb.cell,ZJI ht j hj];simp[List.getD,hj]
theorem cut_cons {xs:List Int} {k d:Nat} (hk:k<xs.length):cut xs k (d+1)=xs.getD k 0::cut xs (k+1) d:=by
 unfold cut;rw[List.drop_eq_getElem_cons hk,List.take_succ_cons];simp[List.getD,hk]
theorem leW_cons (b:Int) (cs:List Int):leW (b::cs)=b+256*leW cs:=rfl
theorem ZJv:∀ {cs:List Int},isBytes cs→cs.length≤3→0≤leW cs∧leW cs≤16777215
 | [],_,_=>by simp[leW]
 | [a],h,_=>by have:=h a (by simp);simp only[leW];omega
 | [a,b],h,_=>by have:=h a (by simp);have:=h b (by simp);simp only[leW];omega
 | [a,b,c],h,_=>by have:=h a (by simp);have:=h b (by simp);have:=h c (by simp);simp only[leW];omega
 | _::_::_::_::_,_,h=>by simp at h
theorem ZIS {xs:List Int} (h:isBytes xs) (k:Nat):0≤xs.getD k 0∧xs.getD k 0≤255:=by
 by_cases hk:k<xs.length
 ·have:=h xs[k] (List.getElem_mem hk)
  simpa[List.getD,hk] using this
 ·simp[List.getD,hk]
theorem ZC6 (bm:Nat) (ns:List Area) (at_ n:Int) (w:World) (hm:ZW w bm ns) (h0:0≤at_) (h1:at_≤4294967295) :
  Calls Tryz.prog 44 #[.pointer (some ⟨bm,0,none⟩),.int .u32 at_,.int .i64 n] w fun e w'=>e=.returned (.tuple #[.int .u32 (loadR ns at_ n).1,.int .i64 (loadR ns at_ n).2])∧Below w.heap.size w w':=by
 have HM:=Zh hm;clear hm;go_enter Tryz.func44,Tryz.ntmps44
 go_wp2_with fail
 refine (ZBt bm ns _ _ _ HM.out h0 h1).mono ?_;rintro e w1 ⟨⟨i,k,er,rfl,hacc⟩,hb⟩;have HM1:=Zh (HM.out.below hb);have HB:=Zh hb;clear hb;rcases hacc with ⟨he,rfl,rfl,hac⟩|⟨rfl,p,a,rfl,hp,rfl,hac,ha,hpre⟩
 ·have heb:(er != 0)=true:=by simp[he]
  have HR:Hid (loadR ns at_ n=(0,er)):=by show loadR ns at_ n=_;unfold loadR;rw[hac]
  clear he hac;go_wp2_with fail
  go_ret2
  exact ⟨by rw[HR.out];rfl,HB.out⟩
 ·obtain ⟨_,hn,_,hfa⟩:=ZF7 hac
  obtain ⟨hpl,hpa⟩:=List.getElem?_eq_some_iff.1 hp;have hA:=HM1.out.each a (by rw[←hpa];exact List.getElem_mem hpl);obtain ⟨gl,gn,gw,capl,capn,capw,ht⟩:=HM1.out.open_ (by omega);have hhas:0<n∧a.r.fr≤at_∧at_+n≤a.r.fr+a.r.sz:=(ZBd hfa).2;obtain ⟨N,rfl⟩:∃N:Nat,n=(N:Int):=⟨n.toNat,by omega⟩
  obtain ⟨K,hK⟩:∃K:Nat,at_-a.r.fr=(K:Int):=⟨(at_-a.r.fr).toNat,by omega⟩
  have hlx:=hA.lx;have hKN:K+N≤a.xs.length:=by omega
  have hN4:N≤4:=by omega
  have hN1:1≤N:=by omega
  have HR:Hid (loadR ns at_ (N:Int)=(leW (cut a.xs K N),0)):=by show loadR ns at_ (N:Int)=_;unfold loadR;rw[hac];dsimp only;rw[hK];rfl
  obtain ⟨g,capb,hnow,hb1,hb2,_,hbytes⟩:=ZCZ hA.now (by omega);have c1:=ht.c1;have cn:=ht.now p hpl;rw[hpa,hnow] at cn;have n1:=ht.n1;have n2:=ht.n2;have hbx:=hA.bx;obtain ⟨M,hM⟩:∃M,ns.length=M:=⟨_,rfl⟩
  obtain ⟨L,hL⟩:∃L,a.xs.length=L:=⟨_,rfl⟩
  rw[hM] at c1 n1 hpl;rw[hL] at cn hb1 hKN;have hM16:M≤16:=by have:=HM1.out.few;omega
  have hL24:L≤16777216:=by have:=hA.ok.s1;omega
  have HBY:=Zh hbytes;have HBX:=Zh hbx;have HL:=Zh hL;rw[hK];unfold maxLen at n2 hb2;clear hbytes hbx hp hpa hA ht hhas hfa hac ha hpre hlx hnow hK hM hL hn;go_wp2_with fail
  have e1:IntKind.i64.wrap ((N:Int)-1)=(N:Int)-1:=IntWalk.i64_in _ (by omega)
  go_loopw [11,12] (fun o j wr=>∃(d:Nat) (W:Int),d≤N∧j=.int .i64 ((N:Int)-1-d)∧o=.int .u32 W∧Hid (W=leW (cut a.xs (K+(N-d)) d))∧Hid (∃q,wr=w1.drewN q)) (fun _ j _=>(intOf j+1).toNat)
  case atStart=>exact ⟨0,0,Nat.zero_le _,by go_num,rfl,by simp[Hid,cut,leW],0,rfl⟩
  case round=>
   obtain ⟨d,W,hd,rfl,rfl,HW,HQ⟩:=hrel;obtain ⟨q,rfl⟩:=HQ.out;clear HQ
   by_cases hlt:d<N
   ·have hk1:K+(N-d-1)<a.xs.length:=by rw[HL.out];omega
    have hby:=HBY.out (K+(N-d-1)) hk1;have hx:=ZIS HBX.out (K+(N-d-1));have hstep:leW (cut a.xs (K+(N-(d+1))) (d+1))=a.xs.getD (K+(N-d-1)) 0+256*W:=by
     rw[show K+(N-(d+1))=K+(N-d-1) by omega,cut_cons hk1,leW_cons,HW.out,show K+(N-d-1)+1=K+(N-d) by omega]
    have hWb:0≤W∧W≤16777215:=by rw[HW.out];exact ZJv (ZKY HBX.out) (by rw[ZIZ (by rw[HL.out];omega)];omega)
    obtain ⟨x,hxd⟩:∃x,a.xs.getD (K+(N-d-1)) 0=x:=⟨_,rfl⟩
    rw[hxd] at hby hx hstep;have HSTEP:=Zh hstep;obtain ⟨hx0,hx1⟩:=hx;obtain ⟨hW0,hW1⟩:=hWb;clear hstep hxd hk1;have e2:IntKind.i64.wrap ((K:Int)+((N:Int)-1-d))=((K+(N-d-1):Nat):Int):=by rw[IntWalk.i64_in _ (by omega)];omega
    have e3:(0:Int)≤(p:Int):=by omega
    have e4:(p:Int)<((M:Nat):Int):=by omega
    obtain ⟨J,hJ⟩:∃J:Nat,K+(N-d-1)=J:=⟨_,rfl⟩
    rw[hJ] at e2 hby;have e5:(0:Int)≤(J:Int):=by omega
    have e6:(J:Int)<((L:Nat):Int):=by omega
    have e7:(0:Int)≤(N:Int)-1-d:=by omega
    go_wp2_with fail
    go_roundw
    case rel=>
     refine ⟨d+1,x+256*W,by omega,by go_num,?_,HSTEP.out.symm,_,rfl⟩
     congr 1
     omega
    case measure=>simp[intOf];omega
   ·go_wp2_with fail
    go_ret2
    refine ⟨?_,ZM HB.out _⟩;rw[HR.out];have hdN:d=N:=by omega
    have:=HW.out;rw[hdN,Nat.sub_self,Nat.add_zero] at this;rw[this]
    rfl
theorem Zp (bm:Nat) (ns:List Area) (at_:Int) (w:World) (hm:ZW w bm ns) (h0:0≤at_) (h1:at_≤4294967295) :
  Calls Tryz.prog 37 #[.pointer (some ⟨bm,0,none⟩),.int .u32 at_] w fun e w'=>e=.returned (.tuple #[.int .u32 (fetchR ns at_).1,.int .i64 (fetchR ns at_).2])∧Below w.heap.size w w':=by
 have HM:=Zh hm;clear hm;go_enter Tryz.func37,Tryz.ntmps37
 go_wp2_with fail
 refine (ZBt bm ns _ _ _ HM.out h0 h1).mono ?_;rintro e w1 ⟨⟨i,k,er,rfl,hacc⟩,hb⟩;have HM1:=Zh (HM.out.below hb);have HB:=Zh hb;clear hb;rcases hacc with ⟨he,rfl,rfl,hac⟩|⟨rfl,p,a,rfl,hp,rfl,hac,ha,hpre⟩
 ·have heb:(er != 0)=true:=by simp[he]
  have HR:Hid (fetchR ns at_=(0,er)):=by show fetchR ns at_=_;unfold fetchR;rw[hac]
  clear he hac;go_wp2_with fail
  go_ret2
  exact ⟨by rw[HR.out];rfl,HB.out⟩
 ·obtain ⟨hpl,hpa⟩:=List.getElem?_eq_some_iff.1 hp
  obtain ⟨gl,gn,gw,capl,capn,capw,ht⟩:=HM1.out.open_ (by omega);have c0:=ht.c0;have r4:w1.cell? ⟨gl,p*5+4,none⟩=some (.bool ns[p].r.ex):=ht.rng p hpl 4 _ rfl;rw[hpa] at r4;have l1:=ht.l1;have l2:=ht.l2;unfold maxLen at l2;obtain ⟨M,hM⟩:∃M,ns.length=M:=⟨_,rfl⟩
  rw[hM] at c0 l1 hpl;have hM16:M≤16:=by have:=HM1.out.few;omega
  have e3:(0:Int)≤(p:Int):=by omega
  have e4:(p:Int)<((M:Nat):Int):=by omega
  cases hex:a.r.ex with
  | false=>
   have HR:Hid (fetchR ns at_=(0,33)):=by show fetchR ns at_=_;unfold fetchR;rw[hac];dsimp only;rw[hex];rfl
   rw[hex] at r4;clear hac ha hpre hp hpa hM ht hex;go_wp2_with fail
   go_ret2
   exact ⟨by rw[HR.out];rfl,HB.out⟩
  | true=>
   have HR:Hid (fetchR ns at_=loadR ns at_ 4):=by show fetchR ns at_=_;unfold fetchR;rw[hac];dsimp only;rw[hex];rfl
   rw[hex] at r4;clear hac ha hpre hp hpa hM ht hex;go_wp2_with fail
   refine (ZC6 bm ns _ _ _ HM1.out h0 h1).mono ?_;rintro e w2 ⟨rfl,hb2⟩;have HB2:=Zh (HB.out.trans (hb2.mono HB.out.size));clear hb2;go_wp2_with fail
   go_ret2
   exact ⟨by rw[HR.out];rfl,HB2.out⟩
def BSl (w:World) (v:Value) (xs:List Int):Prop:=
 ∃A cap,v=.slice A xs.length cap∧xs.length≤cap∧cap≤maxLen∧isBytes xs∧(xs≠[]→∃b off,A=some ⟨b,off,none⟩∧b<w.heap.size∧∀i,i<xs.length→w.cell? ⟨b,off+i,none⟩=some (.int .u8 (xs.getD i 0)))
theorem BSl.below {w w':World} {v:Value} {xs:List Int} (h:BSl w v xs) (hb:Below w.heap.size w w'):BSl w' v xs:=by
 obtain ⟨A,cap,rfl,h1,h2,h3,h4⟩:=h;refine ⟨A,cap,rfl,h1,h2,h3,fun hne=>?_⟩;obtain ⟨b,off,rfl,hlt,hc⟩:=h4 hne;exact ⟨b,off,rfl,Nat.lt_of_lt_of_le hlt hb.size,fun i hi=>(hb.cell (p:=⟨b,off+i,none⟩) hlt).trans (hc i hi)⟩
theorem ZCM.sl {w:World} {v:Value} {xs:List Int} (h:ZCM w v xs) (hx:isBytes xs):BSl w v xs:=by
 have hh:=h;obtain ⟨A,cap,rfl,h1,h2,h3⟩:=h;refine ⟨A,cap,rfl,h1,h2,hx,fun hne=>?_⟩;obtain ⟨g,cur,rfl,hb,hs,ht⟩:=h3 hne;refine ⟨g,0,rfl,hb.lt,fun i hi=>?_⟩;rw[Nat.zero_add,hb.cell,ZJI ht i hi];simp[List.getD,hi]
theorem ZG6 (w:World) (g c:Nat) (ty:TypeId):(Builtin.append_ #[32,32] ty #[.slice (some ⟨g,0,none⟩) 0 0,.slice none 0 c]).run Tryz.prog w=.ok (.slice (some ⟨g,0,none⟩) 0 0) w:=by
 obtain ⟨i0,hi,hz0,hz1,hz2⟩:=info_parts ZKA;simp[Builtin.append_,run_underlying Tryz.underlying32,sizeOf,typeInfo,hi,Builtin.lenOf,Builtin.firstCells,storeCells]
def ZDg (xs:List Int) (w:World) (e:Ending) (w':World):Prop:=∃v,e=.returned v∧w'.ownsRow w.heap.size 5 1 v xs.length (xs.map (Value.int .u8))∧Below w.heap.size w w'
theorem ZG4 (v:Value) (xs:List Int) (w:World) (h:BSl w v xs) (hl:xs.length≤140737488351232):Calls Tryz.prog 30 #[v] w (ZDg xs w):=by
 obtain ⟨A,cap,rfl,h1,h2,h3,h4⟩:=h;have hbs:∀w,(Instr.buildSlice 32 0 #[]).run Tryz.prog w=.ok (.slice (some ⟨w.heap.size,0,none⟩) 0 0) (w.alloc (.cells #[] 5)):=fun _=>by kernel_rfl
 have hown:(w.alloc (.cells #[] 5)).ownsRow w.heap.size 5 1 (.slice (some ⟨w.heap.size,0,none⟩) 0 0) 0 []:=
  ⟨rfl,Or.inr ⟨w.heap.size,0,#[],rfl,Nat.le_refl _,heap_alloc_new w _,Nat.le_refl _,Nat.zero_le _,rfl,rfl⟩⟩
 cases A with
 | none=>
  obtain rfl:xs=[]:=by
   by_cases hx:xs=[]
   ·exact hx
   ·obtain ⟨b,off,e,_⟩:=h4 hx
    cases e
  have hap:=ZG6 (w.alloc (.cells #[] 5)) w.heap.size cap 32;have HO:=Zh hown;have HB:Hid (Below w.heap.size w (w.alloc (.cells #[] 5))):=(Below.refl _ _).alloc (Nat.le_refl _) _;have HAP:=Zh hap;clear h3 h4 hown hap h1 h2 hl;go_enter Tryz.func30,Tryz.ntmps30
  go_wp2_with (at_builtin;refine ZK rfl (.tmp 3) (.tmp 4) 32 rfl rfl rfl HAP.out ?_)
  go_ret;exact ⟨_,rfl,HO.out,HB.out⟩
 | some ad=>
  obtain ⟨i0,hi,hz0,hz1,hz2⟩:=info_parts ZKA;have hc:∀j u,(xs.map (Value.int .u8))[j]? = some u→w.cell? (ad.add j)=some u:=fun j u hj=>by
   have hne:xs≠[]:=by rintro rfl;simp at hj
   obtain ⟨b,off,e,_,hcc⟩:=h4 hne
   cases e
   have hjn:j<xs.length:=by
    rcases Nat.lt_or_ge j xs.length with h|h
    ·exact h
    ·rw[List.getElem?_eq_none (by simpa using h)] at hj;cases hj
   rw[addr_add,hcc j hjn]
   simpa[List.getD,hjn] using hj
  obtain ⟨v',w2,hap,ho,hg,_⟩:=run_append_own (P:=Tryz.prog) (w.alloc (.cells #[] 5)) w.heap.size 32 32 5 i0 (.int .u8 0) 1 1 Tryz.underlying32 hi hz0 hz1 hz2 rfl (by decide) _ 0 [] hown ad xs.length cap (xs.map (Value.int .u8)) (by simp)
   (fun j u hj=>by have:=hc j u hj;rw[World.cell?_alloc_lt _ _ _ (cell_lt this)];exact this) (ZEk _) (by unfold maxLen;omega) (by omega) (by simp)
  rw[Nat.zero_add,List.nil_append] at ho;have hbel:Below w.heap.size w w2:=((Below.refl _ _).alloc (Nat.le_refl _) _).grown hg (by simp) (fun k hk=>by simp[Value.ownBlock] at hk;omega);have HO:=Zh ho;have HB:=Zh hbel;have HAP:=Zh hap;clear ho hg hbel hc hown hi hz0 hz1 hz2 hap h3 h4;go_enter Tryz.func30,Tryz.ntmps30
  go_wp2_with (at_builtin;refine ZK rfl (.tmp 3) (.tmp 4) 32 rfl rfl rfl HAP.out ?_)
  go_ret;exact ⟨v',rfl,HO.out,HB.out⟩
section
variable {w w':World} {bm g:Nat} {pre post:List Area} {a:Area} {cur cur':Array Value}
theorem ZW.row_put (h:ZW w bm (pre++a::post)) (hga:g∈a.rows) (k:ZE (· = g) w w') {a':Area} (hr:a'.r=a.r) (hn:a'.now=a.now) (hw:a'.was=a.was)
  (hlx:a'.xs.length=a.xs.length) (hly:a'.ys.length=a.ys.length) (hnow:ZCM w' a.now a'.xs) (hwas:ZCM w' a.was a'.ys) (hbx:isBytes a'.xs) (hby:isBytes a'.ys):ZW w' bm (pre++a' :: post):=by
 have hmem:∀x,x∈pre∨x∈post→x∈pre++a::post:=fun x hx=>by
  rcases hx with hx|hx<;>simp[hx]
 have ha:=h.each a (by simp);obtain ⟨c0,hc0⟩:=ha.row_blk hga;obtain ⟨lv,nv,wv,hb,hl,hnv,hwv,hd⟩:=h.top;have hT:∀ {b:Nat} {t:TypeId} {cs:Array Value},Blk w b t cs→t≠5→¬(b=g):=fun h1 h2=>h1.ne_ hc0 h2;obtain ⟨hap,_⟩:=ZFb h.apart;have hrows:a'.rows=a.rows:=by
  unfold Area.rows;rw[hn,hw,ZA2 hlx,ZA2 hly]
 refine ⟨⟨lv,nv,wv,hb.keeps k (hT hb (by decide)),?_,?_,?_,hd⟩,fun x hx=>?_,?_,?_⟩
 ·have:=ZB hl k (fun g' hg'=>by obtain ⟨c,hc⟩:=ZI hl hg';exact hT hc (by decide))
  simpa[hr] using this
 ·have:=ZB hnv k (fun g' hg'=>by obtain ⟨c,hc⟩:=ZI hnv hg';exact hT hc (by decide))
  simpa[hn] using this
 ·have:=ZB hwv k (fun g' hg'=>by obtain ⟨c,hc⟩:=ZI hwv hg';exact hT hc (by decide))
  simpa[hw] using this
 ·rcases List.mem_append.1 hx with hx|hx
  ·have h1:=h.each x (hmem x (Or.inl hx))
   exact h1.keeps k (fun y hy e=>hap x (Or.inl hx) g hga (e▸hy))
  ·rcases List.mem_cons.1 hx with rfl|hx
   ·exact ⟨by rw[hn];exact hnow,by rw[hw];exact hwas,by rw[hlx,hr];exact ha.lx,by rw[hly,hr];exact ha.ly,hbx,hby,by rw[hr];exact ha.ok⟩
   ·have h1:=h.each x (hmem x (Or.inr hx))
    exact h1.keeps k (fun y hy e=>hap x (Or.inr hx) g hga (e▸hy))
 ·have:=h.apart
  unfold rowsOf at this ⊢;rw[List.flatMap_append,List.flatMap_cons] at this ⊢;rw[hrows];exact this
 ·have:=h.few
  simpa using this
end
structure ZBI (w1:World) (g:Nat) (v:Value) (xs:List Int) (K:Nat) (cs:List Int) (j:Nat) (wr:World):Prop where
 row:ZCM wr v (splice xs K (cs.take j))
 keeps:ZE (· = g) w1 wr
theorem ZHu (xs:List Int) (K:Nat):splice xs K []=xs:=by simp[splice]
theorem ZGT {xs cs:List Int} {K j:Nat} (hfit:K+cs.length≤xs.length) (hj:j<cs.length):splice (splice xs K (cs.take j)) (K+j) [cs.getD j 0]=splice xs K (cs.take (j+1)):=by
 have hg:cs.getD j 0=cs[j]:=by simp[List.getD,hj]
 rw[hg,List.take_succ_eq_append_getElem hj];unfold splice;have hl1:(xs.take K).length=K:=by rw[List.length_take];omega
 have hl2:(cs.take j).length=j:=by rw[List.length_take];omega
 have e1:(xs.take K++cs.take j++xs.drop (K+(cs.take j).length)).take (K+j)=xs.take K++cs.take j:=by
  rw[List.take_append_of_le_length (by rw[List.length_append];omega),List.take_of_length_le (by rw[List.length_append];omega)]
 have e2:(xs.take K++cs.take j++xs.drop (K+(cs.take j).length)).drop (K+j + [cs[j]].length)=xs.drop (K+(cs.take j++[cs[j]]).length):=by
  rw[List.drop_append,List.drop_of_length_le (by rw[List.length_append];simp;omega),List.nil_append,List.drop_drop]
  congr 1
  rw[List.length_append,List.length_append,hl1,hl2];simp;omega
 rw[List.append_assoc] at e1 e2;rw[e1,e2];simp only[List.append_assoc]
theorem ZES {w1:World} {g:Nat} {v:Value} {xs:List Int} (K:Nat) (cs:List Int) (h:ZCM w1 v xs):ZBI w1 g v xs K cs 0 w1:=
 ⟨by rw[List.take_zero,ZHu];exact h,ZE.refl _ _⟩
theorem ZBI.drewN {w1 wr:World} {g:Nat} {v:Value} {xs cs:List Int} {K j:Nat} (h:ZBI w1 g v xs K cs j wr) (q:Nat):ZBI w1 g v xs K cs j (wr.drewN q):=⟨h.row,h.keeps.drewN q⟩
theorem ZBI.drew {w1 wr:World} {g:Nat} {v:Value} {xs cs:List Int} {K j:Nat} (h:ZBI w1 g v xs K cs j wr):ZBI w1 g v xs K cs j wr.drew:=⟨h.row,h.keeps.drew⟩
theorem ZBI.step {w1 wr:World} {g:Nat} {v:Value} {xs cs:List Int} {K j:Nat} (h:ZBI w1 g v xs K cs j wr) (hfit:K+cs.length≤xs.length) (hj:j<cs.length) (hg:g∈ZZ v xs) :
  ZBI w1 g v xs K cs (j+1) (wr.setCell ⟨g,K+j,none⟩ (.int .u8 (cs.getD j 0))):=by
 have hlen:(splice xs K (cs.take j)).length=xs.length:=length_splice _ _ _ (by rw[List.length_take];omega);have hg2:g∈ZZ v (splice xs K (cs.take j)):=by rw[ZA2 hlen];exact hg
 obtain ⟨cur,hb⟩:=h.row.blk_of hg2;have hsz:K+j<cur.size:=by
  obtain ⟨A,cap,rfl,h1,h2,h3⟩:=h.row;obtain ⟨g',cur2,rfl,hb2,hs,_⟩:=h3 (ZA5 hg2).1;have:g'=g:=by simpa[Value.ownBlock] using (ZA5 hg2).2
  subst this;obtain rfl:=hb2.inj hb;omega
 have hset:=hb.set_ (K+j) (.int .u8 (cs.getD j 0));have earr:cur.setIfInBounds (K+j) (.int .u8 (cs.getD j 0))=(splice cur.toList (K+j) ([cs.getD j 0].map (Value.int .u8))).toArray:=by
  apply Array.ext'
  rw[Array.toList_setIfInBounds];unfold splice;rw[List.set_eq_take_append_cons_drop,if_pos (by simpa using hsz)];simp
 rw[earr] at hset;refine ⟨?_,h.keeps.setCell (p:=⟨g,K+j,none⟩) (Or.inr rfl) _⟩
 rw[←ZGT hfit hj]
 exact h.row.spliced hg2 hb (by rw[hlen];simp;omega) hset
theorem ZBI.at_ {w1 wr:World} {g:Nat} {v:Value} {xs cs:List Int} {K j i:Nat} (h:ZBI w1 g v xs K cs j wr) (hfit:K+cs.length≤xs.length) (hi:i<xs.length) (hj:j≤cs.length) (hg:g∈ZZ v xs) :
  wr.frozen? ⟨g,i,none⟩=false∧∃u,wr.cell? ⟨g,i,none⟩=some u:=by
 have hlen:(splice xs K (cs.take j)).length=xs.length:=length_splice _ _ _ (by rw[List.length_take];omega);have hg2:g∈ZZ v (splice xs K (cs.take j)):=by rw[ZA2 hlen];exact hg
 obtain ⟨cur,hb⟩:=h.row.blk_of hg2;obtain ⟨g',cap,e,_,_,hg',hc⟩:=ZCZ h.row (by omega);have:g'=g:=by
  have h1:=(ZA5 hg2).2;rw[e] at h1
  simpa[Value.ownBlock] using h1
 subst this;exact ⟨hb.frozen i,_,hc i (by omega)⟩
theorem ZW.filled {w w1:World} {bm g:Nat} {ns:List Area} {at_ n:Int} {a:Area} {cs:List Int} {K p:Nat} (h:ZW w bm ns) (hp:ns[p]? = some a) (hha:a.has at_ n=true) (hpre:∀x∈ns.take p,x.has at_ n=false)
  (hK:at_-a.r.fr=(K:Int)) (hcs:(cs.length:Int)=n) (hcb:isBytes cs) (hg:g∈ZZ a.now a.xs) (hs:ZBI w g a.now a.xs K cs cs.length w1) :
  ZW w1 bm (ZH7 ns at_ n cs)∧ZE (·∈rowsOf ns) w w1∧rowsOf (ZH7 ns at_ n cs)=rowsOf ns:=by
 obtain ⟨hl,rfl⟩:=List.getElem?_eq_some_iff.1 hp;have hA:=h.each ns[p] (List.getElem_mem hl);have e:ns=ns.take p++(ns[p]::ns.drop (p+1)):=by rw[←List.drop_eq_getElem_cons hl,List.take_append_drop]
 have hin:(at_-ns[p].r.fr).toNat=K:=by omega
 have hhas:0<n∧ns[p].r.fr≤at_∧at_+n≤ns[p].r.fr+ns[p].r.sz:=by
  simp[Area.has,hasB] at hha;omega
 have hfit:K+cs.length≤ns[p].xs.length:=by have:=hA.lx;omega
 have hput:ZH7 ns at_ n cs=ns.take p++({ ns[p] with xs:=splice ns[p].xs K cs } :: ns.drop (p+1)):=by
  unfold ZH7
  conv=>lhs;rw[e]
  rw[ZI1 hha hpre,hin]
 have hrow:ZCM w1 ns[p].now (splice ns[p].xs K cs):=by have:=hs.row;rwa[List.take_of_length_le (Nat.le_refl _)] at this
 have hrn:ns[p].rows.Nodup:=by have:=h.apart;rw[e] at this;exact (ZFb this).2
 have hgw:g∉ZZ ns[p].was ns[p].ys:=fun hx=>by
  unfold Area.rows at hrn;exact (List.nodup_append.1 hrn).2.2 g hg g hx rfl
 have hrowsa:({ ns[p] with xs:=splice ns[p].xs K cs }:Area).rows=ns[p].rows:=by
  unfold Area.rows;rw[ZA2 (length_splice _ _ _ hfit)]
 refine ⟨?_,hs.keeps.mono (fun i _ e=>by subst e;exact List.mem_flatMap.2 ⟨ns[p],List.getElem_mem hl,List.mem_append_left _ hg⟩),?_⟩
 ·rw[hput]
  rw[e] at h;exact h.row_put (List.mem_append_left _ hg) hs.keeps rfl rfl rfl (length_splice _ _ _ hfit) rfl hrow (hA.was.keeps hs.keeps (fun y hy e=>hgw (e▸hy))) (ZFV hA.bx hcb) hA.bY
 ·rw[hput]
  conv=>rhs;rw[e]
  unfold rowsOf;rw[List.flatMap_append,List.flatMap_cons,List.flatMap_append,List.flatMap_cons,hrowsa]
theorem ZH6 (a:Int) (w:World) (h0:0≤a) (h1:a≤4294967295) :
  Calls Tryz.prog 90 #[.int .u32 a] w
   fun e w'=>e=.returned (.slice (some ⟨w.heap.size,0,none⟩) 4 4)∧w'=w.alloc (.cells #[.int .u8 (a%256),.int .u8 (a / 256%256),.int .u8 (a / 65536%256),.int .u8 (a / 16777216)] 5):=by
 go_enter Tryz.func90,Tryz.ntmps90
 go_wp2;go_ret;exact ⟨rfl,rfl⟩
def ZCI (bm:Nat) (ns:List Area) (at_ n v:Int) (w:World) (e:Ending) (w':World):Prop:=
 e=.returned (.int .i64 (storeR ns at_ n v).1)∧ZW w' bm (storeR ns at_ n v).2∧ZE (·∈rowsOf ns) w w'∧rowsOf (storeR ns at_ n v).2=rowsOf ns
theorem ZBi {bm:Nat} {ns:List Area} {at_ n v er:Int} {w w':World} {e:Ending} (hm:ZW w bm ns) (hr:storeR ns at_ n v=(er,ns)) (he:e=.returned (.int .i64 er)) (hb:Below w.heap.size w w'):ZCI bm ns at_ n v w e w':=by
 unfold ZCI;rw[hr];exact ⟨he,hm.below hb,ZC _ hb,rfl⟩
theorem ZAf (v:Int) {N:Nat} (hn:N≤4):(bytesOf v N).length=N:=by unfold bytesOf;simp;omega
theorem ZG3 (w:World) (v:Int) {j N:Nat} (hj:j<N) (hN:N≤4):(w.alloc (.cells #[.int .u8 (v%256),.int .u8 (v / 256%256),.int .u8 (v / 65536%256),.int .u8 (v / 16777216)] 5)).cell? ⟨w.heap.size,j,none⟩=some (.int .u8 ((bytesOf v N).getD j 0)):=by
 rw[(Blk.new w 5 _).cell]
 unfold bytesOf;obtain rfl|rfl|rfl|rfl:j=0∨j=1∨j=2∨j=3:=by omega
 all_goals simp[List.getD,List.getElem?_take,hj]
theorem ZHy (bm:Nat) (ns:List Area) (at_ n v:Int) (w:World) (hm:ZW w bm ns) (h0:0≤at_) (h1:at_≤4294967295) (hv0:0≤v) (hv1:v≤4294967295) :
  Calls Tryz.prog 46 #[.pointer (some ⟨bm,0,none⟩),.int .u32 at_,.int .i64 n,.int .u32 v] w (ZCI bm ns at_ n v w):=by
 have HM:=Zh hm;clear hm;go_enter Tryz.func46,Tryz.ntmps46
 go_wp2_with fail
 refine (ZBt bm ns _ _ _ HM.out h0 h1).mono ?_;rintro e w1 ⟨⟨i,k,er,rfl,hacc⟩,hb⟩;have HM1:=Zh (HM.out.below hb);have HB:=Zh hb;clear hb;rcases hacc with ⟨he,rfl,rfl,hac⟩|⟨rfl,p,a,rfl,hp,rfl,hac,ha,hpre⟩
 ·have heb:(er != 0)=true:=by simp[he]
  have HR:Hid (storeR ns at_ n v=(er,ns)):=by show storeR ns at_ n v=_;unfold storeR;rw[hac]
  clear he hac;go_wp2_with fail
  go_ret;exact ZBi HM.out HR.out rfl HB.out
 ·obtain ⟨_,hn,_,hfa⟩:=ZF7 hac
  obtain ⟨hpl,hpa⟩:=List.getElem?_eq_some_iff.1 hp;obtain ⟨gl,gn,gw,capl,capn,capw,ht⟩:=HM1.out.open_ (by omega);have c0:=ht.c0;have r3:w1.cell? ⟨gl,p*5+3,none⟩=some (.bool ns[p].r.wr):=ht.rng p hpl 3 _ rfl;rw[hpa] at r3;have l1:=ht.l1;have l2:=ht.l2;unfold maxLen at l2;have hplen:=hpl;obtain ⟨M,hM⟩:∃M,ns.length=M:=⟨_,rfl⟩
  rw[hM] at c0 l1 hpl;have hM16:M≤16:=by have:=HM1.out.few;omega
  have e3:(0:Int)≤(p:Int):=by omega
  have e4:(p:Int)<((M:Nat):Int):=by omega
  cases hwr:a.r.wr with
  | false=>
   have HR:Hid (storeR ns at_ n v=(32,ns)):=by show storeR ns at_ n v=_;unfold storeR;rw[hac];dsimp only;rw[hwr];rfl
   rw[hwr] at r3;clear hac ha hpre hp hpa hM ht hwr hfa hn;go_wp2_with fail
   go_ret;exact ZBi HM.out HR.out rfl HB.out
  | true=>
   obtain ⟨N,rfl⟩:∃N:Nat,n=(N:Int):=⟨n.toNat,by omega⟩
   have HR:Hid (storeR ns at_ (N:Int) v=(0,ZH7 ns at_ (N:Int) (bytesOf v N))):=by show storeR ns at_ (N:Int) v=_;unfold storeR;rw[hac];dsimp only;rw[hwr];rfl
   rw[hwr] at r3;have hhas:0<(N:Int)∧a.r.fr≤at_∧at_+(N:Int)≤a.r.fr+a.r.sz:=(ZBd hfa).2;have hA:=HM1.out.each a (ZBd hfa).1;obtain ⟨K,hK⟩:∃K:Nat,at_-a.r.fr=(K:Int):=⟨(at_-a.r.fr).toNat,by omega⟩
   have hlx:=hA.lx;have hN4:N≤4:=by omega
   have hN1:1≤N:=by omega
   have hKN:K+N≤a.xs.length:=by omega
   obtain ⟨g,capb,hnow,hb1,hb2,hgr,hbytes⟩:=ZCZ hA.now (by omega);have c1:=ht.c1;have cn:=ht.now p hplen;rw[hpa,hnow] at cn;have n1:=ht.n1;have n2:=ht.n2;rw[hM] at c1 n1;have hgnb:gn<w1.heap.size:=cell_lt (a:=⟨gn,p,none⟩) cn;have hbmb:bm<w1.heap.size:=cell_lt (a:=⟨bm,1,none⟩) c1;obtain ⟨bc,hbc⟩:∃bc,Blk w1 g 5 bc:=hA.now.blk_of hgr;have hgb:=hbc.lt;obtain ⟨lv,nv,wv,hbt,hl,hnv,hwv,hd⟩:=HM1.out.top;have hgbm:g≠bm:=hbc.ne_ hbt (by decide);have hggn:g≠gn:=by
    have:nv.ownBlock=some gn:=by
     have h1:w1.cell? ⟨bm,1,none⟩=some nv:=by rw[hbt.cell];rfl
     rw[c1] at h1;have:=Option.some.inj h1
     rw[←this];rfl
    obtain ⟨cc,hcc⟩:=ZI hnv this;exact hbc.ne_ hcc (by decide)
   have HP:=Zh (Za hp (Za ha hpre));have HK:=Zh hK;have HGR:=Zh hgr;have HNOW:=Zh hA.now;obtain ⟨L,hL⟩:∃L,a.xs.length=L:=⟨_,rfl⟩
   have HLL:=Zh hL;rw[hL] at cn hb1 hKN;have hL24:L≤16777216:=by have:=hA.ok.s1;omega
   rw[hK];unfold maxLen at n2 hb2;clear hac ha hpre hp hpa hM ht hwr hfa hn hbytes hA hnow hbc hbt hl hnv hwv hd hgr hK hL hhas hlx;go_wp2_with fail
   refine (ZH6 _ _ hv0 hv1).mono ?_;rintro e w2 ⟨rfl,hw2⟩;have HB2:Hid (Below w1.heap.size w1 w2):=by rw[hw2];exact (Below.refl _ _).alloc (Nat.le_refl _) _
   have HCB:Hid (∀j,j<N→w2.cell? ⟨w1.heap.size,j,none⟩=some (.int .u8 ((bytesOf v N).getD j 0))):=by rw[hw2];exact fun j hj=>ZG3 w1 v hj hN4
   have HF0:Hid (ZBI w2 g a.now a.xs K (bytesOf v N) 0 w2):=ZES K _ (HNOW.out.below HB2.out);obtain ⟨gb,hgbd⟩:∃gb,w1.heap.size=gb:=⟨_,rfl⟩
   have hgb2:gb<w2.heap.size:=by rw[hw2,←hgbd];exact (Blk.new _ _ _).lt
   have hggb:g≠gb:=by omega
   rw[hgbd] at hgnb hbmb hgb;have HCB':Hid (∀j,j<N→w2.cell? ⟨gb,j,none⟩=some (.int .u8 ((bytesOf v N).getD j 0))):=by rw[←hgbd];exact HCB
   have c1':=(HB2.out.cell (p:=⟨bm,1,none⟩) (by rw[hgbd];exact hbmb)).trans c1;have cn':=(HB2.out.cell (p:=⟨gn,p,none⟩) (by rw[hgbd];exact hgnb)).trans cn;have hbm2:bm<w2.heap.size:=by have:=HB2.out.size;omega
   have hgn2:gn<w2.heap.size:=by have:=HB2.out.size;omega
   rw[hgbd];have HGD:=Zh hgbd;clear HCB hw2 c0 c1 cn hgbd r3;go_wp2_with fail
   go_loopw [13] (fun i wr=>∃j:Nat,j≤N∧i=.int .i64 j∧Hid (ZBI w2 g a.now a.xs K (bytesOf v N) j wr)) (fun i _=>N-(intOf i).toNat)
   case atStart=>exact ⟨0,Nat.zero_le _,rfl,HF0.out⟩
   case round=>
    obtain ⟨j,hj,rfl,HF⟩:=hrel
    by_cases hlt:j<N
    ·have d1:=(HF.out.keeps.cell (p:=⟨bm,1,none⟩) hbm2 (fun e=>hgbm e.symm)).trans c1'
     have d2:=(HF.out.keeps.cell (p:=⟨gn,p,none⟩) hgn2 (fun e=>hggn e.symm)).trans cn';have d3:=(HF.out.keeps.cell (p:=⟨gb,j,none⟩) hgb2 (fun e=>hggb e.symm)).trans (HCB'.out j hlt);have HN:Hid (ZBI w2 g a.now a.xs K (bytesOf v N) (j+1) (wr.drew.setCell ⟨g,K+j,none⟩ (.int .u8 ((bytesOf v N).getD j 0)))):=
      HF.out.drew.step (by rw[ZAf v hN4,HLL.out];exact hKN) (by rw[ZAf v hN4];exact hlt) HGR.out
     obtain ⟨hfz,old,hold⟩:=HF.out.at_ (i:=K+j) (by rw[ZAf v hN4,HLL.out];exact hKN) (by rw[HLL.out];omega) (by rw[ZAf v hN4];omega) HGR.out;obtain ⟨x,hx⟩:∃x,(bytesOf v N).getD j 0=x:=⟨_,rfl⟩
     rw[hx] at d3 HN;clear hx;have e5:IntKind.i64.wrap ((K:Int)+(j:Int))=((K+j:Nat):Int):=by rw[IntWalk.i64_in _ (by omega)];omega
     obtain ⟨J,hJ⟩:∃J:Nat,K+j=J:=⟨_,rfl⟩
     rw[hJ] at e5 HN hfz hold;have e6:(0:Int)≤(J:Int):=by omega
     have e7:(J:Int)<((L:Nat):Int):=by omega
     have e8:(0:Int)≤(j:Int):=by omega
     have e9:(j:Int)<4:=by omega
     go_wp2_with fail
     go_still_tail 15,(by kernel_rfl)
     change wpList _ _ _ _ _ wr.drew
     go_wp2_with fail
     go_roundw
     case rel=>exact ⟨j+1,by omega,by go_num,HN.out⟩
     case measure=>simp[intOf];omega
    ·have hjN:j=N:=by omega
     obtain rfl:=hjN;have hcl:=ZAf v hN4;obtain ⟨q1,q2,q3⟩:=(HM1.out.below HB2.out).filled HP.out.1 HP.out.2.1 HP.out.2.2 HK.out (by rw[hcl]) (ZFA hv0 hv1 _) HGR.out (by rw[hcl];exact HF.out);have HFIN:Hid (ZCI bm ns at_ (j:Int) v w (.returned (.int .i64 0)) wr):=by
      refine ⟨by rw[HR.out],by rw[HR.out];exact q1,?_,by rw[HR.out];exact q3⟩;exact (ZC (·∈rowsOf ns) (HB.out.trans (HB2.out.mono HB.out.size))).trans q2 (fun i hi e=>e)
     clear q1 q2 q3 hcl;go_wp2_with fail
     go_ret;exact HFIN.out
end Go.Proofs.YtggmkofbikafhaaGreatDoor
