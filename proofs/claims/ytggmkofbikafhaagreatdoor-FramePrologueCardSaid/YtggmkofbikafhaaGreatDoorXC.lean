/- Walks and plain laws on the way to FramePrologue (Late, XM, XO, XC). Conditions: those that each theorem states. -/
import Derived.StillTail
import Derived.Laws.IdiomStrings
import Derived.Test.YtggmkofbikafhaaGreatDoorXJ
set_option linter.unusedVariables false
set_option linter.unusedSimpArgs false
set_option maxRecDepth 100000
set_option maxHeartbeats 40000000
namespace Go.Proofs.YtggmkofbikafhaaGreatDoor
open Go.RowKit
section
variable {P:Program} {ops:Array Oper} {Q:Exit→Act→World→Prop} {md:Region.Mode} {S:World→Prop} {L:Nat}
def ZA0 (P:Program) (md:Region.Mode) (ops:Array Oper) (Q:Exit→Act→World→Prop) (S:World→Prop) (L:Nat):Nat→Array Bool→Act→World→Prop
 | 0,listed,a,w=>Region.ready md ops listed=[]∧Q .normal a w
 | fuel+1,listed,a,w=>
  (Region.ready md ops listed=[]→Q .normal a w)∧
  ∀i∈Region.ready md ops listed,wpOp P ops Q i (fun a' w'=>(i≠L→S w')∧ZA0 P md ops Q S L fuel (listed.setIfInBounds i true) a' w') a w
theorem ZB0:∀(fuel:Nat) (listed:Array Bool) (a:Act) (w:World),ZA0 P md ops Q S L fuel listed a w→wpAny P md ops Q fuel listed a w
 | 0,_,_,_,h=>h
 | fuel+1,_,_,_,h=>⟨h.1,fun i hi=>wpOp_mono (fun a' w' h'=>ZB0 fuel _ a' w' h'.2) (h.2 i hi)⟩
theorem ZFN {i:Nat} {oi:Oper} {v:Value} (hi:ops[i]? = some oi) (hsel:∀(j:Nat) (o:Oper) cs b,ops[j]? = some o→o.op≠.select cs b)
  (hQ:∀c a w,Q (.panic c) (a.put oi.dst v) w→Q (.panic c) a w) {m:Nat} (hL:Region.waitsFor md ops L m=true) (hmi:m=i∨Region.waitsFor md ops m i=true) :
  ∀(fuel:Nat) (listed:Array Bool) (a:Act) (w:World),(m=i∨listed.getD m false=false)→
   (∀j oj,ops[j]? = some oj→j≠i→listed.getD j true=false→(∀e∈oj.after,Region.binds md e=true→e.on≠i)→oi.apart ops oj=true)→
   i∈Region.ready md ops listed→YieldsIf P ops S oi v a→S w→
   ZA0 P md ops Q S L fuel (listed.setIfInBounds i true) (a.put oi.dst v) w→ZA0 P md ops Q S L (fuel+1) listed a w:=by
 intro fuel
 induction fuel with
 | zero=>
  intro listed a w _ _ hr hy hS H;refine ⟨fun h=>(by rw[h] at hr;cases hr),fun j hj=>?_⟩
  by_cases hji:j=i
  ·subst hji;exact hy.wpOp hi hS ⟨fun _=>hS,H⟩
  ·have:=ready_mono hj hji
   rw[H.1] at this
   cases this
 | succ fuel ih=>
  intro listed a w hm hfree hr hy hS H;refine ⟨fun h=>(by rw[h] at hr;cases hr),fun j hj=>?_⟩
  by_cases hji:j=i
  ·subst hji;exact hy.wpOp hi hS ⟨fun _=>hS,H⟩
  ·have h1:=H.2 j (ready_mono hj hji)
   obtain ⟨hjun,oj,hoj,hall⟩:=mem_ready.1 hj;have hnot:∀e∈oj.after,Region.binds md e=true→e.on≠i:=fun e he hb heq=>by
    have h1:=hall e he hb;have h0:=(mem_ready.1 hr).1;rw[heq] at h1;rcases Nat.lt_or_ge i listed.size with h' | h'
    ·simp[h'] at h0 h1;rw[h0] at h1;cases h1
    ·simp[Array.getElem?_eq_none h'] at h1
   have hjL:j≠L:=by
    rintro rfl;obtain ⟨oL,hoL,e,he,hb,hon⟩:=Region.waitsFor_spec hL;have:oL=oj:=Option.some.inj (hoL.symm.trans hoj);subst this;rcases hm with rfl|hm
    ·exact hnot e he hb hon
    ·have h1:=hall e he hb
     rw[hon,hm] at h1
     cases h1
   have hm':m=i∨(listed.setIfInBounds j true).getD m false=false:=by
    rcases hm with hm|hm
    ·exact Or.inl hm
    ·rcases hmi with hmi|hmi
     ·exact Or.inl hmi
     ·refine Or.inr ?_
      rw[getD_set_ne false ?_]
      ·exact hm
      ·rintro rfl
       obtain ⟨om,hom,e,he,hb,hon⟩:=Region.waitsFor_spec hmi;have:om=oj:=Option.some.inj (hom.symm.trans hoj);subst this;exact hnot e he hb hon
   have h2:=wpOp_putIf hoj (hfree j oj hoj hji hjun hnot) (fun cs b=>hsel i oi cs b hi) (fun cs b=>hsel j oj cs b hoj) hQ hy h1;have hfree':∀k ok,ops[k]? = some ok→k≠i→(listed.setIfInBounds j true).getD k true=false→
     (∀e∈ok.after,Region.binds md e=true→e.on≠i)→oi.apart ops ok=true:=fun k ok hk hki hun hno=>by
    refine hfree k ok hk hki ?_ hno
    by_cases hjk:j=k
    ·subst hjk;exact hjun
    ·rw[getD_set_ne true hjk] at hun;exact hun
   refine wpOp_mono (fun a' w' h3=>⟨h3.2.1,ih (listed.setIfInBounds j true) a' w' hm' hfree' (ready_mono hr (Ne.symm hji)) h3.1 (h3.2.1 hjL) ?_⟩) h2;rw[Array.setIfInBounds_comm _ _ hji];exact h3.2.2
theorem ZGH {i:Nat} {oi:Oper} {v:Value} {fuel:Nat} {listed:Array Bool} {a:Act} {w:World} (hi:ops[i]? = some oi)
  (hs:Region.noSelect ops=true) (hf:Region.free md ops listed i=true) (hr:(Region.ready md ops listed).contains i=true) (m:Nat) (hL:(Region.waitsFor md ops L m&&(m==i || (Region.waitsFor md ops m i && !listed.getD m false)))=true)
  (hQ:∀c a w,Q (.panic c) (a.put oi.dst v) w→Q (.panic c) a w) (hS:S w) (hy:YieldsIf P ops S oi v a)
  (h:ZA0 P md ops Q S L fuel (listed.setIfInBounds i true) (a.put oi.dst v) w):ZA0 P md ops Q S L (fuel+1) listed a w:=by
 simp only[Bool.and_eq_true,Bool.or_eq_true,beq_iff_eq,Bool.not_eq_true'] at hL;exact ZFN hi (Region.noSelect_spec hs) hQ hL.1 (hL.2.imp id (·.1)) fuel listed a w (hL.2.imp id (·.2)) (Region.free_spec hi hf) (by simpa using hr) hy hS h
theorem TE {oi:Oper} {fuel:Nat} {listed:Array Bool} {a:Act} {w:World} (i:Nat) {v:Value} (m:Nat) (hi:ops[i]? = some oi)
  (h:ZA0 P md ops Q S L fuel (listed.setIfInBounds i true) (a.put oi.dst v) w)
  (hv:∀w,S w→(execOp a.eval oi).run P w=.ok (.value v) w:=by intro w h;(try dsimp only at h);first|(go_simp;done)|(go_simp;with_reducible rfl))
  (hw:Region.wanted oi (yielded ops a.tmps)=true:=by rfl) (hs:Region.noSelect ops=true:=by kernel_rfl) (hf:Region.free md ops listed i=true:=by kernel_rfl) (hr:(Region.ready md ops listed).contains i=true:=by kernel_rfl)
  (hL:(Region.waitsFor md ops L m&&(m==i || (Region.waitsFor md ops m i && !listed.getD m false)))=true:=by kernel_rfl) (hQ:∀c a w,Q (.panic c) (a.put oi.dst v) w→Q (.panic c) a w:=by exact fun _ _ _ h=>h) (hS:S w:=by assumption):ZA0 P md ops Q S L (fuel+1) listed a w:=
 ZGH hi hs hf hr m hL hQ hS (Or.inl ⟨hw,hv⟩) h
def ZG (P:Program) (md:Region.Mode) (ops:Array Oper) (Q:Exit→Act→World→Prop) (S:World→Prop) (L:Nat) (fuel:Nat) (listed:Array Bool) (a:Act) (w:World) (rs:List Nat):Prop:=
 ∀i∈rs,wpOp P ops Q i (fun a' w'=>(i≠L→S w')∧ZA0 P md ops Q S L fuel (listed.setIfInBounds i true) a' w') a w
theorem ZG.nil {fuel:Nat} {listed:Array Bool} {a:Act} {w:World}:ZG P md ops Q S L fuel listed a w []:=fun _ h=>by cases h
theorem ZG.cons {fuel:Nat} {listed:Array Bool} {a:Act} {w:World} {i:Nat} {o:Oper} {rs:List Nat} (ho:ops[i]? = some o)
  (h:∀K':Act→World→Prop,Shut (∀a w,(i≠L→S w)→((i≠L→S w)→ZA0 P md ops Q S L fuel (listed.setIfInBounds i true) a w)→K' a w)→if Region.wanted o (yielded ops a.tmps)=true then Oper.wp P o a w K' Q else K' (a.put o.dst undef) w)
  (hs:ZG P md ops Q S L fuel listed a w rs):ZG P md ops Q S L fuel listed a w (i::rs):=fun j hj=>by
 rcases List.mem_cons.1 hj with rfl|hj
 ·exact wpOp_step ho (fun K' hK=>h K' (fun a w hS hW=>hK a w ⟨hS,hW hS⟩))
 ·exact hs j hj
theorem ZH {rs:List Nat} {fuel:Nat} {listed:Array Bool} {a:Act} {w:World} (hr:Region.ready md ops listed=rs) (hne:rs≠[])
  (h:ZG P md ops Q S L fuel listed a w rs):ZA0 P md ops Q S L (fuel+1) listed a w:=
 ⟨fun h0=>absurd (hr▸h0) hne,hr▸h⟩
theorem ZAL {listed:Array Bool} {a:Act} {w:World} (hr:Region.ready md ops listed=[]) (h:Q .normal a w) :
  ∀fuel,ZA0 P md ops Q S L fuel listed a w
 | 0=>⟨hr,h⟩
 | _+1=>⟨fun _=>h,by rw[hr];simp⟩
theorem Zk {id:Nat} {a:Act} {w:World} (L:Nat) (hm:P.follows .mixedOrders=true) (hS:S w.drew)
  (h:S w.drew→ZA0 P .any ops Q S L ops.size (Array.replicate ops.size false) a w.drew):(Code.region id ops true).wp P Q a w:=
 wp_region_any hm (ZB0 _ _ _ _ (h hS))
end
end Go.Proofs.YtggmkofbikafhaaGreatDoor
namespace Go.Proofs.YtggmkofbikafhaaGreatDoor
open Go.RowKit Go.Lib
theorem ZGr (x:Lb):(lbc x).length=4:=rfl
theorem OwnL.name {W:World} {B g c:Nat} {l:List Lb} (h:OwnL W B (.slice (some ⟨g,0,none⟩) l.length c) l) {k:Nat} (hk:k<l.length):W.cell? ⟨g,k*4,none⟩=some (.string (str l[k].nm)):=by
 refine (Zc h).2.2.2.2.1 _ _ ?_;have:=Zg lbc 4 ZGr l k hk 0 (by omega);rw[Nat.add_zero] at this;rw[this]
 rfl
theorem ZJy (gs:Nat) (tv lv:Value) (tx nm:List UInt8) (lb:List Lb) (w:World) (h:StV w gs tv lv tx lb) (hnew:∀x∈lb,x.nm≠nm) (hlb:lb.length≤1000) (hl:tx.length≤1000000) :
  Calls Tryz.prog 66 #[.pointer (some ⟨gs,0,none⟩),.string (str nm)] w fun e w'=>e=.returned (.int .i64 0)∧StP gs tv lv tx (lb++[⟨nm,tx.length⟩]) w w':=by
 have hal:Below w.heap.size w ((w.alloc (.cells #[.string (str nm),.int .i64 0,.int .i64 (tx.length:Int),.bool false] 102)).drew):=ZAO (ZV _ _);have hA:=h.below hal;have hu:RowOf ((w.alloc (.cells #[.string (str nm),.int .i64 0,.int .i64 (tx.length:Int),.bool false] 102)).drew) (.slice (some ⟨w.heap.size,0,none⟩) 1 1) 1 (lbc ⟨nm,tx.length⟩):=by
  refine ⟨_,_,rfl,Nat.le_refl _,by decide,fun _=>⟨_,0,rfl,by simp[World.size_alloc],fun j u hj=>?_⟩⟩;rw[Nat.zero_add];refine ((Blk.new w 102 #[.string (str nm),.int .i64 0,.int .i64 (tx.length:Int),.bool false]).drew.cell j).trans ?_
  simpa[lbc] using hj
 obtain ⟨v',w1,e1,e2,e3,e4⟩:=app_any arowL 33 hA.l hu (by simp[lbc]) (by
  intro y hy;simp[lbc] at hy;rcases hy with rfl|rfl|rfl|rfl<;>rfl) (by unfold maxLen;omega) (by omega) (by have:=hA.b.lt;omega)
 have hk1:ZE (fun k=>lv.ownBlock=some k) w w1:=((ZC (fun k=>lv.ownBlock=some k) hal)).trans ((ZE.refl _ _).grown e3 (fun g hg=>Or.inr hg)) (fun _ _ h=>h);have hb1:Blk w1 gs 99 (stA tv lv):=h.b.keeps hk1 (fun e=>h.lne gs e rfl);have ht1:OwnB w1 (gs+1) tv tx:=ZB h.t hk1 (fun g hg e=>(h.tne g hg).2 e);have d0:w1.cell? ⟨gs,0,none⟩=some tv:=(hb1.cell 0).trans rfl;have d2:w1.cell? ⟨gs,2,none⟩=some lv:=(hb1.cell 2).trans rfl;have d4:w1.cell? ⟨gs,4,none⟩=some (.int .i64 0):=(hb1.cell 4).trans rfl;have f2:=hb1.frozen 2;have c0:w.cell? ⟨gs,0,none⟩=some tv:=(h.b.cell 0).trans rfl;have c2:w.cell? ⟨gs,2,none⟩=some lv:=(h.b.cell 2).trans rfl;have c4:w.cell? ⟨gs,4,none⟩=some (.int .i64 0):=(h.b.cell 4).trans rfl;have hk2:ZE (fun k=>k=gs) w1 (w1.setCell ⟨gs,2,none⟩ v'):=(ZE.refl (fun k=>k=gs) w1).setCell (p:=⟨gs,2,none⟩) (Or.inr rfl) v';have e2':OwnL w1 (gs+1) v' (lb++[⟨nm,tx.length⟩]):=by
  unfold OwnL;rw[List.length_append,List.flatMap_append]
  simpa using e2
 have hvne:∀g,v'.ownBlock=some g→¬g=gs:=by
  intro g hg e;obtain ⟨cu,hcu⟩:=ZI e2 hg;exact absurd (Blk.kind (e▸hcu) hb1) (by decide)
 have HN:=Zh (show StP gs tv lv tx (lb++[⟨nm,tx.length⟩]) w (w1.setCell ⟨gs,2,none⟩ v') from
  ⟨⟨tv,v',⟨hb1.set_ 2 v',ZB ht1 hk2 (fun g hg e=>(h.tne g hg).1 e),ZB e2' hk2 hvne⟩,fun k hk=>Or.inl hk,fun k hk=>by
    rcases e4 with e4|e4
    ·rw[e4] at hk;exact Or.inl hk
    ·rw[e4] at hk;injection hk with hk;right;rw[←hk];exact hal.size⟩,
   (hk1.mono (G:=stF gs tv lv) (fun i _ h=>Or.inr (Or.inr h))).trans hk2 (fun i _ e=>Or.inl e)⟩)
 have HH:=Zh (fun W hW=>ZHZ gs tv lv tx lb W hW);have HS:=Zh h;have HNE:=Zh hnew;have hap:=e1;obtain ⟨At,ct,rfl,-,-⟩:=ZR h.t;obtain ⟨Al,cl,rfl,-,-⟩:=ZAn h.l;obtain ⟨Av,cv,rfl,-,-⟩:=ZAn e2';clear h hnew e1 e2 e3 e4 hk1 hb1 ht1 hk2 e2' hvne hu hA hal;go_enter Tryz.func66,Tryz.ntmps66
 go_wp2_with fail
 go_loopw [5] (fun i wr=>∃k:Nat,k≤lb.length∧i=.int .i64 k∧wr=w) (fun i _=>lb.length-(intOf i).toNat)
 case atStart=>exact ⟨0,Nat.zero_le _,rfl,rfl⟩
 case round=>
  obtain ⟨k,hk,rfl,rfl⟩:=hrel
  by_cases hlt:k<lb.length
  ·obtain ⟨gl,cl',hgl⟩:=ZAJ HS.out.l (by omega)
   injection hgl with hgl1 hgl2 hgl3
   subst hgl1;have hname:=HS.out.l.name hlt;have hne0:str lb[k].nm≠str nm:=fun e=>HNE.out lb[k] (List.getElem_mem hlt) (ZBq e);obtain ⟨s1,hs1⟩:∃s,str lb[k].nm=s:=⟨_,rfl⟩
   rw[hs1] at hname hne0;have hne:(s1.toList==(str nm).toList)=false:=beq_eq_false_iff_ne.2 (fun e=>hne0 (eq_of_toList e));clear hs1 hne0 hap HN d0 d2 d4 f2;go_wp2_with fail
   go_roundw
   case rel=>exact ⟨k+1,by omega,by go_num,trivial⟩
   case measure=>simp[intOf];omega
  ·have hke:k=lb.length:=by omega
   subst hke;clear hk hlt;go_wp2_with fail
   refine Zk (S:=fun W'=>(W'.cell? ⟨gs,0,none⟩=some (.slice At tx.length ct)∧W'.cell? ⟨gs,2,none⟩=some (.slice Al lb.length cl)∧W'.cell? ⟨gs,4,none⟩=some (.int .i64 0))) 19 (by kernel_rfl) ⟨c0,c2,c4⟩ (fun hS0=>?_);refine TE 0 0 rfl ?_;simp only[AP];refine TE 1 1 rfl ?_;simp only[AP];refine TE 2 2 rfl ?_;simp only[AP];refine TE 3 3 rfl ?_;simp only[AP];refine TE 4 4 rfl ?_;simp only[AP];refine TE 5 5 rfl ?_;simp only[AP];refine TE 6 6 rfl ?_;simp only[AP];refine TE 7 7 rfl ?_;simp only[AP];refine TE 8 8 rfl ?_;simp only[AP];refine TE 9 9 rfl ?_;simp only[AP];refine TE 10 10 rfl ?_;simp only[AP];refine TE 11 11 rfl ?_;simp only[AP];refine ZH (rs:=[12]) (by kernel_rfl) (by simp) ?_;refine ZG.cons rfl (fun K hK=>?_) ZG.nil;rw[if_pos (by rfl)];go_simp;go_at_call 106;refine (HH.out _ (HS.out.below (ZAO (Below.refl _ _)))).mono ?_;rintro e w4 ⟨rfl,rfl⟩;try go_wp2_with fail
   refine hK.out _ _ (fun _=>hS0) (fun hSq=>?_);clear hSq hK K;try simp only[AP]
   refine ZH (rs:=[13]) (by kernel_rfl) (by simp) ?_;refine ZG.cons rfl (fun K hK=>?_) ZG.nil;go_simp;refine hK.out _ _ (fun _=>hS0) (fun hSq=>?_);clear hSq hK K;try simp only[AP]
   refine ZH (rs:=[14]) (by kernel_rfl) (by simp) ?_;refine ZG.cons rfl (fun K hK=>?_) ZG.nil;go_simp;refine hK.out _ _ (fun _=>⟨ZJ hS0.1 _,ZJ hS0.2.1 _,ZJ hS0.2.2 _⟩) (fun hSq=>?_);clear hSq hK K;try simp only[AP]
   refine ZH (rs:=[15]) (by kernel_rfl) (by simp) ?_;refine ZG.cons rfl (fun K hK=>?_) ZG.nil;refine ZL (by rfl) (.tmp 32) (.tmp 41) 33 (by rfl) (by rfl) (by rfl) hap ?_;refine hK.out _ _ (fun _=>⟨d0,d2,d4⟩) (fun hSq=>?_);have hS5:=hSq (by decide);clear hSq hK K hS0;try simp only[AP]
   refine ZH (rs:=[16]) (by kernel_rfl) (by simp) ?_;refine ZG.cons rfl (fun K hK=>?_) ZG.nil;go_simp;refine hK.out _ _ (fun _=>hS5) (fun _=>?_);clear hK K;try simp only[AP]
   refine ZH (rs:=[17]) (by kernel_rfl) (by simp) ?_;refine ZG.cons rfl (fun K hK=>?_) ZG.nil;go_simp;refine hK.out _ _ (fun _=>hS5) (fun _=>?_);clear hK K;try simp only[AP]
   refine ZH (rs:=[18]) (by kernel_rfl) (by simp) ?_;refine ZG.cons rfl (fun K hK=>?_) ZG.nil;go_simp;refine hK.out _ _ (fun _=>hS5) (fun _=>?_);clear hK K;try simp only[AP]
   refine ZH (rs:=[19]) (by kernel_rfl) (by simp) ?_;refine ZG.cons rfl (fun K hK=>?_) ZG.nil;go_simp;refine hK.out _ _ (fun h=>absurd rfl h) (fun _=>?_);clear hK K;try simp only[AP]
   refine ZAL (by kernel_rfl) ?_ _;clear d0 d2 d4 hS5;go_wp2_with fail
   go_ret;exact ⟨rfl,by have h9:=HN.out;rw[List.length_append] at h9;exact h9⟩
def ZBJ (ss:List ByteArray) (s:ByteArray):Bool:=ss.any fun x=>x.toList==s.toList
theorem ZK0 {ss:List ByteArray} {s x:ByteArray} {k:Nat} (h:ss[k]? = some x) (he:(x.toList==s.toList)=true):ZBJ ss s=true:=by
 unfold ZBJ;rw[List.any_eq_true];exact ⟨x,List.mem_of_getElem? h,he⟩
theorem ZIm {ss:List ByteArray} {s:ByteArray} {k:Nat} (hk:ss.length≤k) (h:ZBJ (ss.take k) s=false):ZBJ ss s=false:=by
 rwa[List.take_of_length_le hk] at h
theorem ZIn {ss:List ByteArray} {s x:ByteArray} {k:Nat} (hx:ss[k]? = some x) (h:ZBJ (ss.take k) s=false) (he:(x.toList==s.toList)=false):ZBJ (ss.take (k+1)) s=false:=by
 obtain ⟨hk,rfl⟩:=List.getElem?_eq_some_iff.1 hx;unfold ZBJ at h ⊢;rw[List.take_succ_eq_append_getElem hk,List.any_append,h];simp[he]
theorem in_any (g off cap:Nat) (ss:List ByteArray) (s:ByteArray) (w:World) (hcap:ss.length≤cap) (hmax:cap≤maxLen) (hc:∀i s,ss[i]? = some s→w.cell? ⟨g,off+i,none⟩=some (.string s)) :
  Calls Tryz.prog 103 #[.slice (some ⟨g,off,none⟩) ss.length cap,.string s] w fun e w'=>e=.returned (.bool (ZBJ ss s))∧w=w':=by
 have HC:=Zh hc;clear hc;unfold maxLen at hmax;obtain ⟨N,hN⟩:∃N,ss.length=N:=⟨_,rfl⟩
 rw[hN] at hcap ⊢;have HN:=Zh hN;clear hN;obtain ⟨R,hR⟩:∃R,ZBJ ss s=R:=⟨_,rfl⟩
 have HR:=Zh hR;rw[hR];clear hR;go_enter Tryz.func103,Tryz.ntmps103
 go_wp2
 go_loop [5] (fun i=>∃k:Nat,k≤N∧i=.int .i64 k∧Hid (ZBJ (ss.take k) s=false)) (fun i=>N-(intOf i).toNat)
 case atStart=>exact ⟨0,Nat.zero_le _,rfl,rfl⟩
 case round=>
  obtain ⟨k,hk,rfl,HA⟩:=hrel
  by_cases hlt:k<N
  ·have hkl:k<ss.length:=by rw[HN.out];exact hlt
   obtain ⟨x,hx⟩:∃x,ss[k]? = some x:=⟨_,List.getElem?_eq_getElem hkl⟩
   have c1:=HC.out k x hx;have HX:=Zh hx;clear hx
   cases he:(x.toList==s.toList) with
   | true=>
    have hfin:R=true:=by rw[←HR.out];exact ZK0 HX.out he
    have HF:=Zh hfin;clear hfin;go_wp2;go_ret;exact ⟨ZF HF.out.symm,rfl⟩
   | false=>
    have HF:=Zh (ZIn HX.out HA.out he);go_wp2
    go_round
    case rel=>exact ⟨k+1,by omega,by go_num,HF.out⟩
    case measure=>simp[intOf];omega
  ·have hfin:R=false:=by rw[←HR.out];exact ZIm (by rw[HN.out];omega) HA.out
   have HF:=Zh hfin;clear hfin;go_wp2;go_ret;exact ⟨ZF HF.out.symm,rfl⟩
def opsL:List ByteArray:=[⟨#[97,100,100]⟩,⟨#[115,117,98]⟩,⟨#[109,117,108]⟩,⟨#[100,105,118]⟩,⟨#[100,105,118,117]⟩,⟨#[114,101,109]⟩,⟨#[114,101,109,117]⟩,⟨#[97,110,100]⟩,⟨#[111,114]⟩,⟨#[120,111,114]⟩,⟨#[115,104,108]⟩,⟨#[115,104,114]⟩,⟨#[115,104,114,117]⟩,⟨#[108,116]⟩,⟨#[108,116,117]⟩,⟨#[101,113]⟩,⟨#[110,101]⟩,⟨#[97,100,100,105]⟩,⟨#[97,110,100,105]⟩,⟨#[111,114,105]⟩,⟨#[120,111,114,105]⟩,⟨#[115,104,108,105]⟩,⟨#[115,104,114,105]⟩,⟨#[115,104,114,117,105]⟩,⟨#[108,105]⟩,⟨#[108,117,105]⟩,⟨#[101,120,116]⟩,⟨#[108,119]⟩,⟨#[108,104]⟩,⟨#[108,98]⟩,⟨#[115,119]⟩,⟨#[115,104]⟩,⟨#[115,98]⟩,⟨#[98,122]⟩,⟨#[98,110,122]⟩,⟨#[98,108,117]⟩,⟨#[106,117,109,112]⟩,⟨#[99,97,108,108]⟩,⟨#[114,101,103]⟩,⟨#[99,97,108,108,114]⟩,⟨#[115,121,115]⟩,⟨#[116,114,97,112]⟩]
def dirA:List ByteArray:=[⟨#[46,116,101,120,116]⟩,⟨#[46,100,97,116,97]⟩,⟨#[46,103,108,111,98,97,108]⟩,⟨#[46,97,108,105,103,110]⟩,⟨#[46,119,111,114,100]⟩,⟨#[46,98,121,116,101]⟩,⟨#[46,115,112,97,99,101]⟩]
def dirB:List ByteArray:=[⟨#[108,97]⟩,⟨#[99,111,110,115,116]⟩,⟨#[104,105,103,104]⟩,⟨#[108,111,119]⟩]
theorem ZJJ (w:World) (ss:List ByteArray):∀i s,ss[i]? = some s→(w.alloc (.cells (ss.map Value.string).toArray 9)).cell? ⟨w.heap.size,0+i,none⟩=some (.string s):=by
 intro i s h;rw[Nat.zero_add,World.cell?_alloc_at _ _ _ _ rfl];simp[h]
theorem ZGV (w:World):Calls Tryz.prog 104 #[] w fun e w'=>e=.returned (.slice (some ⟨w.heap.size,0,none⟩) 53 53)∧w.alloc (.cells ((opsL++dirB++dirA).map Value.string).toArray 9)=w':=by
 go_enter Tryz.func104,Tryz.ntmps104
 go_wp2;go_ret;exact ⟨rfl,rfl⟩
theorem ZGw (s:ByteArray) (w:World) :
  Calls Tryz.prog 103 #[.slice (some ⟨w.heap.size,0,none⟩) 53 53,.string s] (w.alloc (.cells ((opsL++dirB++dirA).map Value.string).toArray 9)) fun e w'=>e=.returned (.bool (ZBJ (opsL++dirB++dirA) s))∧w.alloc (.cells ((opsL++dirB++dirA).map Value.string).toArray 9)=w':=
 in_any w.heap.size 0 53 (opsL++dirB++dirA) s _ (by decide) (by decide) (ZJJ w _)
theorem ZGn (c:Int) (w:World) (h1:97≤c) (h2:c≤122):Calls Tryz.prog 102 #[.int .u8 c] w fun e w'=>e=.returned (.bool true)∧w'=w:=by
 go_enter Tryz.func102,Tryz.ntmps102
 go_wp2;go_ret;exact ⟨rfl,rfl⟩
theorem ZFf (c:Int) (w:World) (h1:97≤c) (h2:c≤122):Calls Tryz.prog 105 #[.int .u8 c] w fun e w'=>e=.returned (.bool false)∧w'=w:=by
 have hd:decide (c≤57)=false:=by simp;omega
 go_enter Tryz.func105,Tryz.ntmps105
 go_wp2;go_ret;exact ⟨rfl,rfl⟩
structure Low (l:List UInt8):Prop where
 pos:0<l.length
 le:l.length≤60
 low:∀c∈l,97≤c.toNat∧c.toNat≤122
 r:∀c,l[0]? = some c→c.toNat≠114
 no:ZBJ (opsL++dirB++dirA) (str l)=false
theorem ZI7 (l:List UInt8) (w:World) (h:Low l) :
  Calls Tryz.prog 65 #[.string (str l)] w fun e w'=>e=.returned (.bool true)∧Below w.heap.size w w':=by
 have hsz:(str l).size=l.length:=Zb l;have hg:∀k (h:k<(str l).size) (h2:k<l.length),((str l)[k]'h)=l[k]:=fun k h h2=>ZAu h;have hno:=h.no;have hie:(str l).toList.isEmpty=false:=by
  rw[Lib.toList_data,ZU];have:=h.pos
  cases l with
  | nil=>simp at this
  | cons a r=>rfl
 obtain ⟨s,hs⟩:∃s,str l=s:=⟨_,rfl⟩
 rw[hs] at hsz hno hie;have HG:Hid (∀k (h:k<s.size) (h2:k<l.length),(s[k]'h)=l[k]):=by subst hs;exact hg
 rw[hs];have hp:=h.pos;have hle:=h.le
 rw[←hsz] at hp hle
 have hch:∀k (hk:k<s.size),97≤(s[k]'hk).toNat∧(s[k]'hk).toNat≤122:=by
  intro k hk;rw[HG.out k hk (by omega)];exact h.low _ (List.getElem_mem _)
 have hr:(s[0]'hp).toNat≠114:=by
  rw[HG.out 0 hp (by omega)];exact h.r _ (List.getElem?_eq_getElem (by omega))
 have HCH:=Zh hch;obtain ⟨c,hc⟩:∃c:Nat,(s[0]'hp).toNat=c:=⟨_,rfl⟩
 obtain ⟨h1,h2⟩:=hch 0 hp;rw[hc] at h1 h2 hr;have hr2:((c:Int)==114)=false:=by
  have:(c:Int)≠114:=by omega
  simpa using this
 clear hs hg hsz h HG hch;have hin:=ZGw s w;rw[hno] at hin;have hbel:=ZV w (.cells ((opsL++dirB++dirA).map Value.string).toArray 9);obtain ⟨w1,hw1⟩:∃w1,w.alloc (.cells ((opsL++dirB++dirA).map Value.string).toArray 9)=w1:=⟨_,rfl⟩
 have HWD:=Zh (ZGV w);rw[hw1] at hin hbel HWD;have HIN:=Zh hin;have HB:=Zh hbel;clear hin hbel hw1 hno;go_enter Tryz.func65,Tryz.ntmps65
 go_wp2_with (go_at_call 102;refine (ZGn _ _ (by omega) (by omega)).mono ?_;rintro e w' ⟨rfl,rfl⟩)
 refine HWD.out.mono ?_;rintro e w2 ⟨rfl,rfl⟩;go_wp2_with fail
 refine HIN.out.mono ?_;rintro e w2 ⟨rfl,rfl⟩;go_wp2_with fail
 go_loopw [3,4] (fun o i wr=>∃k:Nat,k≤s.size∧i=.int .i64 k∧o=.bool false∧wr=w1) (fun _ i _=>s.size-(intOf i).toNat)
 case atStart=>exact ⟨0,Nat.zero_le _,rfl,rfl,rfl⟩
 case round=>
  obtain ⟨k,hk,rfl,rfl,rfl⟩:=hrel
  by_cases hlt:k<s.size
  ·obtain ⟨x,hx⟩:∃x:Nat,(s[k]'hlt).toNat=x:=⟨_,rfl⟩
   obtain ⟨x1,x2⟩:=HCH.out k hlt;rw[hx] at x1 x2
   by_cases hk0:0<k
   ·go_wp2_with (first|(go_at_call 102;refine (ZGn _ _ (by omega) (by omega)).mono ?_;rintro e w' ⟨rfl,rfl⟩)|(go_at_call 105;refine (ZFf _ _ (by omega) (by omega)).mono ?_;rintro e w' ⟨rfl,rfl⟩))
    go_roundw
    case rel=>exact ⟨k+1,by omega,by go_num,rfl,trivial⟩
    case measure=>simp[intOf];omega
   ·have hk1:decide (0<k)=false:=by simpa using hk0
    go_wp2_with (first|(go_at_call 102;refine (ZGn _ _ (by omega) (by omega)).mono ?_;rintro e w' ⟨rfl,rfl⟩)|(go_at_call 105;refine (ZFf _ _ (by omega) (by omega)).mono ?_;rintro e w' ⟨rfl,rfl⟩))
    go_roundw
    case rel=>exact ⟨k+1,by omega,by go_num,rfl,trivial⟩
    case measure=>simp[intOf];omega
  ·go_wp2_with fail
   go_ret;exact ⟨rfl,HB.out⟩
theorem dec_one {v:Nat} (h:v<10):decDigits v=[UInt8.ofNat (48+v%10)]:=by
 rw[decDigits,dif_pos h,Nat.mod_eq_of_lt h]
theorem dec_more {v:Nat} (h:¬v<10):decDigits v=decDigits (v / 10)++[UInt8.ofNat (48+v%10)]:=by
 rw[decDigits,dif_neg h]
theorem ZKu (N:Nat) (w:World) (hN:N<1000000000000) :
  Calls Tryz.prog 186 #[.int .i64 (N:Int)] w fun e w'=>e=.returned (.string (str (decDigits N)))∧Below w.heap.size w w':=by
 go_enter Tryz.func186,Tryz.ntmps186
 go_wp2_with fail
 go_loopw [0,4] (fun i s wr=>∃(v:Nat) (suf:List UInt8),v≤N∧i=.int .i64 (v:Int)∧s=.string (str suf)∧Hid (decDigits N=decDigits v++suf)∧suf.length≤21∧Hid (Below w.heap.size w wr)) (fun i _ _=>(intOf i).toNat)
 case atStart=>exact ⟨N,[],Nat.le_refl _,rfl,rfl,(List.append_nil _).symm,by decide,Below.refl _ _⟩
 case round=>
  obtain ⟨v,suf,hv,rfl,rfl,HD,hsl,HB⟩:=hrel;have hm:(v:Int).tmod 10=((v%10:Nat):Int):=by rw[Int.tmod_eq_emod_of_nonneg (by omega)];omega
  have hq:(v:Int).tdiv 10=((v / 10:Nat):Int):=by rw[Int.tdiv_eq_ediv_of_nonneg (by omega)];omega
  have hcv:(convert 32 9 (.slice (some ⟨wr.heap.size,0,none⟩) 1 1)).run Tryz.prog (wr.alloc (.cells #[.int .u8 (48+(v:Int)%10)] 5))=.ok (.string (str [UInt8.ofNat (48+v%10)])) (wr.alloc (.cells #[.int .u8 (48+(v:Int)%10)] 5)):=by
   refine run_convert_bytes_back _ 32 9 5 ⟨wr.heap.size,0,none⟩ 1 [UInt8.ofNat (48+v%10)] Tryz.underlying32 Tryz.underlying5 Tryz.underlying9 (fun j hj=>?_);have hj0:j=0:=by simpa using hj
   subst hj0;rw[addr_add,Nat.add_zero,(Blk.new wr 5 #[.int .u8 (48+(v:Int)%10)]).cell];simp only[List.getElem_cons_zero];rw[ZDV (by omega)];have:((48+v%10:Nat):Int)=48+(v:Int)%10:=by omega
   rw[this];rfl
  have hadd:=fun W=>run_string_add_sum (P:=Tryz.prog) W (str [UInt8.ofNat (48+v%10)]) (str suf) (by rw[Zb,Zb];simp;omega);simp only[ZCN,List.singleton_append] at hadd;obtain ⟨c,hc⟩:∃c,UInt8.ofNat (48+v%10)=c:=⟨_,rfl⟩
  rw[hc] at hcv hadd;have HB2:=Zh (HB.out.trans (ZA (ZV wr (.cells #[.int .u8 (48+(v:Int)%10)] 5)) HB.out.size));have hlen:suf.length<21:=by
   have h1:=congrArg List.length HD.out;rw[List.length_append] at h1;have h2:=ZQ (u:=N) (k:=12) (by simpa using hN) (by decide);have h3:=ZAC v;omega
  by_cases h10:v<10
  ·have hv0:v / 10=0:=by omega
   have HF:=Zh (show decDigits N=c::suf from by rw[HD.out,dec_one h10,hc];rfl);have hz:((v:Int) / 10==0)=true:=by
    have:(v:Int) / 10=0:=by omega
    simpa using this
   clear HD HB hc hm hq;go_wp2_with fail
   go_ret;exact ⟨by rw[HF.out];rfl,HB2.out⟩
  ·have HF:=Zh (show decDigits N=decDigits (v / 10)++c::suf from by rw[HD.out,dec_more h10,hc,List.append_assoc];rfl)
   have hz:((v:Int) / 10==0)=false:=by
    have:(v:Int) / 10≠0:=by omega
    simpa using this
   clear HD HB hc hm hq;go_wp2_with fail
   go_roundw
   case rel=>exact ⟨v / 10,c::suf,by omega,by go_num,rfl,HF.out,by simp;omega,HB2.out⟩
   case measure=>simp[intOf];omega
end Go.Proofs.YtggmkofbikafhaaGreatDoor
