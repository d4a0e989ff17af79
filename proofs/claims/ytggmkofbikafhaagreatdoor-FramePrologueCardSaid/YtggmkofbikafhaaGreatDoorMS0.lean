/- Walks and plain laws on the way to FramePrologue (QA, QB, MS0). Conditions: those that each theorem states. -/
import Derived.Test.YtggmkofbikafhaaGreatDoorMN
set_option linter.unusedVariables false
set_option linter.unusedSimpArgs false
set_option maxRecDepth 100000
set_option maxHeartbeats 40000000
namespace Go.Proofs.YtggmkofbikafhaaGreatDoor
open Go.RowKit
def KM (ns:List Area) (T:Nat) (X Y:List Int):Prop:=ns.map Area.key=[(ZAv T,X,X),(ZEb T,[],[]),(ZDi T,Y,List.replicate 16384 0)]
theorem KM.ex {ns:List Area} {T:Nat} {X Y:List Int} (h:KM ns T X Y):∃a d s:Area,ns=[a,d,s]∧(a.r=ZAv T∧a.xs=X∧a.ys=X)∧(d.r=ZEb T∧d.xs=[]∧d.ys=[])∧s.r=ZDi T∧s.xs=Y∧s.ys=List.replicate 16384 0:=by
 unfold KM at h
 match ns,h with
 | [],h=>exact absurd (congrArg List.length h) (by simp only[List.length_map,List.length_cons,List.length_nil];omega)
 | [a],h=>exact absurd (congrArg List.length h) (by simp only[List.length_map,List.length_cons,List.length_nil];omega)
 | [a,d],h=>exact absurd (congrArg List.length h) (by simp only[List.length_map,List.length_cons,List.length_nil];omega)
 | a::d::s::t::r,h=>exact absurd (congrArg List.length h) (by simp only[List.length_map,List.length_cons,List.length_nil];omega)
 | [a,d,s],h=>
  simp only[List.map_cons,List.map_nil,Area.key,List.cons.injEq,Prod.mk.injEq,and_true] at h;exact ⟨a,d,s,rfl,h.1,h.2.1,h.2.2⟩
theorem acc_T {a d s:Area} {T:Nat} {p:Int} (ha:a.r=ZAv T) (h4:p%4=0) (h1:4096≤p) (h2:p+4≤4096+T):ZF8 [a,d,s] p 4=(0,some a):=by
 have hh:a.has p 4=true:=by simp[Area.has,hasB,ha,ZAv];omega
 simp[ZF8,ZBK,List.find?,hh,h4]
theorem acc_K {a d s:Area} {T:Nat} {p:Int} (ha:a.r=ZAv T) (hd:d.r=ZEb T) (hs:s.r=ZDi T) (h4:p%4=0) (h1:4096+T≤p) (h2:p+4≤4096+T+16384):ZF8 [a,d,s] p 4=(0,some s):=by
 have e1:a.has p 4=false:=by simp[Area.has,hasB,ha,ZAv];omega
 have e2:d.has p 4=false:=by simp[Area.has,hasB,hd,ZEb];omega
 have e3:s.has p 4=true:=by simp[Area.has,hasB,hs,ZDi];omega
 simp[ZF8,ZBK,List.find?,e1,e2,e3,h4]
def wd (Y:List Int) (o:Nat):Int:=Y.getD o 0+256*(Y.getD (o+1) 0+256*(Y.getD (o+2) 0+256*Y.getD (o+3) 0))
theorem ZJw {Y:List Int} {o:Nat} (h:o+4≤Y.length):leW (cut Y o 4)=wd Y o:=by
 have e:cut Y o 4=[Y[o],Y[o+1],Y[o+2],Y[o+3]]:=by
  unfold cut;rw[List.drop_eq_getElem_cons (by omega),List.take_succ_cons,List.drop_eq_getElem_cons (by omega),List.take_succ_cons,List.drop_eq_getElem_cons (by omega),List.take_succ_cons,List.drop_eq_getElem_cons (by omega),List.take_succ_cons,List.take_zero]
 rw[e];unfold wd;simp only[leW,List.getD_eq_getElem?_getD,List.getElem?_eq_getElem (show o<Y.length by omega),List.getElem?_eq_getElem (show o+1<Y.length by omega),List.getElem?_eq_getElem (show o+2<Y.length by omega),List.getElem?_eq_getElem (show o+3<Y.length by omega),Option.getD_some];omega
theorem KM.fetch {ns:List Area} {T:Nat} {X Y:List Int} (h:KM ns T X Y) {p j:Nat} (hp:p=4096+4*j) (hj:4*j+4≤T) (hX:4*j+4≤X.length):fetchR ns (p:Int)=(wd X (4*j),0):=by
 obtain ⟨a,d,s,rfl,⟨ha,hax,_⟩,_,_⟩:=h.ex;have hacc:=acc_T (a:=a) (d:=d) (s:=s) (p:=(p:Int)) ha (by omega) (by omega) (by omega);unfold fetchR loadR;rw[hacc];simp only[ha,ZAv,if_true,hax];rw[show ((p:Int)-4096).toNat=4*j by omega,show (4:Int).toNat=4 from rfl,ZJw hX]
theorem KM.load {ns:List Area} {T:Nat} {X Y:List Int} (h:KM ns T X Y) {p o:Nat} (hp:p=4096+T+o) (h4:p%4=0) (ho:o+4≤16384) (hY:Y.length=16384):loadR ns (p:Int) 4=(wd Y o,0):=by
 obtain ⟨a,d,s,rfl,⟨ha,_,_⟩,⟨hd,_,_⟩,hs,hsx,_⟩:=h.ex;have hacc:=acc_K (p:=(p:Int)) ha hd hs (by omega) (by omega) (by omega);unfold loadR;rw[hacc];simp only[hs,ZDi,hsx];rw[show ((p:Int)-(4096+(T:Int))).toNat=o by omega,show (4:Int).toNat=4 from rfl,ZJw (by omega)]
theorem KM.store {ns:List Area} {T:Nat} {X Y:List Int} (h:KM ns T X Y) {p o:Nat} (hp:p=4096+T+o) (h4:p%4=0) (ho:o+4≤16384) (v:Int):∃ns',storeR ns (p:Int) 4 v=(0,ns')∧KM ns' T X (splice Y o (bytesOf v 4)):=by
 obtain ⟨a,d,s,rfl,⟨ha,hax,hay⟩,⟨hd,hdx,hdy⟩,hs,hsx,hsy⟩:=h.ex;have hacc:=acc_K (p:=(p:Int)) ha hd hs (by omega) (by omega) (by omega);have e1:a.has p 4=false:=by simp[Area.has,hasB,ha,ZAv];omega
 have e2:d.has p 4=false:=by simp[Area.has,hasB,hd,ZEb];omega
 have e3:s.has p 4=true:=by simp[Area.has,hasB,hs,ZDi];omega
 refine ⟨ZH7 [a,d,s] (p:Int) 4 (bytesOf v 4),?_,?_⟩
 ·unfold storeR
  rw[hacc];simp only[hs,ZDi,if_true]
  rfl
 ·unfold KM ZH7
  simp only[updA,e1,e2,e3,if_true,Bool.false_eq_true,if_false,List.map_cons,List.map_nil,Area.key,hs,hsx,hsy,ha,hax,hay,hd,hdx,hdy];rw[show ((p:Int)-(ZDi T).fr).toNat=o by simp[ZDi];omega]
theorem ZBA {Y cs:List Int} {o j:Nat} (h:o+cs.length≤Y.length):(splice Y o cs).getD j 0=if j<o then Y.getD j 0 else if j<o+cs.length then cs.getD (j-o) 0 else Y.getD j 0:=by
 unfold splice;simp only[List.getD_eq_getElem?_getD,List.getElem?_append,List.length_take,List.getElem?_take,List.getElem?_drop];rw[Nat.min_eq_left (by omega)]
 by_cases h1:j<o
 ·simp only[h1,if_true]
 ·simp only[h1,if_false]
  by_cases h2:j<o+cs.length
  ·simp only[show j-o<cs.length by omega,h2,if_true]
  ·simp only[show ¬j-o<cs.length by omega,h2,if_false]
   rw[show o+cs.length+(j-o-cs.length)=j by omega]
theorem ZBV {Y cs:List Int} {o:Nat} (h:o+cs.length≤Y.length):(splice Y o cs).length=Y.length:=length_splice _ _ _ h
theorem ZAb (v:Int):(bytesOf v 4).length=4:=rfl
theorem ZIz {Y:List Int} {o:Nat} {v:Nat} (h:o+4≤Y.length) (hv:v<4294967296):wd (splice Y o (bytesOf (v:Int) 4)) o=(v:Int):=by
 unfold wd;simp only[ZBA (cs:=bytesOf (v:Int) 4) (show o+(bytesOf (v:Int) 4).length≤Y.length from h),ZAb];simp only[show ¬o<o by omega,show ¬o+1<o by omega,show ¬o+2<o by omega,show ¬o+3<o by omega,if_false,show o<o+4 by omega,show o+1<o+4 by omega,show o+2<o+4 by omega,show o+3<o+4 by omega,if_true,Nat.sub_self,show o+1-o=1 by omega,show o+2-o=2 by omega,show o+3-o=3 by omega];show (v:Int)%256+256*((v:Int) / 256%256+256*((v:Int) / 65536%256+256*((v:Int) / 16777216)))=_;omega
theorem ZHC {Y:List Int} {o o':Nat} {v:Int} (h:o+4≤Y.length) (hd:o'+4≤o∨o+4≤o'):wd (splice Y o (bytesOf v 4)) o'=wd Y o':=by
 have hg:∀j,(j<o∨o+4≤j)→(splice Y o (bytesOf v 4)).getD j 0=Y.getD j 0:=fun j hj=>by
  rw[ZBA (show o+(bytesOf v 4).length≤Y.length from h),ZAb];rcases hj with hj|hj
  ·rw[if_pos hj]
  ·rw[if_neg (by omega),if_neg (by omega)]
 unfold wd;rw[hg o' (by omega),hg (o'+1) (by omega),hg (o'+2) (by omega),hg (o'+3) (by omega)]
def In0 (Y:List Int) (lo hi:Nat):Prop:=∀j,Y.getD j 0≠0→lo≤j∧j<hi
theorem in0_zero (lo hi:Nat):In0 (List.replicate 16384 0) lo hi:=fun j h=>absurd (by
 rw[List.getD_eq_getElem?_getD,List.getElem?_replicate]
 split<;>rfl) h
theorem In0.put {Y:List Int} {lo hi o:Nat} (h:In0 Y lo hi) (v:Int) (ho:o+4≤Y.length) (h1:lo≤o) (h2:o+4≤hi):In0 (splice Y o (bytesOf v 4)) lo hi:=fun j hj=>by
 rw[ZBA (show o+(bytesOf v 4).length≤Y.length from ho),ZAb] at hj
 by_cases c1:j<o
 ·rw[if_pos c1] at hj;exact h j hj
 ·rw[if_neg c1] at hj
  by_cases c2:j<o+4
  ·omega
  ·rw[if_neg c2] at hj;exact h j hj
def InG (gs:List (Int×Int)) (x y:Int):Prop:=∀p∈gs,x≤p.1∧p.1+p.2≤y∧0≤p.2
theorem ZJG {x y:Int}:∀(gs:List (Int×Int)) (q:Int),InG gs x y→x≤q→q+1≤y→InG (rput gs q) x y∧(rput gs q).length≤gs.length+1
 | [],q,h,h1,h2=>by
  refine ⟨fun p hp=>?_,by simp[rput]⟩;simp only[rput,List.mem_singleton] at hp;subst hp;exact ⟨h1,h2,by show (0:Int)≤1;decide⟩
 | (f,s)::r,q,h,h1,h2=>by
  have hf:=h (f,s) (by simp);have hr:InG r x y:=fun p hp=>h p (by simp[hp]);dsimp only at hf;obtain ⟨ih1,ih2⟩:=ZJG r q hr h1 h2;unfold rput
  split
  ·refine ⟨fun p hp=>?_,by simp;omega⟩
   rcases List.mem_cons.1 hp with rfl|hp
   ·exact hf
   ·exact ih1 p hp
  ·split
   ·split
    ·rename_i f' s' r'
     have hf':=hr (f',s') (by simp);dsimp only at hf'
     split
     ·refine ⟨fun p hp=>?_,by simp⟩
      rcases List.mem_cons.1 hp with rfl|hp
      ·dsimp only;omega
      ·exact hr p (by simp[hp])
     ·refine ⟨fun p hp=>?_,by simp⟩
      rcases List.mem_cons.1 hp with rfl|hp
      ·dsimp only;omega
      ·exact hr p hp
    ·refine ⟨fun p hp=>?_,by simp⟩
     simp only[List.mem_singleton] at hp;subst hp;dsimp only;omega
   ·split
    ·refine ⟨fun p hp=>?_,by simp⟩
     rcases List.mem_cons.1 hp with rfl|hp
     ·dsimp only;omega
     ·exact hr p hp
    ·refine ⟨fun p hp=>?_,by simp⟩
     rcases List.mem_cons.1 hp with rfl|hp
     ·dsimp only;omega
     ·exact h p hp
theorem ZKK {x y:Int}:∀(l:List Int) (gs:List (Int×Int)),InG gs x y→(∀q∈l,x≤q∧q+1≤y)→InG (l.foldl rput gs) x y∧(l.foldl rput gs).length≤gs.length+l.length
 | [],gs,h,_=>⟨h,by simp⟩
 | q::l,gs,h,hl=>by
  have hq:=hl q (by simp);obtain ⟨h1,h2⟩:=ZJG gs q h hq.1 hq.2;obtain ⟨h3,h4⟩:=ZKK l (rput gs q) h1 (fun p hp=>hl p (by simp[hp]));exact ⟨h3,by simp only[List.foldl_cons,List.length_cons];omega⟩
theorem ZA8 {a:Area} (h:a.xs=a.ys):∀j,ZGE a j=[]
 | 0=>rfl
 | j+1=>by rw[ZGE,h,if_pos rfl,ZA8 h j]
theorem ZKh {a:Area} {x y:Int} (h:∀j:Nat,a.xs.getD j 0≠a.ys.getD j 0→x≤a.r.fr+j∧a.r.fr+j+1≤y):∀j:Nat,(∀q∈ZGE a j,x≤q∧q+1≤y)∧(ZGE a j).length≤j
 | 0=>⟨by simp[ZGE],by simp[ZGE]⟩
 | j+1=>by
  obtain ⟨h1,h2⟩:=ZKh h j;unfold ZGE
  by_cases c:a.xs.getD j 0=a.ys.getD j 0
  ·rw[if_pos c];exact ⟨h1,by omega⟩
  ·rw[if_neg c]
   refine ⟨fun q hq=>?_,by simp;omega⟩;rcases List.mem_append.1 hq with hq|hq
   ·exact h1 q hq
   ·simp only[List.mem_singleton] at hq
    subst hq;exact h j c
theorem rep0 (n j:Nat):(List.replicate n (0:Int)).getD j 0=0:=by
 rw[List.getD_eq_getElem?_getD,List.getElem?_replicate]
 split<;>rfl
theorem KM.all {ns:List Area} {T:Nat} {X Y:List Int} (h:KM ns T X Y) {lo hi:Nat} (hi0:In0 Y lo hi) (hY:Y.length=16384):InG (ZBY ns) (((4096+T+lo:Nat)):Int) ((4096+T+hi:Nat):Int)∧(ZBY ns).length≤16384:=by
 obtain ⟨a,d,s,rfl,⟨ha,hax,hay⟩,⟨hd,hdx,hdy⟩,hs,hsx,hsy⟩:=h.ex;have e:chgD [a,d,s]=chgA s:=by
  simp only[chgD,List.flatMap_cons,List.flatMap_nil,chgA,ZA8 (hax.trans hay.symm),ZA8 (hdx.trans hdy.symm),List.nil_append,List.append_nil]
 have hj:=ZKh (a:=s) (x:=((4096+T+lo:Nat):Int)) (y:=((4096+T+hi:Nat):Int)) (fun j hne=>by
  rw[hsx,hsy,rep0] at hne;have:=hi0 j hne;rw[hs];simp only[ZDi]
  omega) s.xs.length
 have hf:=ZKK (chgA s) [] (fun p hp=>by simp at hp) hj.1;unfold ZBY;rw[e];refine ⟨hf.1,?_⟩;have h2:=hf.2;have h3:=hj.2;rw[hsx] at h3;unfold chgA at h2 ⊢;rw[hsx] at h2 ⊢;simp only[List.length_nil] at h2;omega
theorem KM.none {ns:List Area} {T:Nat} {X:List Int} (h:KM ns T X (List.replicate 16384 0)):ZBY ns=[]:=by
 obtain ⟨a,d,s,rfl,⟨ha,hax,hay⟩,⟨hd,hdx,hdy⟩,hs,hsx,hsy⟩:=h.ex;have e:chgD [a,d,s]=[]:=by
  simp only[chgD,List.flatMap_cons,List.flatMap_nil,chgA,ZA8 (hax.trans hay.symm),ZA8 (hdx.trans hdy.symm),ZA8 (hsx.trans hsy.symm),List.nil_append,List.append_nil]
 unfold ZBY;rw[e]
 rfl
end Go.Proofs.YtggmkofbikafhaaGreatDoor
namespace Go.Proofs.YtggmkofbikafhaaGreatDoor
open Go.RowKit Go.Lib
theorem ZHi {o d a b:Nat} (hf:RF o=82) (hd:d≤15) (ha:a≤15) (hb:b≤15):ZA9 o d a b ((0:Nat):Int)=true:=by
 unfold ZA9;rw[hf,show inB 82 100=true by decide,show inB 82 97=true by decide,show inB 82 98=true by decide];unfold regOk rfB;simp;omega
theorem ZDZ {o d a i:Nat} (hf:RF o=83) (hd:d≤15) (ha:a≤15) (hi:i≤32767):ZA9 o d a ((0:Nat):Int) i=true:=by
 unfold ZA9;rw[hf,show inB 83 100=true by decide,show inB 83 97=true by decide,show inB 83 98=false by decide];unfold regOk rfB;simp;omega
theorem ZKg {o d a i:Nat} (hf:RF o=84) (hd:d≤15) (ha:a≤15) (hi:i≤32767):ZA9 o d a ((0:Nat):Int) i=true:=by
 unfold ZA9;rw[hf,show inB 84 100=true by decide,show inB 84 97=true by decide,show inB 84 98=false by decide];unfold regOk rfB;simp;omega
theorem chk_76 {o d i:Nat} (hf:RF o=76) (hd:d≤15) (hi:i≤32767):ZA9 o d ((0:Nat):Int) ((0:Nat):Int) i=true:=by
 unfold ZA9;rw[hf,show inB 76 100=true by decide,show inB 76 97=false by decide,show inB 76 98=false by decide];unfold regOk rfB;simp;omega
theorem chk_87 {o i:Nat} (hf:RF o=87) (hi:i≤32767):ZA9 o ((0:Nat):Int) ((0:Nat):Int) ((0:Nat):Int) i=true:=by
 unfold ZA9;rw[hf,show inB 87 100=false by decide,show inB 87 97=false by decide,show inB 87 98=false by decide];unfold regOk rfB;simp;omega
theorem chk_74 {o i:Nat} (hf:RF o=74) (hi:i≤32767):ZA9 o ((0:Nat):Int) ((0:Nat):Int) ((0:Nat):Int) i=true:=by
 unfold ZA9;rw[hf,show inB 74 100=false by decide,show inB 74 97=false by decide,show inB 74 98=false by decide];unfold regOk rfB;simp;omega
theorem chk_71 {o a:Nat} (hf:RF o=71) (ha:a≤15):ZA9 o ((0:Nat):Int) a ((0:Nat):Int) ((0:Nat):Int)=true:=by
 unfold ZA9;rw[hf,show inB 71 100=false by decide,show inB 71 97=true by decide,show inB 71 98=false by decide];unfold regOk rfB;simp;omega
theorem ZEG:∀(t cur r:List UInt8),(∀c∈t,c.toNat≠32)→cur++t≠[]→partR cur (t++32::r)=(cur++t)::partR [] r
 | [],cur,r,_,hne=>by
  rw[List.append_nil] at hne ⊢;rw[List.nil_append,partR,if_pos (by decide),if_neg hne]
 | c::t,cur,r,h,_=>by
  rw[List.cons_append,partR,if_neg (h c (by simp)),ZEG t (cur++[c]) r (fun x hx=>h x (by simp[hx])) (by simp),List.append_assoc]
  rfl
theorem ZEH:∀(t cur:List UInt8),(∀c∈t,c.toNat≠32)→cur++t≠[]→partR cur t=[cur++t]
 | [],cur,_,hne=>by
  rw[List.append_nil] at hne ⊢;rw[partR,if_neg hne]
 | c::t,cur,h,_=>by
  rw[partR,if_neg (h c (by simp)),ZEH t (cur++[c]) (fun x hx=>h x (by simp[hx])) (by simp),List.append_assoc]
  rfl
theorem ZBv:∀(ts:List (List UInt8)) (t0:List UInt8),(∀t∈t0::ts,t≠[]∧∀c∈t,c.toNat≠32)→partR [] (t0++ts.flatMap (fun t=>32::t))=t0::ts
 | [],t0,h=>by
  have h0:=h t0 (by simp);rw[List.flatMap_nil,List.append_nil,ZEH t0 [] h0.2 (by simpa using h0.1),List.nil_append]
 | t::ts,t0,h=>by
  have h0:=h t0 (by simp);rw[List.flatMap_cons,List.cons_append,ZEG t0 [] _ h0.2 (by simpa using h0.1),List.nil_append,ZBv ts t (fun x hx=>h x (by simp only[List.mem_cons] at hx ⊢;exact Or.inr hx))]
theorem ZDM (t0:List UInt8) (ts:List (List UInt8)):∀k,k≤ts.length→ZBE (t0::ts) (k+1)=t0++(ts.take k).flatMap (fun t=>32::t)
 | 0,_=>by simp[ZBE]
 | k+1,hk=>by
  rw[ZBE,if_pos (by omega),ZDM t0 ts k (by omega),List.take_succ_eq_append_getElem (by omega),List.flatMap_append];simp[List.getElem?_eq_getElem (show k<ts.length by omega)]
theorem ZFO (k:Nat):∀c∈wordsL.getD k [],97≤c.toNat∧c.toNat≤122:=by
 have h:∀t∈wordsL,∀c∈t,97≤c.toNat∧c.toNat≤122:=by decide +kernel
 intro c hc;rw[List.getD_eq_getElem?_getD] at hc;rcases Nat.lt_or_ge k wordsL.length with hk|hk
 ·rw[List.getElem?_eq_getElem hk] at hc
  exact h _ (List.getElem_mem hk) c hc
 ·rw[List.getElem?_eq_none hk] at hc
  simp at hc
theorem ZIx (o:Nat) (h1:1≤o) (h2:o≤42):wordsL.getD (o-1) []≠[]:=by
 have h:∀t∈wordsL,t≠[]:=by decide +kernel
 have hk:o-1<wordsL.length:=by show o-1<42;omega
 rw[List.getD_eq_getElem?_getD,List.getElem?_eq_getElem hk];exact h _ (List.getElem_mem hk)
theorem ZCU (o d a b i:Nat):printL o d a b i=wordsL.getD (o-1) []++((ZT o).map (ZDh d a b i)).flatMap (fun t=>32::t):=by
 unfold printL
 congr 1
 induction ZT o with
 | nil=>rfl
 | cons c l ih=>rw[List.flatMap_cons,List.map_cons,List.flatMap_cons,ih,ZGx]
theorem tok_ne (d a b i:Nat) (c:UInt8):ZDh d a b i c≠[]:=by
 unfold ZDh
 split
 ·simp
 ·split
  ·simp
  ·split
   ·simp
   ·intro e
    have:=ZAC i;rw[e] at this
    simp at this
theorem tok_char (d a b i:Nat) (c:UInt8):∀x∈ZDh d a b i c,48≤x.toNat∧x.toNat≠59:=by
 intro x hx;have hd:∀u,x∈decDigits u→48≤x.toNat∧x.toNat≠59:=fun u h=>by
  obtain ⟨h1,h2⟩:=ZAl u x h;omega
 unfold ZDh at hx
 split at hx
 ·rcases List.mem_cons.1 hx with rfl|hx
  ·decide
  ·exact hd _ hx
 ·split at hx
  ·rcases List.mem_cons.1 hx with rfl|hx
   ·decide
   ·exact hd _ hx
  ·split at hx
   ·rcases List.mem_cons.1 hx with rfl|hx
    ·decide
    ·exact hd _ hx
   ·exact hd _ hx
structure In5 where
 o:Nat
 d:Nat
 a:Nat
 b:Nat
 i:Nat
def In5.w (x:In5):Nat:=encN x.o x.d x.a x.b x.i
def In5.line (x:In5):List UInt8:=printL x.o x.d x.a x.b x.i
structure In5.OK (x:In5):Prop where
 d:x.d≤15
 a:x.a≤15
 b:x.b≤15
 i:x.i≤32767
 c:ZA9 x.o x.d x.a x.b x.i=true
 f:0<(ZT x.o).length
theorem ZFo (x:In5):∀c∈x.line,c.toNat≠59∧c.toNat≠9∧c.toNat≠10:=by
 intro c hc;unfold In5.line at hc;rw[ZCU] at hc;rcases List.mem_append.1 hc with hc|hc
 ·have:=ZFO _ c hc
  omega
 ·obtain ⟨t,ht,hc⟩:=List.mem_flatMap.1 hc
  obtain ⟨k,_,rfl⟩:=List.mem_map.1 ht;rcases List.mem_cons.1 hc with rfl|hc
  ·decide
  ·have:=tok_char _ _ _ _ _ c hc
   omega
theorem ln_print (tx:List UInt8) (lb:List Lb) (x:In5) (h:x.OK) (hlb:lb.length≤1000) (hl:tx.length≤900000) (h4:tx.length%4=0):Ln x.line tx lb (tx++wB x.w) lb:=by
 obtain ⟨o,d,a,b,i⟩:=x;obtain ⟨hd,ha,hb,hi,hc,hf⟩:=h;dsimp only at hd ha hb hi hc hf;have h32:RF o≠32:=by
  have h9:=hc;unfold ZA9 at h9;simp only[Bool.and_eq_true,decide_eq_true_eq] at h9;exact h9.1.1.1.1
 obtain ⟨ho1,ho2⟩:=RF_op o h32;have hlen:(printL o d a b i).length≤1000:=by
  have h1:=ZBM (o-1);have h2:=ZCB (d:=d) (a:=a) (b:=b) (i:=i) (by omega) (by omega) (by omega) (by omega) (ZT o);have h3:=ZAa o;unfold printL;rw[List.length_append];omega
 have hw:wordsL.getD (o-1) []≠[]:=ZIx o (by omega) (by omega);have htk:∀t∈(ZT o).map (ZDh d a b i),t≠[]∧(∀c∈t,c.toNat≠32)∧t.length≤1000:=fun t ht=>by
  obtain ⟨c,_,rfl⟩:=List.mem_map.1 ht;refine ⟨tok_ne d a b i c,ZHD d a b i c,?_⟩;have:=ZKL (d:=d) (a:=a) (b:=b) (i:=i) (by omega) (by omega) (by omega) (by omega) c;rw[ZGx,List.length_cons] at this;omega
 refine ln_ins tx (printL o d a b i) (wordsL.getD (o-1) []) ((ZT o).map (ZDh d a b i)) lb o d a b i hd ha hb hi hc hlen ?_ (by simpa using hf) (by have:=ZAa o;simp;omega) (List.length_pos_iff.2 hw) ?_ ?_ ?_ ?_ hlb hl h4
 ·rw[ZCU]
  refine ZBv _ _ (fun t ht=>?_);rcases List.mem_cons.1 ht with rfl|ht
  ·exact ⟨hw,ZDv _⟩
  ·exact ⟨(htk t ht).1,(htk t ht).2.1⟩
 ·intro x hx
  rcases List.mem_cons.1 hx with rfl|hx
  ·have:=ZBM (o-1);omega
  ·exact (htk x hx).2.2
 ·rw[List.length_cons,ZDM _ _ _ (Nat.le_refl _),List.take_length,ZCU]
 ·intro c hc0
  have:=ZFO (o-1) c (List.mem_of_getElem? hc0);omega
 ·intro c hc0
  have:=ZFo ⟨o,d,a,b,i⟩ c hc0;exact ⟨this.1,this.2.1⟩
def bL (ws:List Nat):List UInt8:=ws.flatMap wB
theorem ZAX (v:Nat):(wB v).length=4:=rfl
theorem ZDd:∀ws:List Nat,(bL ws).length=4*ws.length
 | []=>rfl
 | v::ws=>by
  have:=ZDd ws;unfold bL at this ⊢;rw[List.flatMap_cons,List.length_append,ZAX,this,List.length_cons];omega
theorem bL_app (l r:List Nat):bL (l++r)=bL l++bL r:=by unfold bL;rw[List.flatMap_append]
theorem ZEZ:∀(is:List In5) (tx:List UInt8) (lb:List Lb),(∀x∈is,x.OK)→lb.length≤1000→tx.length+4*is.length≤900000→tx.length%4=0→Run (is.map In5.line) tx lb (tx++bL (is.map In5.w)) lb
 | [],tx,lb,_,_,_,_=>by
  refine ⟨?_,rfl⟩;simp[bL]
 | x::is,tx,lb,h,h1,h2,h3=>by
  rw[List.length_cons] at h2;refine ⟨_,_,ln_print tx lb x (h x (by simp)) h1 (by omega) h3,?_⟩;have ih:=ZEZ is (tx++wB x.w) lb (fun y hy=>h y (by simp[hy])) h1 (by rw[List.length_append,ZAX];omega) (by rw[List.length_append,ZAX];omega);rw[List.append_assoc] at ih;exact ih
theorem wd_shift (a b c d:Int) (r:List Int) (o:Nat):wd (a::b::c::d::r) (o+4)=wd r o:=rfl
theorem nums_wB {v:Nat} (h:v<4294967296):nums (wB v)=[(v:Int)%256,(v:Int) / 256%256,(v:Int) / 65536%256,(v:Int) / 16777216]:=by
 have e:∀n:Nat,n<256→(((UInt8.ofNat n).toNat:Nat):Int)=(n:Int):=fun n hn=>by
  rw[UInt8.toNat_ofNat'];omega
 unfold nums wB;simp only[List.map_cons,List.map_nil];rw[e _ (by omega),e _ (by omega),e _ (by omega),e _ (by omega)];simp
theorem ZJl:∀(ws:List Nat) (j v:Nat),(∀v∈ws,v<4294967296)→ws[j]? = some v→wd (nums (bL ws)) (4*j)=(v:Int)
 | [],j,v,_,h=>by simp at h
 | x::ws,j,v,hb,h=>by
  have hx:=hb x (by simp);have e:nums (bL (x::ws))=nums (wB x)++nums (bL ws):=by
   unfold nums bL;rw[List.flatMap_cons,List.map_append]
  rw[e,nums_wB hx]
  match j,h with
  | 0,h=>
   have:x=v:=by simpa using h
   subst this;show (x:Int)%256+256*((x:Int) / 256%256+256*((x:Int) / 65536%256+256*((x:Int) / 16777216)))=_;omega
  | j+1,h=>
   rw[show 4*(j+1)=4*j+4 by omega];simp only[List.cons_append,List.nil_append];rw[wd_shift];exact ZJl ws j v (fun y hy=>hb y (by simp[hy])) (by simpa using h)
def KQ (w w':World):Prop:=∀g cs,Blk w g 57 cs→Blk w' g 57 cs
structure ZAW (B:Nat) (w w':World):Prop where
 b:Below B w w'
 q:KQ w w'
theorem ZAW.refl (B:Nat) (w:World):ZAW B w w:=⟨Below.refl _ _,fun _ _ h=>h⟩
theorem ZAW.bel {B:Nat} {w W W':World} (h:ZAW B w W) (hb:Below W.heap.size W W') (hB:B≤W.heap.size):ZAW B w W':=⟨h.b.trans (ZA hb hB),fun g cs hg=>(h.q g cs hg).below hb (h.q g cs hg).lt⟩
theorem ZAW.of {B:Nat} {w W:World} (hb:Below w.heap.size w W) (hB:B≤w.heap.size):ZAW B w W:=(ZAW.refl B w).bel hb hB
theorem ZAW.trans {B:Nat} {a b c:World} (h:ZAW B a b) (k:ZAW B b c):ZAW B a c:=⟨h.b.trans k.b,fun g cs hg=>k.q g cs (h.q g cs hg)⟩
theorem ZAW.kp {F:Nat→Prop} {B:Nat} {w W W':World} (h:ZAW B w W) (hk:ZE F W W') (hB:B≤W.heap.size) (hF:∀g,g<B→¬F g) (hq:∀g cs,Blk W g 57 cs→¬F g):ZAW B w W':=
 ⟨h.b.trans (hk.toBelow hB hF),fun g cs hg=>(h.q g cs hg).keeps hk (hq g cs (h.q g cs hg))⟩
def ZAK (B bm gm:Nat) (iv:Value) (k:Int) (s s':MSt) (w:World) (e:Ending) (w':World):Prop:=(∃v,e=.returned v)∧MAt w' bm gm iv (k+1) s'∧ZAW B w w'∧rowsOf s'.ns=rowsOf s.ns
theorem MAt.alloc {w:World} {bm gm:Nat} {iv:Value} {k:Int} {s:MSt} (h:MAt w bm gm iv k s) (o:Obj):MAt (w.alloc o) bm gm iv k s:=h.below ((Below.refl _ _).alloc (Nat.le_refl _) o)
structure StM (w0 W:World) (B bm gm:Nat) (iv:Value) (k:Int) (s:MSt) (p pe q:Nat) (o d a b i:Int):Prop where
 m:MAt W bm gm iv k s
 be:ZAW B w0 W
 r:∃c0 c1 c2:Int,Blk W p 64 #[.int .i64 c0,.int .i64 c1,.int .i64 c2]
 x:∃c0 c1 c2:Int,Blk W pe 64 #[.int .i64 c0,.int .i64 c1,.int .i64 c2]
 i:Blk W q 127 #[.int .i64 o,.int .i64 d,.int .i64 a,.int .i64 b,.int .i64 i]
 pp:B≤p
 ppe:B≤pe
 lt:p<pe
theorem StM.bel {w0 W W':World} {B bm gm:Nat} {iv:Value} {k:Int} {s:MSt} {p pe q:Nat} {o d a b i:Int} (h:StM w0 W B bm gm iv k s p pe q o d a b i) (hB:B≤bm) (hb:Below W.heap.size W W'):StM w0 W' B bm gm iv k s p pe q o d a b i:=by
 obtain ⟨r0,r1,r2,hr⟩:=h.r;obtain ⟨y0,y1,y2,hx⟩:=h.x;exact ⟨h.m.below hb,h.be.bel hb (by have:=h.m.lt;omega),⟨r0,r1,r2,hr.below hb hr.lt⟩,⟨y0,y1,y2,hx.below hb hx.lt⟩,h.i.below hb h.i.lt,h.pp,h.ppe,h.lt⟩
theorem MAt.notF {w:World} {bm gm:Nat} {iv:Value} {k:Int} {s:MSt} (h:MAt w bm gm iv k s) {g:Nat} {t:TypeId} {cs:Array Value} (hb:Blk w g t cs) (h1:t≠59) (h2:t≠5):¬MF bm s g:=by
 rintro (e|e)
 ·subst e
  exact h1 (hb.kind h.b)
 ·obtain ⟨c,hc⟩:=h.m.row_blk e
  exact h2 (hb.kind hc)
theorem StM.turn {w0 W W':World} {B bm gm:Nat} {iv:Value} {k k':Int} {s s':MSt} {p pe q:Nat} {o d a b i:Int} (h:StM w0 W B bm gm iv k s p pe q o d a b i) (hB:B≤bm) (hR:∀g∈rowsOf s.ns,B≤g) (hm:MAt W' bm gm iv k' s') (hk:ZE (MF bm s) W W'):StM w0 W' B bm gm iv k' s' p pe q o d a b i:=by
 obtain ⟨r0,r1,r2,hr⟩:=h.r;obtain ⟨y0,y1,y2,hx⟩:=h.x;refine ⟨hm,h.be.kp hk (by have:=h.m.lt;omega) (fun g hg e=>?_) (fun g cs hg=>h.m.notF hg (by decide) (by decide)),⟨r0,r1,r2,hr.keeps hk (h.m.notF hr (by decide) (by decide))⟩,⟨y0,y1,y2,hx.keeps hk (h.m.notF hx (by decide) (by decide))⟩,h.i.keeps hk (h.m.notF h.i (by decide) (by decide)),h.pp,h.ppe,h.lt⟩;rcases e with e|e
 ·omega
 ·have:=hR g e;omega
theorem MAt.oth {w w':World} {bm gm:Nat} {iv:Value} {k:Int} {s:MSt} (h:MAt w bm gm iv k s) {g:Nat} {cs:Array Value} (hb:Blk w g 64 cs) (hk:ZE (· = g) w w'):MAt w' bm gm iv k s:=
 { h with
  b:=h.b.keeps hk (fun e=>by subst e;exact absurd (hb.kind h.b) (by decide))
  m:=h.m.keeps hk (fun x t c e hx=>by subst e;obtain rfl:=hx.kind hb;decide) (fun x hx e=>by subst e;obtain ⟨c,hc⟩:=h.m.row_blk hx;exact absurd (hc.kind hb) (by decide)) }
theorem StM.out2 {w0 W:World} {B bm gm:Nat} {iv:Value} {k:Int} {s:MSt} {p pe q:Nat} {o d a b i:Int} (h:StM w0 W B bm gm iv k s p pe q o d a b i) (hB:B≤bm) (x y:Int):StM w0 ((W.setCell ⟨pe,1,none⟩ (.int .i64 x)).setCell ⟨pe,2,none⟩ (.int .i64 y)) B bm gm iv k s p pe q o d a b i:=by
 obtain ⟨r0,r1,r2,hr⟩:=h.r;obtain ⟨y0,y1,y2,hx⟩:=h.x;have hk:ZE (· = pe) W ((W.setCell ⟨pe,1,none⟩ (.int .i64 x)).setCell ⟨pe,2,none⟩ (.int .i64 y)):=((ZE.refl (· = pe) W).setCell (p:=⟨pe,1,none⟩) (Or.inr rfl) _).setCell (p:=⟨pe,2,none⟩) (Or.inr rfl) _;exact ⟨h.m.oth hx hk,h.be.kp hk (by have:=h.m.lt;omega) (fun g hg e=>by have:=h.ppe;omega) (fun g cs hg e=>by subst e;exact absurd (hx.kind hg) (by decide)),⟨r0,r1,r2,hr.keeps hk (fun e=>by have:=h.lt;omega)⟩,⟨y0,x,y,(hx.set_ 1 _).set_ 2 _⟩,h.i.keeps hk (fun e=>by subst e;exact absurd (hx.kind h.i) (by decide)),h.pp,h.ppe,h.lt⟩
def ZCt (W:World) (p:Nat) (a b c:Value):World:=((W.setCell ⟨p,0,none⟩ a).setCell ⟨p,1,none⟩ b).setCell ⟨p,2,none⟩ c
theorem ZAq {W:World} {p:Nat} {t:TypeId} {x y z:Value} (h:Blk W p t #[x,y,z]) (a b c:Value):Blk (ZCt W p a b c) p t #[a,b,c]∧ZE (· = p) W (ZCt W p a b c):=
 ⟨((h.set_ 0 a).set_ 1 b).set_ 2 c,(((ZE.refl (· = p) W).setCell (p:=⟨p,0,none⟩) (Or.inr rfl) a).setCell (p:=⟨p,1,none⟩) (Or.inr rfl) b).setCell (p:=⟨p,2,none⟩) (Or.inr rfl) c⟩
end Go.Proofs.YtggmkofbikafhaaGreatDoor
