/- The law's card: for every right frame's numbers the prologue's words do what they should; 'FramePrologue' answers true for every input. Conditions: those of the given statement alone (the tables as the program's text lays them). -/
import Derived.Test.YtggmkofbikafhaaGreatDoorCards
import Derived.Test.YtggmkofbikafhaaGreatDoorTie
import Derived.ProofKit
import Derived.OpenShut
import Derived.Deep.DeepHandedRow
import Derived.Lib.LaidTab
import Derived.Lib.AppendIntMem
import Derived.SizedLaws
import Derived.Test.YtggmkofbikafhaaGreatDoorKW
import Derived.Test.YtggmkofbikafhaaGreatDoorQL
set_option linter.unusedVariables false
set_option linter.unusedSimpArgs false
set_option maxRecDepth 100000
set_option maxHeartbeats 40000000
namespace Go.Proofs.YtggmkofbikafhaaGreatDoor
open Go.ChangeShapes Go.WideShapes Go.ChangeAt Go.RowKit
theorem ZCk {α:Type} {Q:Nat→α→Prop}:∀(n:Nat),(∀i,i<n→∃r,Q i r)→∃rs:List α,rs.length=n∧∀i (h:i<rs.length),Q i rs[i]
 | 0,_=>⟨[],rfl,fun i h=>by simp at h⟩
 | n+1,h=>by
  obtain ⟨rs,hl,hq⟩:=ZCk n (fun i hi=>h i (by omega));obtain ⟨r,hr⟩:=h n (by omega);refine ⟨rs++[r],by simp[hl],fun i hi=>?_⟩
  by_cases c:i<rs.length
  ·rw[List.getElem_append_left c];exact hq i c
  ·have:i=rs.length:=by simp at hi;omega
   subst this;simp;rw[hl];exact hr
section
variable {H:Type} {enc:TypeId×Value→H} {W:World}
theorem weightsAll_mem {P:Program} {e:TypeId}:∀ {l:List (DataW H)} {d:DataW H},d∈l→∀m∈d.weights P e,m∈DataW.weightsAll P e l
 | x::l,d,hd,m,hm=>by
  simp only[DataW.weightsAll,List.mem_append];rcases List.mem_cons.1 hd with rfl|hd
  ·exact Or.inl hm
  ·exact Or.inr (weightsAll_mem hd m hm)
def In (y:DataW H) (t:TypeId):Prop:=∀m∈y.weights Tryz.prog t,m≤reachBytes
theorem row_in {α:Type} {T E:TypeId} {c:Nat} (f:α→List Value) (Q:α→Prop) (hu:Tryz.prog.underlying T=some (.slice E)) (hc:Tryz.prog.cellsOf E=c) (h0:0<c) (hf:∀a,(f a).length=c)
  (each:∀ {n:Nat} {cs:List Value} {y:DataW H×List MemPlace},DataW.trod enc Tryz.prog W 0 (fun _=>true) true n E cs=some y→In y.1 E→∃a,cs=f a∧Q a)
  {fuel:Nat} {v:Value} {x:DataW H×List MemPlace} (h:DataW.trod enc Tryz.prog W 0 (fun _=>true) true fuel T [v]=some x) (hw:In x.1 T) :
  ∃rs:List α,RowOf W v rs.length (rs.flatMap f)∧(∀r∈rs,Q r)∧rs.length*Tryz.prog.bytesOf E≤reachBytes:=by
 rcases DataW.trod_slice hu h with ⟨hcs,hx⟩|⟨a,len,cap,elems,rest,n,_,hcs,hx,_,hl,hm,hlen,hel,_,_⟩
 ·obtain rfl:v=.slice none 0 0:=by simpa using hcs
  exact ⟨[],⟨none,0,rfl,Nat.le_refl _,by decide,fun h=>absurd h (by simp)⟩,(fun r hr=>by cases hr),by simp⟩
 ·obtain rfl:v=.slice (some a) len cap:=by simpa using hcs
  rw[hc] at hel;have each':∀i,i<len→∃r:α,W.cells? 0 (a.add (i*c)) c=some (f r)∧Q r:=by
   intro i hi;have h1:=hel i hi;have hil:i<elems.length:=by omega
   rw[List.getElem?_eq_getElem hil] at h1;obtain ⟨cs,hcc,ht⟩:=Option.bind_eq_some_iff.1 h1;obtain ⟨r,rfl,hq⟩:=each ht (fun m hm'=>hw m (by
    rw[hx];simp only[DataW.weights,hu];refine List.mem_cons_of_mem _ (List.mem_append_left _ (weightsAll_mem (d:=elems[i].1) ?_ m hm'));exact List.mem_map.2 ⟨elems[i],List.getElem_mem hil,rfl⟩))
   exact ⟨r,hcc,hq⟩
  obtain ⟨rs,hrl,hrs⟩:=ZCk len each';refine ⟨rs,⟨some a,cap,by rw[hrl],by omega,hm,fun hpos=>?_⟩,fun r hr=>?_,?_⟩
  ·obtain ⟨bk,off,spot⟩:=a
   have hcell:∀i (hi:i<rs.length) j,j<c→W.cell? (((⟨bk,off,spot⟩:Addr).add (i*c)).add j)=(f rs[i])[j]?:=fun i hi j hj=>(World.cells?_some (hrs i hi).1).2.2 j hj;have h00:=hcell 0 hpos 0 h0;rw[Nat.zero_mul] at h00;obtain ⟨u,hu0⟩:∃u,(f rs[0])[0]? = some u:=⟨_,List.getElem?_eq_getElem (l:=f rs[0]) (i:=0) (by rw[hf];exact h0)⟩
   have hspot:spot=none:=by simpa[Addr.add] using World.cell?_spot (h00.trans hu0)
   subst hspot;rw[addr_add,addr_add] at h00;refine ⟨bk,off,rfl,cell_lt (a:=⟨bk,off+0+0,none⟩) (h00.trans hu0),fun j u hj=>?_⟩;obtain ⟨i,hi,q,hq,rfl,hfu⟩:=ZGy f c h0 hf hj;have:=hcell i hi q hq;rw[addr_add,addr_add] at this
   rw[←Nat.add_assoc]
   exact this.trans hfu
  ·obtain ⟨i,hi,rfl⟩:=List.getElem_of_mem hr
   exact (hrs i hi).2
  ·have h1:=hw ((elems.length+rest.length)*Tryz.prog.bytesOf E) (by rw[hx];simp[DataW.weights,hu])
   refine Nat.le_trans (Nat.mul_le_mul_right _ ?_) h1;rw[hrl,←hlen];exact Nat.le_add_right _ _
theorem ZF3:Tryz.prog.cellsOf 3=1:=by kernel_rfl
theorem ZKl:Tryz.prog.cellsOf 26=1:=by kernel_rfl
theorem ZF2:Tryz.prog.cellsOf 9=1:=by kernel_rfl
theorem ZIi:Tryz.prog.cellsOf 22=1:=by kernel_rfl
theorem cells_fr:Tryz.prog.cellsOf 24=7:=by kernel_rfl
theorem ZKo:Tryz.prog.bytesOf 3=8:=by kernel_rfl
theorem ZKn:Tryz.prog.bytesOf 26=4:=by kernel_rfl
theorem int_of {n:Nat} {cs:List Value} {y:DataW H×List MemPlace} (h:DataW.trod enc Tryz.prog W 0 (fun _=>true) true n 3 cs=some y) (hw:In y.1 3):∃x:Int,cs=[Value.int .i64 x]∧True:=by
 obtain ⟨x,q,_,b1⟩:=DataW.trod_int Tryz.underlying3 h;exact ⟨x,q,trivial⟩
theorem u32_of {n:Nat} {cs:List Value} {y:DataW H×List MemPlace} (h:DataW.trod enc Tryz.prog W 0 (fun _=>true) true n 26 cs=some y) (hw:In y.1 26):∃x:Int,cs=[Value.int .u32 x]∧(0≤x∧x≤4294967295):=by
 obtain ⟨x,q,_,b1⟩:=DataW.trod_int Tryz.underlying26 h;exact ⟨x,q,bounds_u32 b1⟩
theorem ZHb {α:Type} (f:α→Value) (l:List α):l.flatMap (fun x=>[f x])=l.map f:=by
 induction l with
 | nil=>rfl
 | cons b l ih=>rw[List.flatMap_cons,ih];rfl
theorem ZJ7 {fuel:Nat} {v:Value} {x:DataW H×List MemPlace} (h:DataW.trod enc Tryz.prog W 0 (fun _=>true) true fuel 22 [v]=some x) (hw:In x.1 22):∃(l:List Int) (A:Option Addr) (c:Nat),v=.slice A l.length c∧RowOf W (.slice A l.length c) l.length (l.map (Value.int .i64))∧l.length≤17592186044414:=by
 obtain ⟨l,h1,_,h2⟩:=row_in (fun x:Int=>[Value.int .i64 x]) (fun _=>True) Tryz.underlying22 ZF3 (by decide) (fun _=>rfl) int_of h hw;rw[ZHb] at h1;rw[ZKo] at h2;unfold reachBytes at h2;obtain ⟨A,c,rfl,-,-⟩:=h1.form;exact ⟨l,A,c,rfl,h1,by omega⟩
theorem u32s_in {fuel:Nat} {v:Value} {x:DataW H×List MemPlace} (h:DataW.trod enc Tryz.prog W 0 (fun _=>true) true fuel 25 [v]=some x) (hw:In x.1 25):∃(l:List Nat) (A:Option Addr) (c:Nat),v=.slice A l.length c∧RowOf W (.slice A l.length c) l.length (l.map ZD2)∧l.length≤35184372088829∧∀x∈l,x<4294967296:=by
 obtain ⟨l,h1,h3,h2⟩:=row_in (fun x:Int=>[Value.int .u32 x]) (fun x=>0≤x∧x≤4294967295) Tryz.underlying25 ZKl (by decide) (fun _=>rfl) u32_of h hw;rw[ZHb] at h1;rw[ZKn] at h2;unfold reachBytes at h2;have he:l.map (Value.int .u32)=(l.map Int.toNat).map ZD2:=by
  rw[List.map_map];refine List.map_congr_left fun a ha=>?_;have:=h3 a ha;simp[ZD2];omega
 rw[he] at h1;have hl:(l.map Int.toNat).length=l.length:=List.length_map _
 rw[←hl] at h1
 obtain ⟨A,c,rfl,-,-⟩:=h1.form;exact ⟨l.map Int.toNat,A,c,rfl,h1,by omega,fun x hx=>by
  obtain ⟨a,ha,rfl⟩:=List.mem_map.1 hx;have:=h3 a ha
  omega⟩
theorem ZHw {l:List Value} (h:l.length=7):∃a b c d e f g,l=[a,b,c,d,e,f,g]:=by
 match l,h with
 | [a,b,c,d,e,f,g],_=>exact ⟨a,b,c,d,e,f,g,rfl⟩
theorem ZKC {t:TypeId} {fs:Array Field} (hu:Tryz.prog.underlying t=some (.struct fs)) {y:DataW H} {xs:List (DataW H×List MemPlace)} (hy:y=.agg (xs.map (·.1))) (hw:In y t) (j:Nat) (hj:j<xs.length) (tj:TypeId) (ht:(fs.toList.map (·.type))[j]? = some tj):In xs[j].1 tj:=by
 intro m hm;refine hw m ?_;rw[hy];simp only[DataW.weights,hu];exact DataW.weights_mem_each ht (by rw[List.getElem?_map,List.getElem?_eq_getElem hj];rfl) m hm
theorem frame_in {n:Nat} {cs:List Value} {y:DataW H×List MemPlace} (h:DataW.trod enc Tryz.prog W 0 (fun _=>true) true n 24 cs=some y) (hw:In y.1 24) :
  ∃(z v1 v2 at_ lk:Int) (sl:Value) (A:Option Addr) (c:Nat) (l:List Int),cs=[.int .i64 z,.int .i64 v1,.int .i64 v2,.int .i64 at_,.int .i64 lk,sl,.slice A l.length c]∧(∃A n c,sl=.slice A n c)∧RowOf W (.slice A l.length c) l.length (l.map (Value.int .i64))∧l.length≤17592186044414:=by
 obtain ⟨xs,m,_,hy,hl,hx,hf⟩:=DataW.trod_struct Tryz.underlying24 h;rw[cells_fr] at hl;obtain ⟨a,b,c,d,e,f,g,rfl⟩:=ZHw hl;have hxl:xs.length=7:=by rw[hx];rfl
 have f0:DataW.trod enc Tryz.prog W 0 (fun _=>true) true m 3 (([a,b,c,d,e,f,g].drop 0).take (Tryz.prog.cellsOf 3))=xs[0]?:=hf 0 _ rfl;have f1:DataW.trod enc Tryz.prog W 0 (fun _=>true) true m 3 (([a,b,c,d,e,f,g].drop 1).take (Tryz.prog.cellsOf 3))=xs[1]?:=hf 1 _ rfl;have f2:DataW.trod enc Tryz.prog W 0 (fun _=>true) true m 3 (([a,b,c,d,e,f,g].drop 2).take (Tryz.prog.cellsOf 3))=xs[2]?:=hf 2 _ rfl;have f3:DataW.trod enc Tryz.prog W 0 (fun _=>true) true m 3 (([a,b,c,d,e,f,g].drop 3).take (Tryz.prog.cellsOf 3))=xs[3]?:=hf 3 _ rfl;have f4:DataW.trod enc Tryz.prog W 0 (fun _=>true) true m 3 (([a,b,c,d,e,f,g].drop 4).take (Tryz.prog.cellsOf 3))=xs[4]?:=hf 4 _ rfl;have f5:DataW.trod enc Tryz.prog W 0 (fun _=>true) true m 22 (([a,b,c,d,e,f,g].drop 5).take (Tryz.prog.cellsOf 22))=xs[5]?:=hf 5 _ rfl;have f6:DataW.trod enc Tryz.prog W 0 (fun _=>true) true m 22 (([a,b,c,d,e,f,g].drop 6).take (Tryz.prog.cellsOf 22))=xs[6]?:=hf 6 _ rfl;rw[List.getElem?_eq_getElem (by omega)] at f0 f1 f2 f3 f4 f5 f6;rw[ZF3] at f0 f1 f2 f3 f4;rw[ZIi] at f5 f6;obtain ⟨x0,q0,_,_⟩:=DataW.trod_int Tryz.underlying3 f0;obtain ⟨x1,q1,_,_⟩:=DataW.trod_int Tryz.underlying3 f1;obtain ⟨x2,q2,_,_⟩:=DataW.trod_int Tryz.underlying3 f2;obtain ⟨x3,q3,_,_⟩:=DataW.trod_int Tryz.underlying3 f3;obtain ⟨x4,q4,_,_⟩:=DataW.trod_int Tryz.underlying3 f4;obtain ⟨l5,A5,c5,e5,_,_⟩:=ZJ7 f5 (ZKC Tryz.underlying24 (congrArg Prod.fst hy) hw 5 (by omega) _ rfl);obtain ⟨l6,A6,c6,e6,r6,s6⟩:=ZJ7 f6 (ZKC Tryz.underlying24 (congrArg Prod.fst hy) hw 6 (by omega) _ rfl)
 simp at q0 q1 q2 q3 q4
 subst q0 q1 q2 q3 q4 e5 e6;exact ⟨x0,x1,x2,x3,x4,_,A6,c6,l6,rfl,⟨_,_,_,rfl⟩,r6,s6⟩
end
theorem own:ownKnob Tryz.prog.godebug=none:=by kernel_rfl
theorem laidOut:laidOutB Tryz.prog=true:=by kernel_rfl
theorem gKeys:Tryz.prog.globalNamed "catapult/lex.keys" = some 3:=by kernel_rfl
theorem ZKH:(Tryz.prog.globals[3]?).map (·.type)=some 346:=by kernel_rfl
theorem ZKm:Tryz.prog.cellsOf 346=20:=by kernel_rfl
theorem gTz:Tryz.prog.globalNamed "math/bits.deBruijn64tab" = some 2:=by kernel_rfl
theorem gTzType:(Tryz.prog.globals[2]?).map (·.type)=some 340:=by kernel_rfl
theorem cellsTz:Tryz.prog.cellsOf 340=64:=by kernel_rfl
theorem cells_u8:Tryz.prog.cellsOf 5=1:=by kernel_rfl
theorem gPow:Tryz.prog.globalNamed "internal/strconv.uint64pow10" = some 0:=by kernel_rfl
theorem gPowType:(Tryz.prog.globals[0]?).map (·.type)=some 306:=by kernel_rfl
theorem cellsPow:Tryz.prog.cellsOf 306=20:=by kernel_rfl
theorem ZKk:Tryz.prog.cellsOf 60=1:=by kernel_rfl
section
variable {H:Type} {enc:TypeId×Value→H} {P:Program}
theorem ZCF (hl:laidOutB P=true) {W W':World} (hb:Below W.heap.size W W') :
  ∀ {ts:List TypeId} {vs:List Value} {ds:List (DataW H)} {ps:List MemPlace},(∀t∈ts,P.readableRec t=true∧t<P.types.size)→
   DataW.TrodAll enc P W 0 (fun _=>true) true ts vs ds ps→(∀x∈ps,x.block<W.heap.size)→
   DataW.TrodAll enc P W' 0 (fun b=>decide (b<W.heap.size)) true ts vs ds ps
 | [],[],[],_,_,h,_=>h
 | _::_,_::_,_::_,_,hT,⟨p,q,h1,h2,e⟩,hs=>
  ⟨p,q,Below.trod hl (hT _ (List.mem_cons.2 (Or.inl rfl))).1 (hT _ (List.mem_cons.2 (Or.inl rfl))).2 h1 hb (fun x hx=>hs x (by rw[e];exact List.mem_append_left _ hx)),
   ZCF hl hb (fun t ht=>hT t (List.mem_cons.2 (Or.inr ht))) h2 (fun x hx=>hs x (by rw[e];exact List.mem_append_right _ hx)),e⟩
theorem trodAll_length {W:World} {b:Nat} {sp:Nat→Bool} {hd:Bool}:∀ {ts:List TypeId} {vs:List Value} {ds:List (DataW H)} {ps:List MemPlace},
  DataW.TrodAll enc P W b sp hd ts vs ds ps→ds.length=ts.length
 | [],[],[],_,_=>rfl
 | _::_,_::_,_::_,_,⟨_,_,_,h2,_⟩=>by simp[trodAll_length h2]
theorem post_law {f:Func} {s:ChangeSpec} {W W':World} {args:Array Value} {ds gs:List (DataW H)} {before:List MemPlace} {tb:TypeId}
  (hl:laidOutB P=true) (hr:∀t∈f.params.toList,P.readableRec t=true∧t<P.types.size)
  (hres:f.resultTypes=#[tb]) (hub:P.underlying tb=some .bool) (hvars:s.vars=[])
  (hspec:∀es:List (DataW H),es.length=f.params.toList.length→s.fn H (es++[]) = { results:=[.lit (.bool true)],args:=es })
  (hW:DataW.Whole enc P f.params.toList s.vars false W args.toList ds gs before) (hb:Below W.heap.size W W') :
  s.post enc P f false true false false W args (.bool true) W':=by
 have hW':=hW;obtain ⟨p,q,hA,hV,rfl,_,_⟩:=hW;rw[hvars] at hV;obtain ⟨rfl,rfl⟩:=trodVars_none hV;have hsp:=hspec ds (trodAll_length hA);refine ⟨ds,[],p++[],[],p,[],hW',?_,?_,?_,hb.frame _,fun h=>by cases h⟩
 ·rw[hsp,hres]
  exact trodAll_cons_mk (shut_bool hub _) trodAll_mk0
 ·rw[hsp]
  exact ZCF hl hb hr hA (fun x hx=>hW'.lt x (List.mem_append_left _ hx))
 ·rw[hsp,hvars]
  exact rfl
theorem ZE8 {w:World} {base:Nat} {sp:Nat→Bool} {held:Bool} {fuel:Nat} {t e:TypeId} {n:Nat} {cs:List Value} {zs:List ByteArray} {p:List MemPlace}
  (ht:P.underlying t=some (.array n e)) (he:P.underlying e=some .string) (hce:P.cellsOf e=1) (hct:P.cellsOf t=n)
  (h:DataW.trod enc P w base sp held fuel t cs=some (.agg (zs.map fun z=>.lit (.string z.data.toList)),p)):cs=zs.map Value.string:=by
 cases fuel with
 | zero=>simp[DataW.trod] at h
 | succ fuel=>
  simp only[DataW.trod,ht,hce,hct,Nat.mul_one] at h
  split at h
  ·rename_i hl
   obtain ⟨xs,hm,hx⟩:=Option.map_eq_some_iff.1 h;have hxs:xs.map (·.1)=zs.map fun z=>(DataW.lit (.string z.data.toList):DataW H):=by
    have:=congrArg Prod.fst hx
    simpa using this
   have hxl:xs.length=n:=by simpa using Lib.mapM_length hm
   have hzl:zs.length=n:=by
    have:=congrArg List.length hxs
    simp at this
    omega
   apply List.ext_getElem?
   intro i
   by_cases hi:i<n
   ·obtain ⟨b,hb,hf⟩:=Lib.mapM_at hm i i (by simp[hi])
    obtain ⟨z,hc,rfl,_⟩:=DataW.trod_string he hf;have h1:cs[i]? = some (.string z):=by
     have:=congrArg (·[0]?) hc
     simpa[List.getElem?_take,List.getElem?_drop] using this
    have h2:(xs.map (·.1))[i]? = some (DataW.lit (.string z.data.toList):DataW H):=by simp[hb]
    rw[hxs] at h2;simp only[List.getElem?_map,Option.map_eq_some_iff,DataW.lit.injEq,Lit.string.injEq] at h2;obtain ⟨z',hz',hzz⟩:=h2;have:z'=z:=by
     apply ByteArray.ext
     exact Array.toList_inj.1 hzz
    subst this;simp[h1,hz']
   ·rw[List.getElem?_eq_none (by omega),List.getElem?_eq_none (by simp;omega)]
  ·cases h
end
theorem pow_lits {H:Type}:(Rows.laid_internal_strconv_uint64pow10:DataW H)=Lib.tabData .u64 Lib.pow10Tab:=by
 unfold Rows.laid_internal_strconv_uint64pow10 Lib.tabData;have h:Lib.pow10Tab=[1,10,100,1000,10000,100000,1000000,10000000,100000000,1000000000,10000000000,100000000000,1000000000000,10000000000000,100000000000000,1000000000000000,10000000000000000,100000000000000000,1000000000000000000,10000000000000000000]:=by decide +kernel
 rw[h]
 rfl
theorem tabs_at {W:World} (h:laidMet Tryz.prog [("math/bits.deBruijn32tab", Rows.laid_math_bits_deBruijn32tab),("math/bits.deBruijn64tab", Rows.laid_math_bits_deBruijn64tab),("internal/strconv.uint64pow10", Rows.laid_internal_strconv_uint64pow10),("catapult/lex.keys", Rows.laid_catapult_lex_keys)] W):Zj W∧ZFM W∧ZIp W.heap.size W:=by
 obtain ⟨ps,⟨_,_,_,_,_,_,_,_,_,_,⟨g0,t0,cs0,fuel0,p0,_,hg0,ht0,hvar0,hd0,⟨g1,t1,cs1,fuel1,p1,_,hg1,ht1,hvar1,hd1,⟨g',t',cs,fuel,p,_,hg',ht',hvar,hd,_,_⟩,_⟩,_⟩,_⟩,_⟩:=h;obtain rfl:=Option.some.inj (gKeys.symm.trans hg');obtain rfl:=Option.some.inj (ZKH.symm.trans ht');obtain rfl:=Option.some.inj (gTz.symm.trans hg0);obtain rfl:=Option.some.inj (gTzType.symm.trans ht0);obtain rfl:=Option.some.inj (gPow.symm.trans hg1);obtain rfl:=Option.some.inj (gPowType.symm.trans ht1);have hcs:=ZE8 (zs:=keysL) Tryz.underlying346 Tryz.underlying9 ZF2 ZKm hd;have hcs0:=Lib.cells_of_tab (k:=.u8) (zs:=Lib.deBruijn64tab.map (fun n:Nat=>(n:Int))) Tryz.underlying340 Tryz.underlying5 cells_u8 cellsTz hd0;rw[pow_lits] at hd1;have hcs1:=Lib.cells_of_tab (k:=.u64) (zs:=Lib.pow10Tab) Tryz.underlying306 Tryz.underlying60 ZKk cellsPow hd1;refine ⟨fun j hj=>?_,fun j hj=>?_,Lib.tabBelow_of_tabIs (by
  unfold Lib.TabIs;rw[hvar1,←hcs1])⟩
 ·have:=World.var?_cell gKeys hvar j
  rw[Nat.zero_add,this];have h2:cs[j]? = cs.toList[j]?:=by simp
  rw[h2,hcs,List.getElem?_map,List.getElem?_eq_getElem hj];simp[List.getD,hj]
 ·have:=World.var?_cell gTz hvar0 j
  rw[this];have h2:cs0[j]? = cs0.toList[j]?:=by simp
  rw[h2,hcs0,List.getElem?_map,List.getElem?_map,List.getElem?_eq_getElem hj];simp[List.getD,hj]
def ZCw (cs:Array Value):Obj→Obj
 | .cells _ t frozen=>.cells cs t frozen
 | o=>o
noncomputable def laidWorld (os:Os):World:=
 { World.holding Tryz.prog os ⟨#[],#[],[]⟩ with heap:=(((((World.holding Tryz.prog os ⟨#[],#[],[]⟩).heap.modify 3 (ZCw (keysL.map Value.string).toArray)).modify 2 (ZCw (Lib.deBruijn64tab.map fun (z:Nat)=>Value.int .u8 (Int.ofNat z)).toArray)).modify 4 (ZCw (Lib.deBruijn32tab.map fun (z:Nat)=>Value.int .u8 (Int.ofNat z)).toArray)).modify 0 (ZCw (Lib.pow10Tab.map fun z=>Value.int .u64 z).toArray)) }
def argsV:Array Value:=#[.agg #[.int .i64 0,.int .i64 0,.int .i64 0,.int .i64 0,.int .i64 0,.slice none 0 0,.slice none 0 0],.slice none 0 0,.int .i64 0,.int .u32 0]
theorem laid_met (os:Os):laidMet Tryz.prog [("math/bits.deBruijn32tab", Rows.laid_math_bits_deBruijn32tab),("math/bits.deBruijn64tab", Rows.laid_math_bits_deBruijn64tab),("internal/strconv.uint64pow10", Rows.laid_internal_strconv_uint64pow10),("catapult/lex.keys", Rows.laid_catapult_lex_keys)] ((laidWorld os).forCall (fun _ _=>0) ⟨#[],argsV,[]⟩).memory:=
 laidMet_of_run' 8 (by kernel_rfl) (by kernel_rfl)
theorem law_any (z v1 v2 at_ lk:Int) (sl:Value) (hsl:∃A n c,sl=.slice A n c) (A:Option Addr) (c:Nat) (l:List Int) (AR:Option Addr) (cR:Nat) (rs:List Nat) (room:Int) (ans:Nat) (w:World) (h:RowOf w (.slice A l.length c) l.length (l.map (Value.int .i64))) (hl:l.length≤17592186044414)
  (hr:RowOf w (.slice AR rs.length cR) rs.length (rs.map ZD2)) (hrl:rs.length≤35184372088829) (hru:∀x∈rs,x<4294967296) (hans:ans<4294967296) (hW:ZFE w) (ht:ZIp w.heap.size w) :
  Calls Tryz.prog 3 #[.agg #[.int .i64 z,.int .i64 v1,.int .i64 v2,.int .i64 at_,.int .i64 lk,sl,.slice A l.length c],.slice AR rs.length cR,.int .i64 room,.int .u32 (ans:Int)] w fun e w'=>e=.returned (.bool true)∧Below w.heap.size w w':=by
 have h1:l.length≤2^50:=Nat.le_trans hl (by decide);have h2:rs.length≤2^50:=Nat.le_trans hrl (by decide)
 cases ho:ownB z at_ lk l with
 | false=>exact law_bad z v1 v2 at_ lk sl hsl A c l (.slice AR rs.length cR) ⟨_,_,_,rfl⟩ room ans w h h1 ho hW
 | true=>
  obtain ⟨-,-,hz,-,hk,-,ha,-⟩:=ZBw ho;obtain ⟨Z,rfl⟩:=Int.eq_ofNat_of_zero_le (show 0≤z by omega);obtain ⟨Lk,rfl⟩:=Int.eq_ofNat_of_zero_le hk;obtain ⟨At,rfl⟩:=Int.eq_ofNat_of_zero_le ha;exact law_ok Z Lk At v1 v2 sl hsl A c l AR cR rs room ans w h h1 hr h2 hru hans ho hW ht
theorem ZJX:∀t∈Tryz.f3.params.toList,Tryz.prog.readableRec t=true∧t<Tryz.prog.types.size:=by
 rw[Tryz.params3];intro t ht;rcases List.mem_cons.1 ht with rfl|ht
 ·exact ⟨by kernel_rfl,of_decide_eq_true (by kernel_rfl)⟩
 rcases List.mem_cons.1 ht with rfl|ht
 ·exact ⟨by kernel_rfl,of_decide_eq_true (by kernel_rfl)⟩
 rcases List.mem_cons.1 ht with rfl|ht
 ·exact ⟨by kernel_rfl,of_decide_eq_true (by kernel_rfl)⟩
 rcases List.mem_cons.1 ht with rfl|ht
 ·exact ⟨by kernel_rfl,of_decide_eq_true (by kernel_rfl)⟩
 cases ht
theorem contract (H:Type) (enc:TypeId×Value→H) (W:World) (base:Nat) (args:Array Value) (ds gs:List (DataW H)) (before:List MemPlace)
  (hval:∀(j:Nat) t v,Tryz.f3.params[j]? = some t→args[j]? = some v→Value.okWide Tryz.prog W .any base t v)
  (hW:DataW.Whole enc Tryz.prog Tryz.f3.params.toList Rows.framePrologueSpec.vars false W args.toList ds gs before) (hL:laidMetH Tryz.prog Rows.framePrologueRow.laid W)
  (hz:(DataW.weightsEach Tryz.prog (Tryz.f3.params.toList++(OpenSpec.ofChange Rows.framePrologueSpec).bare.plain.varTypes Tryz.prog) (ds++gs)).all (·≤reachBytes)=true) :
  Calls Tryz.prog 3 args W fun e W'=>∃v,e=.returned v∧Rows.framePrologueSpec.post enc Tryz.prog Tryz.f3 false true false false W args v W':=by
 have hW':=hW;obtain ⟨p,q,hA0,hV,rfl,hfz,hnd⟩:=hW;have hA:DataW.TrodAll enc Tryz.prog W 0 (fun _=>true) true Tryz.f3.params.toList args.toList ds p:=hA0;rw[Tryz.params3] at hA hval;obtain ⟨v0,v1,v2,v3,d0,d1,d2,d3,p0,p1,p2,p3,hargs,rfl,rfl,h0,h1,h2,h3⟩:=trodAll_four hA;obtain rfl:args=#[v0,v1,v2,v3]:=by cases args;simp_all
 have hz0:In d0 24:=fun m hm=>by
  have:=List.all_eq_true.1 hz m (DataW.weights_mem_each (j:=0) (t:=24) (d:=d0) (by rw[Tryz.params3];rfl) rfl m hm)
  simpa using this
 have hz1:In d1 25:=fun m hm=>by
  have:=List.all_eq_true.1 hz m (DataW.weights_mem_each (j:=1) (t:=25) (d:=d1) (by rw[Tryz.params3];rfl) rfl m hm)
  simpa using this
 obtain ⟨cs,rfl,hsz⟩:=okWide_struct Tryz.underlying24 (hval 0 24 v0 rfl rfl);obtain ⟨A1,n1,c1,rfl⟩:=okWide_slice Tryz.underlying25 (hval 1 25 v1 rfl rfl);obtain ⟨room,rfl,-,-,-⟩:=open_int Tryz.underlying3 (hval 2 3 v2 rfl rfl) h2;obtain ⟨an,rfl,-,-,han⟩:=open_int Tryz.underlying26 (hval 3 26 v3 rfl rfl) h3;obtain ⟨f0,hf0⟩:=h0;obtain ⟨f1,hf1⟩:=h1;have hf0':DataW.trod enc Tryz.prog W 0 (fun _=>true) true f0 24 cs.toList=some (d0,p0):=hf0;have hf1':DataW.trod enc Tryz.prog W 0 (fun _=>true) true f1 25 [.slice A1 n1 c1]=some (d1,p1):=hf1;obtain ⟨z,w1,w2,at_,lk,sl,A,c,l,hcs,hsl,hrow,hlen⟩:=frame_in hf0' hz0;obtain rfl:cs=#[.int .i64 z,.int .i64 w1,.int .i64 w2,.int .i64 at_,.int .i64 lk,sl,.slice A l.length c]:=Array.toList_inj.1 hcs;obtain ⟨rs,AR,cR,hv,hrr,hrl,hru⟩:=u32s_in hf1' hz1;rw[hv] at hval hA hW' ⊢;have hb:=bounds_u32 han;obtain ⟨ans,rfl⟩:=Int.eq_ofNat_of_zero_le hb.1;obtain ⟨hk,ht,htb⟩:=tabs_at (show laidMet Tryz.prog [("math/bits.deBruijn32tab", Rows.laid_math_bits_deBruijn32tab),("math/bits.deBruijn64tab", Rows.laid_math_bits_deBruijn64tab),("internal/strconv.uint64pow10", Rows.laid_internal_strconv_uint64pow10),("catapult/lex.keys", Rows.laid_catapult_lex_keys)] W from hL);refine (law_any z w1 w2 at_ lk sl hsl A c l AR cR rs room ans W hrow hlen hrr hrl hru (by omega) (works_ok W hk ht) htb).mono fun e W' ⟨he,hbel⟩=>?_;subst he;exact ⟨_,rfl,post_law laidOut ZJX (tb:=4) (by kernel_rfl) Tryz.underlying4 rfl (fun es hes=>by
  rw[Tryz.params3] at hes
  match es,hes with
  | [_,_,_,_],_=>rfl) hW' hbel⟩
theorem readsW (os:Os) {H:Type} (enc:TypeId×Value→H):∃places,DataW.whole enc Tryz.prog ((laidWorld os).forCall (fun _ _=>0) ⟨#[],argsV,[]⟩).memory Tryz.f3.params.toList Rows.framePrologueSpec.vars false argsV.toList 8=some ([.agg [.lit (.int .i64 0),.lit (.int .i64 0),.lit (.int .i64 0),.lit (.int .i64 0),.lit (.int .i64 0),.nil,.nil],.nil,.lit (.int .i64 0),.lit (.int .u32 0)],[],places):=
 ⟨[],by kernel_rfl⟩
theorem lifted (os:Os) (started:os.Started) (H:Type) (enc:TypeId×Value→H) (F:Stop.Interp) :
  ReturnsInHanded {} Tryz.checked os 3 .any ((OpenSpec.ofChange Rows.framePrologueSpec).preRow enc Tryz.prog Tryz.f3 Rows.framePrologueRow.domain false Rows.framePrologueRow.laid) (((OpenSpec.ofChange Rows.framePrologueSpec).at F).post enc Tryz.prog Tryz.f3 false true false false):=by
 obtain ⟨places,hx⟩:=readsW os enc;refine returnsInHanded_of_row (C:=Tryz.checked) (s:=OpenSpec.ofChange Rows.framePrologueSpec) own started (by kernel_rfl) Tryz.func3
  (witness_row_at (enc:=enc) (C:=Tryz.checked) false (laidWorld os) argsV rfl (by kernel_rfl) (by kernel_rfl) (by kernel_rfl)
   (OpenSpec.preRow_of_cond 8 hx (by kernel_rfl) (fun k hk=>by cases hk) (by kernel_rfl) (laid_met os))) ?_
 intro W base args ds gs before hval hW _ _ hz hL _ _;exact contract H enc W base args ds gs before hval hW hL hz
theorem said:Rows.FramePrologueSaid:=
 OpenClaim.holds_of_cond 3 Tryz.f3 rfl rfl rfl rfl rfl rfl rfl ⟨rfl,rfl,rfl,rfl,rfl⟩ rfl rfl rfl rfl rfl (by kernel_rfl) Tryz.func3 (by kernel_rfl)
  (of_decide_eq_true (by kernel_rfl)) (by unfold Func.isWrapper;first|(rw[if_pos (by decide +kernel)];kernel_rfl)|(rw[if_neg (by decide +kernel)];exact ⟨rfl,rfl⟩))
  (fun os started H enc _ F=>by rw[OpenClaim.pre_eq_preRow];exact lifted os started H enc F)
theorem plain (f:FuncId) (fn:Func) (hf:Tryz.pinned.checked.prog.funcNamed "catapult/catapultlaw25.FramePrologue" = some f) (hfn:Tryz.pinned.checked.prog.funcs[f]? = some fn) :
  false=Tryz.pinned.checked.prog.looks []∧∀(j:Nat) t,fn.params[j]? = some t→Tryz.pinned.checked.prog.wantsStandIn t=false:=by
 obtain rfl:f=3:=Option.some.inj ((show Tryz.prog.funcNamed "catapult/catapultlaw25.FramePrologue" = some 3 by kernel_rfl).symm.trans hf) |>.symm;obtain rfl:fn=Tryz.f3:=(Option.some.inj (Tryz.func3.symm.trans hfn)).symm;refine ⟨by kernel_rfl,fun j t ht=>?_⟩;rw[Tryz.params3] at ht;have hm:=Array.mem_of_getElem? ht
 simp at hm
 rcases hm with rfl|rfl|rfl|rfl
 ·exact (show Tryz.prog.wantsStandIn 24=false by kernel_rfl)
 ·exact (show Tryz.prog.wantsStandIn 25=false by kernel_rfl)
 ·exact (show Tryz.prog.wantsStandIn 3=false by kernel_rfl)
 ·exact (show Tryz.prog.wantsStandIn 26=false by kernel_rfl)
theorem frame_prologue:Rows.FramePrologueCardSaid:=
 Claim7.holds_tied_plain_at .later [] _ _ _ _ said (fun _ h=>by cases h) (by kernel_rfl) (fun _ h=>by cases h) framePrologue_row_tie rfl ⟨rfl,rfl⟩ (by kernel_rfl) rfl plain (by kernel_rfl)
end Go.Proofs.YtggmkofbikafhaaGreatDoor
