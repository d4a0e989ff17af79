/- Walks and plain laws on the way to FramePrologue (XR, XS, XT, XU0, XU1). Conditions: those that each theorem states. -/
import Derived.Test.YtggmkofbikafhaaGreatDoorXQ
set_option linter.unusedVariables false
set_option linter.unusedSimpArgs false
set_option maxRecDepth 100000
set_option maxHeartbeats 40000000
namespace Go.Proofs.YtggmkofbikafhaaGreatDoor
open Go.RowKit Go.Lib
def ZGJ:List UInt8:=[46,119,111,114,100,32,48]
theorem ZJs (gs:Nat) (tv lv:Value) (tx:List UInt8) (lb:List Lb) (n:Int) (w:World) (h:StV w gs tv lv tx lb) (hlb:lb.length≤1000) (hl:tx.length≤900000) :
  Calls Tryz.prog 27 #[.pointer (some ⟨gs,0,none⟩),.string (str ZGJ),.int .i64 n] w fun e w'=>e=.returned (.int .i64 0)∧StP gs tv lv (tx++wB 0) lb w w':=by
 have HP:=Zh (ZB5 ZGJ w (by decide) (by decide));rw[show partR [] ZGJ=[dotW,decDigits 0] by first|decide +kernel|(rw[show decDigits 0=[48] by first|rfl|simp[decDigits]|decide +kernel];decide)] at HP;have HC:=Zh (fun W pv hW hp=>dir_word gs tv lv pv tx lb W hW hp (by omega));obtain ⟨s,hs,hlt,hcc,hsz,hgl,hgl2⟩:∃s,str dotW=s∧∃hlt:0<s.size,(s[0]'hlt)=46∧s.size=5∧(s.toList==(⟨#[46,103,108,111,98,97,108]⟩:ByteArray).toList)=false∧(s.toList == [46,103,108,111,98,97,108])=false:=
  ⟨str dotW,rfl,by decide,by rw[ZAu];rfl,by decide,by rw[show (⟨#[46,103,108,111,98,97,108]⟩:ByteArray)=str [46,103,108,111,98,97,108] from rfl,ZCO];decide,by rw[Lib.toList_data,ZU];decide⟩
 have hc:(s[0]'hlt).toNat=46:=by rw[hcc];rfl
 have HSS:=Zh hs;obtain ⟨sl,hsl'⟩:∃sl,str ZGJ=sl:=⟨_,rfl⟩
 rw[hsl'] at HP ⊢;have H:=Zh h;have HT:=Zh hl;clear h hs hsl' hl;go_enter Tryz.func27,Tryz.ntmps27
 go_wp2_with fail
 refine HP.out.mono ?_;rintro e w1 ⟨⟨v,rfl,ho⟩,hb1⟩;have HO:=Zh ho.strs;obtain ⟨g,off,cap,rfl,-,-,hg,hcl⟩:=ho.strs.open_ (by simp);have y0:w1.cell? ⟨g,off,none⟩=some (.string s):=by have:=hcl 0 (by simp);rw[Nat.add_zero] at this;rw[←HSS.out];exact this
 have HB1:=Zh hb1;rw[show [dotW,decDigits 0].length=2 from rfl] at HO ⊢;have HK:=Zh (fun (F:Nat→Prop) W (hk:ZE F w1 W) (hF:¬F g)=>((hk.cell (p:=⟨g,off,none⟩) (cell_lt y0) hF).trans y0:W.cell? ⟨g,off,none⟩=some (.string s)));have hge:w.heap.size≤g:=ho.ge g rfl;clear hb1 ho hcl HP HSS;go_wp2_with fail
 refine (HC.out _ _ (H.out.below HB1.out) HO.out).mono ?_;rintro e w3 ⟨rfl,h3⟩;have y3:w3.cell? ⟨g,off,none⟩=some (.string s):=HK.out _ w3 h3.k (by
  rintro (e|e|e)
  ·have:=H.out.b.lt;omega
  ·obtain ⟨cu,hcu⟩:=ZI H.out.t e
   have:=hcu.lt;omega
  ·obtain ⟨cu,hcu⟩:=ZI H.out.l e
   have:=hcu.lt;omega)
 have HN:=Zh (h3.of HB1.out HB1.out.size);obtain ⟨⟨tv',lv',hst,-,-⟩,-⟩:=h3;have d0:w3.cell? ⟨gs,0,none⟩=some tv':=(hst.b.cell 0).trans rfl;have d1:w3.cell? ⟨gs,1,none⟩=some (.slice none 0 0):=(hst.b.cell 1).trans rfl;have d2:w3.cell? ⟨gs,2,none⟩=some lv':=(hst.b.cell 2).trans rfl;have d3:w3.cell? ⟨gs,3,none⟩=some (.slice none 0 0):=(hst.b.cell 3).trans rfl;obtain ⟨At,ct,rfl,-,-⟩:=ZR hst.t;obtain ⟨Al,cl,rfl,-,-⟩:=ZAn hst.l;have hq:(tx++wB 0).length≤1000000:=by have:=HT.out;simp[wB];omega
 obtain ⟨tx2,e2⟩:∃l,tx++wB 0=l:=⟨_,rfl⟩
 rw[e2] at hq HN d0 hst;have E2:=Zh e2;clear hst y0 e2 hge;go_wp2_with fail
 go_ret;exact ⟨rfl,by rw[E2.out];exact HN.out⟩
theorem ZIK (gs:Nat) (n:Int) (w:World) :
  Calls Tryz.prog 27 #[.pointer (some ⟨gs,0,none⟩),.string (str []),.int .i64 n] w fun e w'=>e=.returned (.int .i64 0)∧Below w.heap.size w w':=by
 have HP:=Zh (ZB5 [] w (by decide) (by simp));rw[show partR [] []=[] by decide] at HP;obtain ⟨sl,hsl'⟩:∃sl,str []=sl:=⟨_,rfl⟩
 rw[hsl'] at HP ⊢;clear hsl';go_enter Tryz.func27,Tryz.ntmps27
 go_wp2_with fail
 refine HP.out.mono ?_;rintro e w1 ⟨⟨v,rfl,ho⟩,hb1⟩;obtain ⟨A,c,rfl,-,-⟩:=ho.form;have HB:=Zh hb1;clear hb1 ho HP;go_wp2_with fail
 go_ret;exact ⟨rfl,HB.out⟩
def Ln (l tx:List UInt8) (lb:List Lb) (tx':List UInt8) (lb':List Lb):Prop:=
 ∀(gs:Nat) (n:Int) (tv lv:Value) (W:World),StV W gs tv lv tx lb→Calls Tryz.prog 27 #[.pointer (some ⟨gs,0,none⟩),.string (str l),.int .i64 n] W fun e W'=>e=.returned (.int .i64 0)∧(∃tv' lv',StV W' gs tv' lv' tx' lb')∧Below gs W W'
theorem ZAB {W:World} {B size:Nat} {e:TypeId} {v:Value} {n g:Nat} {xs:List Value} (h:W.ownsRow B e size v n xs) (hg:v.ownBlock=some g):B≤g:=by
 rcases h.2 with ⟨rfl,rfl⟩|⟨g',cap,cur,rfl,h1,_⟩
 ·cases hg
 ·simp only[Value.ownBlock,Option.some.injEq] at hg
  omega
theorem StP.ln {gs:Nat} {tv lv:Value} {tx tx':List UInt8} {lb lb':List Lb} {W W':World} (h:StP gs tv lv tx' lb' W W') (hs:StV W gs tv lv tx lb):(∃tv' lv',StV W' gs tv' lv' tx' lb')∧Below gs W W':=by
 obtain ⟨⟨tv',lv',h1,-,-⟩,hk⟩:=h;refine ⟨⟨tv',lv',h1⟩,hk.toBelow (Nat.le_of_lt hs.b.lt) ?_⟩;rintro k hkl (e|e|e)
 ·omega
 ·have:=ZAB hs.t e;omega
 ·have:=ZAB hs.l e;omega
theorem ZCv (tx nm:List UInt8) (lb:List Lb) (hL:Low nm) (hnew:∀x∈lb,x.nm≠nm) (hpt:partR [] (nm++[58])=[nm++[58]]) (hno:∀c∈nm++[58],c.toNat≠59∧c.toNat≠9) (hlb:lb.length≤1000) (hl:tx.length≤1000000):Ln (nm++[58]) tx lb tx (lb++[⟨nm,tx.length⟩]):=by
 intro gs n tv lv W hW;refine (ZIJ gs tv lv tx nm lb n W hW hL hnew hpt hno hlb hl).mono ?_;rintro e w' ⟨rfl,h⟩;exact ⟨rfl,h.ln hW⟩
theorem ZJq (tx:List UInt8) (lb:List Lb) (hlb:lb.length≤1000) (hl:tx.length≤900000):Ln ZGJ tx lb (tx++wB 0) lb:=by
 intro gs n tv lv W hW;refine (ZJs gs tv lv tx lb n W hW hlb hl).mono ?_;rintro e w' ⟨rfl,h⟩;exact ⟨rfl,h.ln hW⟩
theorem ZEr (tx:List UInt8) (lb:List Lb):Ln [] tx lb tx lb:=by
 intro gs n tv lv W hW;refine (ZIK gs n W).mono ?_;rintro e w' ⟨rfl,h⟩;exact ⟨rfl,⟨tv,lv,hW.below h⟩,ZA h (Nat.le_of_lt hW.b.lt)⟩
theorem ZHW (tx l:List UInt8) (lb:List Lb) (d n:Nat) (hd:d≤15) (hn:n≤32767) (hll:l.length≤1000) (hpt:partR [] l=[ZDW,114::decDigits d,decDigits n]) (hno:∀c∈l,c.toNat≠59∧c.toNat≠9) (hlb:lb.length≤1000) (hl:tx.length≤900000) (h4:tx.length%4=0):Ln l tx lb (tx++wB (encN 25 d 0 0 n)) lb:=by
 intro gs k tv lv W hW;refine (ZFn gs tv lv tx (wB (encN 25 d 0 0 n)) l ZDW _ lb k W hW hll hpt (by simp) (by simp) (by decide) (by decide) (by
  intro c hc;simp[ZDW] at hc;subst hc
  decide) hno hlb (by simp[wB];omega) (fun W' pv h1 h2=>ZIf gs d n tv lv pv tx lb W' h1 h2 hd hn (by omega) h4)).mono ?_
 rintro e w' ⟨rfl,h⟩;exact ⟨rfl,h.ln hW⟩
theorem ln_ins (tx l p0:List UInt8) (pr:List (List UInt8)) (lb:List Lb) (o d a b i:Nat) (hd:d≤15) (ha:a≤15) (hb:b≤15) (hi:i≤32767) (hch:ZA9 o d a b i=true) (hll:l.length≤1000) (hpt:partR [] l=p0::pr) (hpr:0<pr.length) (hpl:pr.length≤20) (h0:0<p0.length) (hpb:∀x∈p0::pr,x.length≤1000) (hj:ZBE (p0::pr) (p0::pr).length=printL o d a b i) (hdot:∀c,p0[0]? = some c→c.toNat≠46) (hno:∀c∈l,c.toNat≠59∧c.toNat≠9) (hlb:lb.length≤1000) (hl:tx.length≤900000) (h4:tx.length%4=0):Ln l tx lb (tx++wB (encN o d a b i)) lb:=by
 intro gs k tv lv W hW;refine (ZFn gs tv lv tx (wB (encN o d a b i)) l p0 pr lb k W hW hll hpt hpr (by omega) h0 (hpb _ (by simp)) hdot hno hlb (by simp[wB];omega) (fun W' pv h1 h2=>code_ins gs o d a b i tv lv pv tx lb (p0::pr) W' h1 h2 (by simp;omega) hpb hj hch hd ha hb hi (by omega) h4)).mono ?_;rintro e w' ⟨rfl,h⟩;exact ⟨rfl,h.ln hW⟩
def ZE3:List UInt8→List UInt8→List (List UInt8)
 | cur,[]=>[cur]
 | cur,c::r=>if c.toNat=10 then cur::ZE3 [] r else ZE3 (cur++[c]) r
theorem cutN_nl {l:List UInt8} {a k:Nat} (hk:k<l.length) (h:l[k].toNat=10):ZE3 ((l.take k).drop a) (l.drop k)=(l.take k).drop a::ZE3 ((l.take (k+1)).drop (k+1)) (l.drop (k+1)):=by
 rw[List.drop_eq_getElem_cons hk,ZE3,if_pos h]
 congr 2
 rw[List.drop_eq_nil_of_le (by rw[List.length_take];omega)]
theorem ZKc {l:List UInt8} {a k:Nat} (ha:a≤k) (hk:k<l.length) (h:l[k].toNat≠10):ZE3 ((l.take k).drop a) (l.drop k)=ZE3 ((l.take (k+1)).drop a) (l.drop (k+1)):=by
 rw[List.drop_eq_getElem_cons hk,ZE3,if_neg h]
 congr 1
 rw[List.take_succ_eq_append_getElem hk,List.drop_append_of_le_length (by rw[List.length_take];omega)]
theorem cutN_end {l:List UInt8} {a k:Nat} (hk:l.length≤k):ZE3 ((l.take k).drop a) (l.drop k)=[(l.take k).drop a]:=by
 rw[List.drop_eq_nil_of_le hk,ZE3]
theorem ZF0:∀(m:List UInt8),(∀c∈m,c.toNat≠10)→∀(cur r:List UInt8),ZE3 cur (m++10::r)=(cur++m)::ZE3 [] r
 | [],_,cur,r=>by rw[List.nil_append,ZE3,if_pos (by decide),List.append_nil]
 | c::m,h,cur,r=>by
  rw[List.cons_append,ZE3,if_neg (h c (by simp)),ZF0 m (fun x hx=>h x (by simp[hx])),List.append_assoc]
  rfl
theorem ZEU:∀(ls:List (List UInt8)),(∀m∈ls,∀c∈m,c.toNat≠10)→ZE3 [] (ls.flatMap (fun m=>m++[10]))=ls++[[]]
 | [],_=>rfl
 | m::ls,h=>by
  rw[List.flatMap_cons,List.append_assoc,List.singleton_append,ZF0 m (h m (by simp)),ZEU ls (fun x hx=>h x (by simp[hx]))]
  rfl
def Run:List (List UInt8)→List UInt8→List Lb→List UInt8→List Lb→Prop
 | [],tx,lb,tx',lb'=>tx'=tx∧lb'=lb
 | l::r,tx,lb,tx',lb'=>∃t b,Ln l tx lb t b∧Run r t b tx' lb'
theorem Run.app:∀ {l r:List (List UInt8)} {tx t tx':List UInt8} {lb b lb':List Lb},Run l tx lb t b→Run r t b tx' lb'→Run (l++r) tx lb tx' lb'
 | [],r,tx,t,tx',lb,b,lb',h1,h2=>by
  obtain ⟨rfl,rfl⟩:=h1;exact h2
 | a::l,r,tx,t,tx',lb,b,lb',⟨t1,b1,h0,h1⟩,h2=>⟨t1,b1,h0,h1.app h2⟩
theorem ZJx (x:Lb):∀y∈lbc x,y.oneCell'=true:=by
 intro y hy;simp[lbc] at hy;rcases hy with rfl|rfl|rfl|rfl<;>rfl
theorem lbs_one (l:List Lb):∀y∈l.flatMap lbc,y.oneCell'=true:=by
 intro y hy;obtain ⟨x,-,hx⟩:=List.mem_flatMap.1 hy;exact ZJx x y hx
theorem OwnL.below {W W':World} {B:Nat} {v:Value} {l:List Lb} (h:OwnL W B v l) (hb:Below W.heap.size W W'):OwnL W' B v l:=ZB h (ZC (fun _=>False) hb) (fun _ _=>id)
theorem OwnL.form {W:World} {B:Nat} {v:Value} {l:List Lb} (h:OwnL W B v l):∃A c,v=.slice A l.length c∧l.length≤c∧c≤maxLen:=slice_form h
theorem OwnL.ge {W:World} {B:Nat} {v:Value} {l:List Lb} (h:OwnL W B v l):∀g,v.ownBlock=some g→B≤g:=fun g hg=>ZAB h hg
theorem OwnL.keepsB {W W':World} {B:Nat} {v:Value} {l:List Lb} (h:OwnL W B v l) (hk:ZE (fun k=>v.ownBlock=some k) W W') (hB:B≤W.heap.size):Below B W W':=
 hk.toBelow hB (fun k hk' hv=>by have:=h.ge k hv;omega)
theorem OwnL.push {W:World} {B:Nat} {v:Value} {l:List Lb} (h:OwnL W B v l) (hB:B≤W.heap.size) (hs:l.length<1000000) (x:Lb) (ty:TypeId) :
  ∃v' W',(Builtin.append_ #[33,33] ty #[v,.slice (some ⟨W.heap.size,0,none⟩) 1 1]).run Tryz.prog (W.alloc (.cells #[.string (str x.nm),.int .i64 0,.int .i64 (x.at_:Int),.bool false] 102))=.ok v' W'∧OwnL W' B v' (l++[x])∧ZE (fun k=>v.ownBlock=some k) W W':=by
 have ha:Below W.heap.size W (W.alloc (.cells #[.string (str x.nm),.int .i64 0,.int .i64 (x.at_:Int),.bool false] 102)):=ZV _ _;have k1:=h.below ha;have hu:RowOf (W.alloc (.cells #[.string (str x.nm),.int .i64 0,.int .i64 (x.at_:Int),.bool false] 102)) (.slice (some ⟨W.heap.size,0,none⟩) 1 1) 1 (lbc x):=by
  refine ⟨_,_,rfl,Nat.le_refl _,by decide,fun _=>⟨_,0,rfl,by simp[World.size_alloc],fun j u hj=>?_⟩⟩;rw[Nat.zero_add,(Blk.new W _ _).cell]
  simpa[lbc] using hj
 obtain ⟨v',W',e1,e2,e3,e4⟩:=app_any arowL ty k1 hu (by simp[lbc]) (ZJx x) (by unfold maxLen;omega) (by omega) (by simp[World.size_alloc];omega);refine ⟨v',W',e1,?_,((ZE.refl (fun k=>v.ownBlock=some k) W).alloc _).trans ((ZE.refl _ _).grown e3 (fun g hg=>Or.inr hg)) (fun _ _ h=>h)⟩;unfold OwnL;rw[List.length_append,List.flatMap_append]
 simpa using e2
theorem OwnL.cat {W:World} {B:Nat} {v u:Value} {l m:List Lb} (h:OwnL W B v l) (hu:RowOf W u m.length (m.flatMap lbc)) (hB:B≤W.heap.size) (hs:l.length+m.length<1000000) (ty:TypeId) :
  ∃v' W',(Builtin.append_ #[33,33] ty #[v,u]).run Tryz.prog W=.ok v' W'∧OwnL W' B v' (l++m)∧ZE (fun k=>v.ownBlock=some k) W W':=by
 obtain ⟨v',W',e1,e2,e3,e4⟩:=app_any arowL ty h hu (ZAZ lbc 4 ZGr m) (lbs_one m) (by unfold maxLen;omega) (by omega) hB;refine ⟨v',W',e1,?_,(ZE.refl _ _).grown e3 (fun g hg=>Or.inr hg)⟩;unfold OwnL;rw[List.length_append,List.flatMap_append];exact e2
theorem OwnL.row {W:World} {B:Nat} {v:Value} {l:List Lb} (h:OwnL W B v l):RowOf W v l.length (l.flatMap lbc):=RowOf.own h
theorem ZAp {W:World} {A:Option Addr} {n c:Nat} {l:List Lb} (h:RowOf W (.slice A n c) l.length (l.flatMap lbc)) {j:Nat} (hj:j<l.length) :
  ∃g off,A=some ⟨g,off,none⟩∧g<W.heap.size∧∀i (hi:i<l.length),W.cell? ⟨g,off+i*4,none⟩=some (.string (str l[i].nm))∧W.cell? ⟨g,off+i*4+1,none⟩=some (.int .i64 0)∧W.cell? ⟨g,off+i*4+2,none⟩=some (.int .i64 (l[i].at_:Int))∧W.cell? ⟨g,off+i*4+3,none⟩=some (.bool false):=by
 obtain ⟨g,off,cap,e,h2,h3,h4,h5⟩:=RowOf.open_ h (by omega);injection e with e1 e2 e3
 refine ⟨g,off,e1,h4,fun i hi=>?_⟩;have hf:=fun q (hq:q<4)=>Zg lbc 4 ZGr l i hi q hq;refine ⟨?_,?_,?_,?_⟩
 ·exact h5 (i*4) _ (by have:=hf 0 (by omega);rw[Nat.add_zero] at this;rw[this];rfl)
 ·rw[Nat.add_assoc];exact h5 (i*4+1) _ (by rw[hf 1 (by omega)];rfl)
 ·rw[Nat.add_assoc];exact h5 (i*4+2) _ (by rw[hf 2 (by omega)];rfl)
 ·rw[Nat.add_assoc];exact h5 (i*4+3) _ (by rw[hf 3 (by omega)];rfl)
def ZAk:Array Value:=#[.slice none 0 0,.slice none 0 0,.slice none 0 0,.slice none 0 0]
structure OrdAt (w:World) (tv lv lw:Value) (lb own:List Lb) (wr:World):Prop where
 b0:Blk wr w.heap.size 36 #[tv,.slice none 0 0,lv,.slice none 0 0]
 b1:Blk wr (w.heap.size+1) 36 ZAk
 l:OwnL wr (w.heap.size+2) lw own
 r0:RowOf w lv lb.length (lb.flatMap lbc)
 b:Below w.heap.size w wr
theorem OrdAt.r {w wr:World} {tv lv lw:Value} {lb own:List Lb} (h:OrdAt w tv lv lw lb own wr):RowOf wr lv lb.length (lb.flatMap lbc):=RowOf.lo h.r0 (Nat.le_refl _) h.b h.b.size
theorem OrdAt.size {w wr:World} {tv lv lw:Value} {lb own:List Lb} (h:OrdAt w tv lv lw lb own wr):w.heap.size+2≤wr.heap.size:=h.b1.lt
theorem OrdAt.below {w wr W':World} {tv lv lw:Value} {lb own:List Lb} (h:OrdAt w tv lv lw lb own wr) (hb:Below wr.heap.size wr W'):OrdAt w tv lv lw lb own W':=
 ⟨h.b0.below hb h.b0.lt,h.b1.below hb h.b1.lt,h.l.below hb,h.r0,h.b.trans (ZA hb h.b.size)⟩
theorem OrdAt.cat {w wr:World} {tv lv lw ov:Value} {lb own m:List Lb} {B:Nat} (h:OrdAt w tv lv lw lb own wr) (ho:OwnL wr B ov m) (hs:own.length+m.length<1000000) (ty:TypeId) :
  ∃v' W',(Builtin.append_ #[33,33] ty #[lw,ov]).run Tryz.prog wr=.ok v' W'∧OrdAt w tv lv v' lb (own++m) W':=by
 obtain ⟨v',W',e1,e2,e3⟩:=h.l.cat ho.row h.size hs ty;have hb:Below (w.heap.size+2) wr W':=h.l.keepsB e3 h.size;refine ⟨v',W',e1,h.b0.below hb (by omega),h.b1.below hb (by omega),e2,h.r0,h.b.trans (ZA hb (by omega))⟩
theorem ZDD (tv lv:Value) (lb:List Lb) (w:World) (h:RowOf w lv lb.length (lb.flatMap lbc)) (htv:∃A n c,tv=.slice A n c) (hlb:lb.length≤1000) :
  Calls Tryz.prog 28 #[.agg #[tv,.slice none 0 0,lv,.slice none 0 0]] w fun e w'=>(∃lv',e=.returned (.agg #[tv,.slice none 0 0,lv',.slice (some ⟨w.heap.size+3,0,none⟩) 0 0])∧OwnL w' (w.heap.size+2) lv' lb)∧Below w.heap.size w w':=by
 obtain ⟨At,nt,ct,rfl⟩:=htv;obtain ⟨Al,cl,rfl,-,-⟩:=h.form;have hal:=(belA (belA (bel2 w (.cells #[.slice At nt ct,.slice none 0 0,.slice Al lb.length cl,.slice none 0 0] 36) (.cells ZAk 36)) (.cells #[] 102)) (.cells #[] 109))
 have hown:OwnL (((w.alloc (.cells #[.slice At nt ct,.slice none 0 0,.slice Al lb.length cl,.slice none 0 0] 36)).alloc (.cells ZAk 36)).alloc (.cells #[] 102)) (w.heap.size+2) (.slice (some ⟨w.heap.size+2,0,none⟩) 0 0) []:=by
  have:=ZAT (w:=(w.alloc (.cells #[.slice At nt ct,.slice none 0 0,.slice Al lb.length cl,.slice none 0 0] 36)).alloc (.cells ZAk 36)) 102 4
  simpa[World.size_alloc,OwnL] using this
 have H0:=Zh (show OrdAt w (.slice At nt ct) (.slice Al lb.length cl) (.slice (some ⟨w.heap.size+2,0,none⟩) 0 0) lb [] ((((w.alloc (.cells #[.slice At nt ct,.slice none 0 0,.slice Al lb.length cl,.slice none 0 0] 36)).alloc (.cells ZAk 36)).alloc (.cells #[] 102)).alloc (.cells #[] 109)) from
  ⟨(((Blk.new w _ _).alloc _).alloc _).alloc _,((ZY (by simp[World.size_alloc]) _ _).alloc _).alloc _,hown.below (ZV _ _),h,hal⟩)
 clear h hal hown;go_enter Tryz.func28,Tryz.ntmps28
 go_wp2_with fail
 go_loopw [5,3,4] (fun iv lx rv wr=>∃(k:Nat) (lw:Value),k≤2∧iv=.int .i64 k∧lw=lx∧rv=.slice (some ⟨w.heap.size+3,0,none⟩) 0 0∧Hid (OrdAt w (.slice At nt ct) (.slice Al lb.length cl) lw lb (if k=0 then [] else lb) wr)) (fun iv _ _ _=>2-(intOf iv).toNat)
 case atStart=>exact ⟨0,_,by omega,rfl,rfl,rfl,H0.out⟩
 case round=>
  clear H0;obtain ⟨k,lw,hk,rfl,rfl,rfl,HO⟩:=hrel
  by_cases hlt:k<2
  ·obtain ⟨w1,hw1⟩:∃w1,wr=w1:=⟨_,rfl⟩
   rw[hw1] at HO ⊢;clear hw1;have hO2:=Zh (show OrdAt w (.slice At nt ct) (.slice Al lb.length cl) lw lb (if k=0 then [] else lb) (w1.alloc (.cells #[] 102))∧OwnL (w1.alloc (.cells #[] 102)) w1.heap.size (.slice (some ⟨w1.heap.size,0,none⟩) 0 0) []∧Below w1.heap.size w1 (w1.alloc (.cells #[] 102)) from ⟨HO.out.below (ZV _ _),ZAT _ _,ZV _ _⟩);go_wp2_with fail
   go_loopw [7,6] (fun jv oy wx=>∃(j:Nat) (ov:Value),j≤lb.length∧jv=.int .i64 j∧ov=oy∧Hid (OwnL wx w1.heap.size ov (if k=0 then lb.take j else [])∧Below w1.heap.size w1 wx)) (fun jv _ _=>lb.length-(intOf jv).toNat)
   case atStart=>exact ⟨0,_,by omega,rfl,rfl,by show _∧_;exact ⟨by simpa using hO2.out.2.1,hO2.out.2.2⟩⟩
   case round=>
    clear hO2;obtain ⟨j,ov,hj,rfl,rfl,hX⟩:=hrel;have hO3:=Zh (HO.out.below hX.out.2);have d2:wr.cell? ⟨w.heap.size,2,none⟩=some (.slice Al lb.length cl):=(hO3.out.b0.cell 2).trans rfl
    by_cases hlt2:j<lb.length
    ·obtain ⟨g,off,rfl,hg,hc⟩:=ZAp hO3.out.r hlt2
     obtain ⟨c0,c1,c2,c3⟩:=hc j hlt2;obtain ⟨x,hx⟩:∃x,lb[j]=x:=⟨_,rfl⟩
     rw[hx] at c0 c2;clear hc;rcases (show k=0∨k=1 by omega) with rfl|rfl
     ·obtain ⟨v',W',e1,e2,e3⟩:=hX.out.1.push hX.out.2.size (by simp;omega) x 33
      have HAP:=Zh e1;have HN:=Zh (show OwnL W' w1.heap.size v' (if 0=0 then lb.take (j+1) else [])∧Below w1.heap.size w1 W' from ⟨by
       rw[if_pos rfl,List.take_succ_eq_append_getElem hlt2,hx]
       simpa using e2,hX.out.2.trans (hX.out.1.keepsB e3 hX.out.2.size)⟩)
      clear e1 e2 e3 hX hO3 hx;go_wp2_with (at_builtin;refine ZK rfl (.tmp 31) (.tmp 37) 33 rfl rfl rfl HAP.out ?_)
      go_roundw
      case rel=>exact ⟨j+1,by omega,by omega,by show _∧_;simpa using HN.out⟩
      case measure=>first|(simp[intOf];done)|(simp[intOf];omega)
     ·have HN:=Zh hX.out
      clear hX hO3 hx;go_wp2_with fail
      go_roundw
      case rel=>exact ⟨j+1,_,by omega,by go_num,rfl,HN.out⟩
      case measure=>first|(simp[intOf];done)|(simp[intOf];omega)
    ·have hje:j=lb.length:=by omega
     subst hje;obtain ⟨v',W',e1,e2⟩:=hO3.out.cat hX.out.1 (by split<;>simp<;>omega) 33;have HAP:=Zh e1;have HN:=Zh (show OrdAt w (.slice At nt ct) (.slice Al lb.length cl) v' lb (if k+1=0 then [] else lb) W' from by
      rw[if_neg (by omega)];have:=e2
      split at this<;>simpa using this)
     clear e1 e2 hX hO3 HO;go_wp2_with (at_builtin;refine ZK rfl (.tmp 39) (.tmp 40) 33 rfl rfl rfl HAP.out ?_)
     clear HAP d2
     go_loopw [8,4] (fun jv rx wx=>jv=.int .i64 0∧rx=.slice (some ⟨w.heap.size+3,0,none⟩) 0 0∧wx=W') (fun _ _ _=>0)
     case atStart=>exact ⟨rfl,rfl,rfl⟩
     case round=>
      obtain ⟨rfl,rfl,rfl⟩:=hrel;have d3:wr.cell? ⟨w.heap.size,3,none⟩=some (.slice none 0 0):=(HN.out.b0.cell 3).trans rfl;go_wp2_with fail
      go_roundw
      case rel=>exact ⟨k+1,_,by omega,by go_num,rfl,rfl,HN.out⟩
      case measure=>first|(simp[intOf];done)|(simp[intOf];omega)
  ·have hk2:k=2:=by omega
   subst hk2;have hB:=HO.out.b0;have d0:wr.cell? ⟨w.heap.size,0,none⟩=some (.slice At nt ct):=(hB.cell 0).trans rfl;have d1:wr.cell? ⟨w.heap.size,1,none⟩=some (.slice none 0 0):=(hB.cell 1).trans rfl;have f2:=hB.frozen 2;have f3:=hB.frozen 3;have hO:=HO.out;rw[if_neg (by omega)] at hO;obtain ⟨Aw,cw,rfl,-,-⟩:=hO.l.form;have HO2:=Zh hO;have d2:wr.cell? ⟨w.heap.size,2,none⟩=some (.slice Al lb.length cl):=(hB.cell 2).trans rfl;have d3:wr.cell? ⟨w.heap.size,3,none⟩=some (.slice none 0 0):=(hB.cell 3).trans rfl;have q0:wr.cell? ⟨w.heap.size+1,0,none⟩=some (.slice none 0 0):=(hO.b1.cell 0).trans rfl;have q1:wr.cell? ⟨w.heap.size+1,1,none⟩=some (.slice none 0 0):=(hO.b1.cell 1).trans rfl;have q2:wr.cell? ⟨w.heap.size+1,2,none⟩=some (.slice none 0 0):=(hO.b1.cell 2).trans rfl;have q3:wr.cell? ⟨w.heap.size+1,3,none⟩=some (.slice none 0 0):=(hO.b1.cell 3).trans rfl;have p0:=hO.b1.frozen 0;have p1:=hO.b1.frozen 1;have p2:=hO.b1.frozen 2;have p3:=hO.b1.frozen 3;clear HO hB hO;go_wp2_with fail
   obtain ⟨W6,hW6⟩:∃W6,((((((wr.setCell ⟨w.heap.size,2,none⟩ (.slice Aw lb.length cw)).setCell ⟨w.heap.size,3,none⟩ (.slice (some ⟨w.heap.size+3,0,none⟩) 0 0)).setCell ⟨w.heap.size+1,0,none⟩ (.slice At nt ct)).setCell ⟨w.heap.size+1,1,none⟩ (.slice none 0 0)).setCell ⟨w.heap.size+1,2,none⟩ (.slice Aw lb.length cw)).setCell ⟨w.heap.size+1,3,none⟩ (.slice (some ⟨w.heap.size+3,0,none⟩) 0 0))=W6:=⟨_,rfl⟩
   rw[hW6];have hk:ZE (fun k=>k<w.heap.size+2) wr W6:=by
    rw[←hW6]
    exact ((((((ZE.refl _ wr).setCell (p:=⟨w.heap.size,2,none⟩) (Or.inr (by simp)) _).setCell (p:=⟨w.heap.size,3,none⟩) (Or.inr (by simp)) _).setCell (p:=⟨w.heap.size+1,0,none⟩) (Or.inr (by simp)) _).setCell (p:=⟨w.heap.size+1,1,none⟩) (Or.inr (by simp)) _).setCell (p:=⟨w.heap.size+1,2,none⟩) (Or.inr (by simp)) _).setCell (p:=⟨w.heap.size+1,3,none⟩) (Or.inr (by simp)) _
   have hb6:Blk W6 (w.heap.size+1) 36 #[.slice At nt ct,.slice none 0 0,.slice Aw lb.length cw,.slice (some ⟨w.heap.size+3,0,none⟩) 0 0]:=by
    rw[←hW6]
    exact ((((((HO2.out.b1.far (p:=⟨w.heap.size,2,none⟩) (by simp) _).far (p:=⟨w.heap.size,3,none⟩) (by simp) _).set_ 0 _).set_ 1 _).set_ 2 _).set_ 3 _)
   have h6:Below w.heap.size w W6:=by
    rw[←hW6]
    exact ZIu (ZIu (ZIu (ZIu (ZIu (ZIu HO2.out.b (by omega) _) (by omega) _) (by omega) _) (by omega) _) (by omega) _) (by omega) _
   have y0:=hb6.cell 0;have y1:=hb6.cell 1;have y2:=hb6.cell 2;have y3:=hb6.cell 3;refine bodyPost_ret (v:=.agg #[.slice At nt ct,.slice none 0 0,.slice Aw lb.length cw,.slice (some ⟨w.heap.size+3,0,none⟩) 0 0]) (by simp[results,Tryz.results28,y0,y1,y2,y3,go_sem]) rfl ?_;refine ⟨⟨_,rfl,ZB HO2.out.l hk (fun g hg h=>?_)⟩,h6⟩;have:=HO2.out.l.ge g hg;omega
end Go.Proofs.YtggmkofbikafhaaGreatDoor
