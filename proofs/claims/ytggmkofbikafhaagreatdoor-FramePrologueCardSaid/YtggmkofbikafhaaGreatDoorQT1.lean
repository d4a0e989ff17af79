/- Walks and plain laws on the way to FramePrologue (QF, ML, QT0, QT1). Conditions: those that each theorem states. -/
import Derived.Test.YtggmkofbikafhaaGreatDoorQE
set_option linter.unusedVariables false
set_option linter.unusedSimpArgs false
set_option maxRecDepth 100000
set_option maxHeartbeats 40000000
namespace Go.Proofs.YtggmkofbikafhaaGreatDoor
open Go.RowKit Go.Lib
theorem ZHX {n N:Nat} (h:N=4*(14+2*n)) (hn:n≤7):ZIs N (ZBl n):=by
 refine ⟨by omega,by show 4≤1000;decide,?_,?_,?_,?_⟩
 ·intro x hx
  unfold ZBl at hx;simp only[List.mem_cons,List.not_mem_nil,or_false] at hx;rcases hx with rfl|rfl|rfl|rfl
  ·exact lowS
  ·exact lowM
  ·exact lowE
  ·exact lowB
 ·intro x hx
  unfold ZBl at hx;simp only[List.mem_cons,List.not_mem_nil,or_false] at hx;rcases hx with rfl|rfl|rfl|rfl<;>(dsimp only;omega)
 ·intro i hi
  have hi':i+1<4:=hi;have hc:i=0∨i=1∨i=2:=by omega
  rcases hc with rfl|rfl|rfl
  ·show 0≤4*(8+n);omega
  ·show 4*(8+n)≤4*(9+n);omega
  ·show 4*(9+n)≤4*(13+2*n);omega
 ·intro i j hi hj hij
  have hj':j<4:=hj;have hc:(i=0∧j=1)∨(i=0∧j=2)∨(i=0∧j=3)∨(i=1∧j=2)∨(i=1∧j=3)∨(i=2∧j=3):=by omega
  rcases hc with ⟨rfl,rfl⟩|⟨rfl,rfl⟩|⟨rfl,rfl⟩|⟨rfl,rfl⟩|⟨rfl,rfl⟩|⟨rfl,rfl⟩
  ·show nmS≠nmM;decide
  ·show nmS≠nmE;decide
  ·show nmS≠nmB;decide
  ·show nmM≠nmE;decide
  ·show nmM≠nmB;decide
  ·show nmE≠nmB;decide
theorem lbs_no {n:Nat} (s:List UInt8) (h1:nmS≠s) (h2:nmM≠s) (h3:nmE≠s) (h4:nmB≠s):∀x∈ZBl n,str x.nm≠str s:=by
 intro x hx e;have e:=ZBq e;unfold ZBl at hx;simp only[List.mem_cons,List.not_mem_nil,or_false] at hx;rcases hx with rfl|rfl|rfl|rfl
 ·exact h1 e
 ·exact h2 e
 ·exact h3 e
 ·exact h4 e
theorem ZJ3 {w:World} {gO cO r B1 B2 k4:Nat} {tv lv:Value} {tx:List UInt8} {lb:List Lb} (ho:Bx4 w gO tv (.slice none 0 0) lv (.slice (some ⟨r,0,none⟩) 0 k4)) (ht:OwnB w B1 tv tx) (hl:OwnL w B2 lv lb) (hg:ZIs tx.length lb) (h1:1≤cO) (h2:cO≤maxLen) :
  ZHk w (.slice (some ⟨gO,0,none⟩) 1 cO) tx lb:=by
 intro W hW;obtain ⟨A1,k1,rfl,-,-⟩:=ZR ht;obtain ⟨A3,k3,rfl,-,-⟩:=ZAn hl;have ht':OwnB W B1 (.slice A1 tx.length k1) tx:=ZB ht (ZC (fun _=>False) hW) (fun _ _=>id);have hl':OwnL W B2 (.slice A3 lb.length k3) lb:=hl.below hW;exact ZJ4 A1 A3 (some ⟨r,0,none⟩) k1 k3 k4 gO cO tx lb W (ho.below hW) (RowOf.own ht') (RowOf.own hl') hg h1 h2
theorem ZGi {w:World} {gE cE gO cO:Nat} {tx:List UInt8} {n:Nat} (he:w.cell? ⟨gE,0,none⟩=some (.string stackS)∧w.cell? ⟨gE,1,none⟩=some (.int .i64 0)∧w.cell? ⟨gE,2,none⟩=some (.int .i64 16384)∧w.cell? ⟨gE,3,none⟩=some (.bool true)∧w.cell? ⟨gE,4,none⟩=some (.bool false)) (hj:ZHk w (.slice (some ⟨gO,0,none⟩) 1 cO) tx (ZBl n)) (htx:tx.length≤1000000) :
  ZC0 w (.slice (some ⟨gE,0,none⟩) 1 cE) (.slice (some ⟨gO,0,none⟩) 1 cO) tx (ZBl n):=by
 intro W hW;have hc:∀j v,w.cell? ⟨gE,j,none⟩=some v→W.cell? ⟨gE,j,none⟩=some v:=fun j v h=>ZE9 h hW;refine ZH9 gE cE _ ⟨_,_,_,rfl⟩ tx (ZBl n) W ⟨hc _ _ he.1,hc _ _ he.2.1,hc _ _ he.2.2.1,hc _ _ he.2.2.2.1,hc _ _ he.2.2.2.2⟩ (fun W' hW'=>hj W' (hW.trans (ZA hW' hW.size))) htx (by show 4≤1000;decide) ?_ ?_
 ·exact lbs_no [115,116,97,99,107] (by decide) (by decide) (by decide) (by decide)
 ·exact lbs_no [115,116,97,99,107,46,101,110,100] (by decide) (by decide) (by decide) (by decide)
theorem ZGZ {n T:Nat} (hT:4*(13+2*n)<T):ZK3 (Zr (ZBl n) T):=by
 intro i hi;have hi':i+1<6:=hi;have hc:i=0∨i=1∨i=2∨i=3∨i=4:=by omega
 rcases hc with rfl|rfl|rfl|rfl|rfl
 ·show (4096:Int)+((0:Nat):Int)<4096+((4*(8+n):Nat):Int);omega
 ·show (4096:Int)+((4*(8+n):Nat):Int)<4096+((4*(9+n):Nat):Int);omega
 ·show (4096:Int)+((4*(9+n):Nat):Int)<4096+((4*(13+2*n):Nat):Int);omega
 ·show (4096:Int)+((4*(13+2*n):Nat):Int)<4096+(T:Int);omega
 ·show (4096:Int)+(T:Int)<4096+(T:Int)+16384;omega
theorem at_mid (n T:Nat):atY (Zr (ZBl n) T) (str nmM)=((4096+4*(8+n):Nat):Int):=by
 unfold Zr ZDk ZBl;simp only[List.map_cons,List.map_nil,List.cons_append,List.nil_append,atY];rw[if_neg (by decide +kernel),if_pos (by decide +kernel)];omega
theorem at_end (n T:Nat):atY (Zr (ZBl n) T) (str nmE)=((4096+4*(9+n):Nat):Int):=by
 unfold Zr ZDk ZBl;simp only[List.map_cons,List.map_nil,List.cons_append,List.nil_append,atY];rw[if_neg (by decide +kernel),if_neg (by decide +kernel),if_pos (by decide +kernel)];omega
theorem ZKv (n T:Nat):atY (Zr (ZBl n) T) (str nmB)=((4096+4*(13+2*n):Nat):Int):=by
 unfold Zr ZDk ZBl;simp only[List.map_cons,List.map_nil,List.cons_append,List.nil_append,atY];rw[if_neg (by decide +kernel),if_neg (by decide +kernel),if_neg (by decide +kernel),if_pos (by decide +kernel)];omega
theorem at_stack (n T:Nat):atY (Zr (ZBl n) T) stackS=((4096+T:Nat):Int):=by
 unfold Zr ZDk ZBl;simp only[List.map_cons,List.map_nil,List.cons_append,List.nil_append,atY];rw[if_neg (by decide +kernel),if_neg (by decide +kernel),if_neg (by decide +kernel),if_neg (by decide +kernel),if_pos (by decide +kernel)];omega
theorem ZKM {f:Nat}:∀ls:List (List UInt8),(∀m∈ls,m.length≤f)→(ls.flatMap nlF).length≤(f+1)*ls.length
 | [],_=>by simp
 | m::ls,h=>by
  have h1:=h m (by simp);have h2:=ZKM (f:=f) ls (fun x hx=>h x (by simp[hx]));rw[List.flatMap_cons,List.length_append,List.length_cons];have:(nlF m).length=m.length+1:=by simp[nlF]
  rw[this,Nat.mul_succ];omega
theorem ZEu {x:In5} (h:x.OK):x.line.length≤1000:=by
 have h1:=ZBM (x.o-1);have h2:=ZCB (d:=x.d) (a:=x.a) (b:=x.b) (i:=x.i) (by have:=h.d;omega) (by have:=h.a;omega) (by have:=h.b;omega) (by have:=h.i;omega) (ZT x.o);have h3:=ZAa x.o;unfold In5.line printL;rw[List.length_append];omega
theorem text_len {Z Lk At:Nat} {l:List Int} (hZ:Z≤4096) (hLk:Lk≤4096) (hl:∀k,k<l.length→4≤(l.getD k 0).toNat∧(l.getD k 0).toNat≤10) (hAt:At+4*l.length≤4096) (hn:l.length≤7):(textL Z Lk At l).length≤100000:=by
 have o31:=ZHP (o:=31) (by decide) (by rw[fl31];decide) hl hAt;have o28:=ZHP (o:=28) (by decide) (by rw[fl28];decide) hl hAt;have hc:=ZGo hZ;have h:=ZKM (f:=1000) (ZBk Z Lk At l) (fun m hm=>by
  unfold ZBk ZDL ZDK at hm;simp only[List.mem_append,List.mem_cons] at hm;have hM:∀x∈ZFl,x.length≤1000:=by decide
  have hB:∀x∈ZFm,x.length≤1000:=by decide
  rcases hm with (rfl|rfl|h)|h|(h|rfl|h)|h
  ·decide
  ·exact hc
  ·obtain ⟨x,hx,rfl⟩:=List.mem_map.1 h
   exact ZEu ((List.mem_append.1 hx).elim (ok_pl1 hLk x) (o31 x))
  ·exact hM m h
  ·obtain ⟨x,hx,rfl⟩:=List.mem_map.1 h
   refine ZEu ((List.mem_append.1 hx).elim (o28 x) (fun h=>?_));rw[List.mem_singleton] at h;subst h;exact ok_lw hLk
  ·exact hc
  ·obtain ⟨x,hx,rfl⟩:=List.mem_map.1 h
   exact ZEu (ok_pl2 x hx)
  ·exact hB m h)
 rw[ZD3];refine Nat.le_trans h ?_;have hlen:(ZBk Z Lk At l).length=(l.length+9)+(4+((l.length+1+3)+3)):=by
  unfold ZBk ZDL ZDK;simp only[List.length_append,List.length_cons,List.length_map,Zl];show (7+l.length+1+1)+(4+((l.length+(0+1)+(2+1))+3))=_;omega
 rw[hlen];omega
theorem ZJf (bm gm:Nat) (iv:Value) (k:Int) (s:MSt) (x:Nat) (w:World) (h:MAt w bm gm iv k s) (hx:x≤1000000000):Calls Tryz.prog 19 #[.pointer (some ⟨bm,0,none⟩),.int .i64 (x:Int)] w fun e w'=>(∃v,e=.returned v)∧MAt w' bm gm iv k { s with pc:=x }∧ZE (· = bm) w w':=by
 have HN:=Zh (Za (h.setPc hx) ((ZE.refl (· = bm) w).setCell (p:=⟨bm,17,none⟩) (Or.inr rfl) (.int .i64 (x:Int))));have c17:=h.pc;have f17:=h.b.frozen 17;have h0:(0:Int)≤(x:Int):=by omega
 have h1:(x:Int)<4294967296:=by omega
 have h2:decide ((4294967296:Int)≤(x:Int))=false:=decide_eq_false (by omega);have h3:decide ((x:Int)<0)=false:=decide_eq_false (by omega);clear h;go_enter Tryz.func19,Tryz.ntmps19
 go_wp2_with fail
 go_ret;exact ⟨⟨_,rfl⟩,HN.out.1,HN.out.2⟩
theorem ZDO (bm gm:Nat) (iv:Value) (k:Int) (s:MSt) (x v:Nat) (w:World) (h:MAt w bm gm iv k s) (hx:x≤1000000000) (hl:loadR s.ns (x:Int) 4=((v:Int),0)):Calls Tryz.prog 17 #[.pointer (some ⟨bm,0,none⟩),.int .i64 (x:Int),.int .u32 (v:Int)] w fun e w'=>e=.returned (.bool true)∧Below w.heap.size w w':=by
 have h9:=ZC6 gm s.ns x 4 w h.m (by omega) (by omega);rw[hl] at h9;have HL:=Zh h9;have c0:=h.mem;have e1:IntKind.u32.wrap (x:Int)=(x:Int):=by rw[IntKind.wrap_u32];omega
 have e2:(x:Int)%4294967296=(x:Int):=by omega
 clear h h9 hl;go_enter Tryz.func17,Tryz.ntmps17
 go_wp2_with fail
 refine HL.out.mono ?_;rintro e w1 ⟨rfl,hb⟩;have HB:=Zh hb;clear hb HL c0 e1 e2;go_wp2_with fail
 go_ret;exact ⟨rfl,HB.out⟩
theorem ZCd (bm gm:Nat) (iv:Value) (k:Int) (s:MSt) (x y:Nat) (w:World) (h:MAt w bm gm iv k s) (hy:y≤1000000000) (hl:∀p∈ZBY s.ns,(x:Int)≤p.1∧p.1+p.2≤(y:Int)∧0≤p.2) (hn:(ZBY s.ns).length≤1000000):Calls Tryz.prog 18 #[.pointer (some ⟨bm,0,none⟩),.int .i64 (x:Int),.int .i64 (y:Int)] w fun e w'=>e=.returned (.bool true)∧Below w.heap.size w w':=by
 have HC:=Zh (ZCi gm s.ns w h.m);have c0:=h.mem;have HL:=Zh hl;obtain ⟨n,hnn⟩:∃n,(ZBY s.ns).length=n:=⟨_,rfl⟩
 have HN:=Zh hnn;rw[hnn] at hn;clear h hl hnn;go_enter Tryz.func18,Tryz.ntmps18
 go_wp2_with fail
 refine HC.out.mono ?_;rintro e w1 ⟨v,rfl,ho,hb⟩;have HO:=Zh ho;have HB:=Zh hb;obtain ⟨A,c,rfl,h1,h2⟩:=slice_form ho;rw[HN.out] at h1 HO ⊢;clear ho hb HC c0;go_wp2_with fail
 go_loopw [8] (fun iv W=>∃(k:Nat) , k≤n∧iv=.int .i64 k∧Hid (∃q,W=w1.drewN q)) (fun iv _=>n-(Go.RowKit.intOf iv).toNat)
 case atStart=>exact ⟨0,by omega,rfl,0,rfl⟩
 case round=>
  obtain ⟨j,hj,rfl,HQ⟩:=hrel;rcases Nat.lt_or_ge j n with hlt|hge
  ·have hjl:j<(ZBY s.ns).length:=by rw[HN.out];exact hlt
   obtain ⟨g,off,cap,e,h3,h4,h5,h6⟩:=RowOf.open_ (RowOf.own HO.out) (by omega);injection e with e1 e2 e3
   subst e1;have hp:=HL.out _ (List.getElem_mem hjl);obtain ⟨⟨a,b⟩,h7⟩:∃p,(ZBY s.ns)[j]=p:=⟨_,rfl⟩
   have q0:wr.cell? ⟨g,off+j*2,none⟩=some (.int .i64 a):=by
    obtain ⟨q,hq⟩:=HQ.out;rw[hq];exact h6 (j*2) _ (by
    have:=Zg (fun p:Int×Int=>[Value.int .i64 p.1,.int .i64 p.2]) 2 (fun _=>rfl) (ZBY s.ns) j hjl 0 (by omega);rw[Nat.add_zero] at this;rw[show flatG (ZBY s.ns)=(ZBY s.ns).flatMap (fun p:Int×Int=>[Value.int .i64 p.1,.int .i64 p.2]) from rfl,this,h7]
    rfl)
   have q1:wr.cell? ⟨g,off+j*2+1,none⟩=some (.int .i64 b):=by
    obtain ⟨q,hq⟩:=HQ.out;rw[hq];rw[Nat.add_assoc];exact h6 (j*2+1) _ (by
     have:=Zg (fun p:Int×Int=>[Value.int .i64 p.1,.int .i64 p.2]) 2 (fun _=>rfl) (ZBY s.ns) j hjl 1 (by omega);rw[show flatG (ZBY s.ns)=(ZBY s.ns).flatMap (fun p:Int×Int=>[Value.int .i64 p.1,.int .i64 p.2]) from rfl,this,h7]
     rfl)
   rw[h7] at hp;dsimp only at hp;obtain ⟨p1,p2,p3⟩:=hp;have d1:decide (a<(x:Int))=false:=decide_eq_false (by omega);have d2:decide ((y:Int)<a+b)=false:=decide_eq_false (by omega);have w1':IntKind.i64.wrap (a+b)=a+b:=IntWalk.i64_in _ (by omega);clear h3 h4 h5 h6 h7 e2 e3 p1 p2 p3;go_upto_region 5 with fail
   go_quiet (fail)
   go_wp2_with fail
   go_roundw
   case rel=>exact ⟨j+1,by omega,by go_num,by
    obtain ⟨q,hq⟩:=HQ.out;rw[hq];exact ⟨_,World.drewN_drewN _ _ _⟩⟩
   case measure=>first|(simp[Go.RowKit.intOf];done)|(simp[Go.RowKit.intOf];omega)
  ·obtain ⟨q,rfl⟩:=HQ.out
   clear HQ;have:j=n:=by omega
   subst this;go_wp2_with fail
   go_ret;exact ⟨rfl,ZM HB.out _⟩
theorem ZKU (bm gm:Nat) (iv:Value) (k:Int) (rg:List Nat) (pc:Nat) (over:Bool) (en co:Int) (ns:List Area) (w:World) (h:MAt w bm gm iv k ⟨rg,pc,over,en,co,ns⟩):Calls Tryz.prog 15 #[.pointer (some ⟨bm,0,none⟩)] w fun e w'=>(∃A c,e=.returned (.tuple #[.agg #[.int .i64 en,.int .i64 co,.slice A 0 c],.bool over]))∧Below w.heap.size w w':=by
 have h1:=h.alloc (.cells #[.int .i64 0,.int .i64 0,.slice none 0 0] 68);have HBY:=Zh (fun W=>ZCD (.slice none 0 0) [] W ⟨none,0,rfl,Nat.le_refl _,by decide,fun h=>absurd h (by decide)⟩ (by simp));have H0:=Zh (Za (ZV w (.cells #[.int .i64 0,.int .i64 0,.slice none 0 0] 68)) (Blk.new w 68 #[.int .i64 0,.int .i64 0,.slice none 0 0]));have c23:=h1.en;have c24:=h1.co;have c20:=h1.told;have c22:=h1.ov;have hlt:=h.lt;dsimp only at c23 c24 c22;clear h h1;go_enter Tryz.func15,Tryz.ntmps15
 go_upto_region 1 with fail
 obtain ⟨p,hp⟩:∃p,w.heap.size=p:=⟨_,rfl⟩
 obtain ⟨w1,hw1⟩:∃w1,w.alloc (.cells #[.int .i64 0,.int .i64 0,.slice none 0 0] 68)=w1:=⟨_,rfl⟩
 rw[hw1] at H0 c23 c24 c20 c22 ⊢;rw[hp] at hlt ⊢;have H0':Hid (Below w.heap.size w w1∧Blk w1 p 68 #[.int .i64 0,.int .i64 0,.slice none 0 0]):=⟨H0.out.1,by rw[←hp];exact H0.out.2⟩
 have HP:=Zh hp;have HNE:=Zh (show bm≠p from by omega);clear hp hw1 H0 hlt;refine wp_region_held_drew (S:=(fun W=>W.cell? ⟨bm,23,none⟩=some (.int .i64 en)∧W.cell? ⟨bm,24,none⟩=some (.int .i64 co)∧W.cell? ⟨bm,20,none⟩=some (.slice none 0 0)∧W.cell? ⟨bm,22,none⟩=some (.bool over))) (by kernel_rfl) ?_ (fun hHeld=>?_)
 ·exact ⟨c23,c24,c20,c22⟩
 have H1:Hid (Below w.heap.size w w1.drew∧Blk w1.drew p 68 #[.int .i64 0,.int .i64 0,.slice none 0 0]):=⟨H0'.out.1.trans (ZAO (Below.refl _ _)),H0'.out.2⟩
 clear H0' c23 c24 c20 c22;generalize w1.drew=W1 at H1 hHeld ⊢;refine FU 20 rfl ?_;iterate 12 (refine TN 20 rfl ?_;try simp only[AP,Nat.reduceAdd,Nat.reduceSub])
 refine TW 14 rfl ?_;try simp only[AP]
 refine TW 15 rfl ?_;try simp only[AP]
 refine TW 16 rfl ?_;try simp only[AP]
 refine TW 17 rfl ?_;try simp only[AP]
 refine RW 12 rfl fun K hK=>?_;go_simp;go_at_call 30;refine (HBY.out _).mono ?_;rintro e W2 ⟨⟨iv,rfl,ho2⟩,hb2⟩;obtain ⟨Av,cv,rfl,-,-⟩:=ZR ho2;clear ho2;try go_simp
 refine hK.out _ _ (show _∧_∧_∧_ from ⟨(hb2.cell (cell_lt hHeld.1)).trans hHeld.1,(hb2.cell (cell_lt hHeld.2.1)).trans hHeld.2.1,(hb2.cell (cell_lt hHeld.2.2.1)).trans hHeld.2.2.1,(hb2.cell (cell_lt hHeld.2.2.2)).trans hHeld.2.2.2⟩) (fun hHeld=>?_);have H2:=Zh (show Below w.heap.size w W2∧Blk W2 p 68 #[.int .i64 0,.int .i64 0,.slice none 0 0] from ⟨H1.out.1.trans (ZA hb2 H1.out.1.size),H1.out.2.below hb2 H1.out.2.lt⟩);have z0:=H2.out.2.cell 0;have z1:=H2.out.2.cell 1;have z2:=H2.out.2.cell 2;have f0:=H2.out.2.frozen 0;have f1:=H2.out.2.frozen 1;have f2:=H2.out.2.frozen 2
 simp at z0 z1 z2
 clear hb2 H1;clear hK K;try simp only[AP]
 refine TW 13 rfl ?_;try simp only[AP]
 refine RW 18 rfl fun K hK=>?_;go_simp;try go_simp
 have hp3:=ZAq H2.out.2 (.int .i64 en) (.int .i64 co) (.slice Av 0 cv);obtain ⟨Wf,hWf⟩:∃Wf,ZCt W2 p (.int .i64 en) (.int .i64 co) (.slice Av 0 cv)=Wf:=⟨_,rfl⟩
 show K _ (ZCt W2 p (.int .i64 en) (.int .i64 co) (.slice Av 0 cv));rw[hWf] at hp3 ⊢;have hne:=HNE.out;refine hK.out _ _ (show _∧_∧_∧_ from ⟨(hp3.2.cell (cell_lt hHeld.1) hne).trans hHeld.1,(hp3.2.cell (cell_lt hHeld.2.1) hne).trans hHeld.2.1,(hp3.2.cell (cell_lt hHeld.2.2.1) hne).trans hHeld.2.2.1,(hp3.2.cell (cell_lt hHeld.2.2.2) hne).trans hHeld.2.2.2⟩) (fun hHeld=>?_);have HN:=Zh (show Below w.heap.size w Wf∧Blk Wf p 68 #[.int .i64 en,.int .i64 co,.slice Av 0 cv] from ⟨H2.out.1.trans (hp3.2.toBelow (Nat.le_of_lt (by have:=H2.out.2.lt;have:=HP.out;omega)) (fun g hg e=>by have:=HP.out;omega)),hp3.1⟩);clear hp3 hWf H2 z0 z1 z2 f0 f1 f2;clear hK K;try simp only[AP]
 refine TW 19 rfl ?_;try simp only[AP]
 refine wpAnyH_done (by kernel_rfl) ?_ _;clear hHeld;have y0:=HN.out.2.cell 0;have y1:=HN.out.2.cell 1;have y2:=HN.out.2.cell 2;go_wp2_with fail
 refine bodyPost_ret (v:=.tuple #[.agg #[.int .i64 en,.int .i64 co,.slice Av 0 cv],.bool over]) (by simp[results,Tryz.results15,y0,y1,y2,go_sem]) rfl ?_;exact ⟨⟨_,_,rfl⟩,HN.out.1⟩
def leftmost:Code→Nat
 | .region k _ _=>k
 | .seq a _=>leftmost a
 | .scope c=>leftmost c
 | .block _ c=>leftmost c
 | .loop c=>leftmost c
 | _=>0
def cutAt (n:Nat):Code→Code
 | .seq a b=>match leftmost a==n with
  | true=>.seq a b
  | false=>cutAt n b
 | .scope c=>cutAt n c
 | .block _ c=>cutAt n c
 | c=>c
noncomputable def restC:Code:=cutAt 35 ((Tryz.f3.body).getD .skip)
structure Lay (w W0:World) (B q n NS c8 c:Nat) (A8 A:Option Addr) (Z Lk At T:Nat) (v1 v2:Int) (sl:Value) (l:List Int):Prop where
 xx:∀X,Below B W0 X→Blk X q 24 #[.int .i64 (Z:Int),.int .i64 v1,.int .i64 v2,.int .i64 (At:Int),.int .i64 (Lk:Int),sl,.slice A n c]
 b:∀X,Below B W0 X→Below w.heap.size w X
 ll:∀X,Below B W0 X→RowOf X (.slice A n c) n (l.map (Value.int .i64))
 at_:∀X,Below B W0 X→∀s,Calls Tryz.prog 12 #[.slice A8 NS c8,.string s] X fun e w'=>e=.returned (.int .i64 (atY (Zr (ZBl n) T) s))∧w'=X
structure SetUp (W0 X:World) (B bm gm gw:Nat) (iv:Value) (R:List Nat) (ns:List Area) (T Z Lk At:Nat) (l:List Int) (n rm sp:Nat) (Xb:List Int):Prop where
 mm:MAt X bm gm iv 0 ⟨R,4096,false,0,0,ns⟩
 be:Below B W0 X
 bB:B≤bm
 ro:∀g∈rowsOf ns,B≤g
 bx:B≤X.heap.size
 ww:Blk X gw 57 (R.map ZD2).toArray
 km:KM ns T Xb (List.replicate 16384 0)
 tx:Txt T Xb (prog Z Lk At l)
 fr:Fr Z Lk At l T rm
 nn:l.length=n
 rl:R.length=16
 ru:∀i,R.getD i 0<4294967296
 r12:R.getD 12 0=4096+T+64
 r13:R.getD 13 0=sp
 se:sp=4096+T+64+rm
 r14:R.getD 14 0=4096+4*(13+2*n)
 lv:∀k,k<n→l.getD k 0=((l.getD k 0).toNat:Int)
def Law25 (w:World) (e:Ending) (w':World):Prop:=e=.returned (.bool true)∧Below w.heap.size w w'
structure LoopS (W0 W:World) (B bm gm gw:Nat) (iv:Value) (k0 stop:Nat) (e:MSt) (Rw:List Nat) (i m:Nat) (s:MSt):Prop where
 mm:MAt W bm gm iv ((k0+i:Nat):Int) s
 be:Below B W0 W
 p:Path stop m s e
 ww:Blk W gw 57 (Rw.map ZD2).toArray
 r:∀g∈rowsOf s.ns,B≤g
 bx:B≤W.heap.size
theorem LoopS.step {W0 W W':World} {B bm gm gw:Nat} {iv:Value} {k0 stop:Nat} {e:MSt} {Rw:List Nat} {i m:Nat} {s s':MSt} (h:LoopS W0 W B bm gm gw iv k0 stop e Rw i (m+1) s) {E:Ending} (hp:Path stop m s' e) (hs:ZAK B bm gm iv ((k0+i:Nat):Int) s s' W E W'):LoopS W0 W' B bm gm gw iv k0 stop e Rw (i+1) m s':=by
 obtain ⟨-,h1,h2,h3⟩:=hs;refine ⟨?_,h.be.trans h2.b,hp,h2.q _ _ h.ww,by rw[h3];exact h.r,Nat.le_trans h.bx h2.b.size⟩;rw[show ((k0+(i+1):Nat):Int)=((k0+i:Nat):Int)+1 by omega];exact h1
theorem ZI6 (w W0 X:World) (B q bm gm gw gc NS c8 c:Nat) (A8 A A2:Option Addr) (n2 c2:Nat) (iv:Value) (R:List Nat) (ns:List Area) (T Z Lk At n rm sp ans:Nat) (v1 v2:Int) (l Xb:List Int) (hL:Lay w W0 B q n NS c8 c A8 A Z Lk At T v1 v2 (.slice A2 n2 c2) l) (hS:SetUp W0 X B bm gm gw iv R ns T Z Lk At l n rm sp Xb) (hans:ans<4294967296) (hlt:rm<Z) (y0 y1 y5 y6 y7 y9 y10 y11 y12 y13 y14 y15 y16 y17 y19 y21 y22 y34 y35 y36 y37 y38 y39 y40 y41 y42 y43 y44 y45 y46 y47 y48 y49 y50 y51 y52 y53 y54 y55 y56 y57 y58 y59 y60 y61 y62 y63 y64 y65 y66 y67 y68 y69 y70 y71 y72 y73 y74 y75 y76 y77 y78 y79 y80 y81 y82 y83 y84 y85 y86 y87 y88 y89 y90 y91 y92 y93 y94 y95 y96 y97 y98 y99 y100 y101 y102 y103 y104 y105 y106 y107 y108 y109 y110 y111 y112 y113 y114 y115 y116 y117 y118 y119 y120 y121 y122 y123 y124 y125 y126 y127 y128 y129 y130 y131 y132 y133 y134 y135 y136 y137 y138 y139 y140 y141 y142 y143 y144 y145 y146 y147 y148 y149 y150 y151 y152 y153 y154 y155 y156 y157 y158 y159 y160 y161 y162 y163 y164 y165 y166 y167 y168 y169 y170 y171 y172 y173 y174 y175 y176 y177 y178 y179 y180 y181 y182 y183 y184 y185 y186 y187:Value) :
  Code.wp Tryz.prog restC (bodyPost Tryz.prog Tryz.f3 (Law25 w)) ⟨#[y0,y1,.int .i64 (rm:Int),.int .u32 (ans:Int),.pointer (some ⟨q,0,none⟩),y5,y6,y7,.bool false,y9,y10,y11,y12,y13,y14,y15,y16,y17,.slice A8 NS c8,y19,.pointer (some ⟨bm,0,none⟩),y21,y22,.int .u32 (sp:Int),.pointer (some ⟨gw,0,none⟩),.pointer (some ⟨gc,0,none⟩),undef,undef,undef,undef,undef,undef,undef,undef,y34,y35,y36,y37,y38,y39,y40,y41,y42,y43,y44,y45,y46,y47,y48,y49,y50,y51,y52,y53,y54,y55,y56,y57,y58,y59,y60,y61,y62,y63,y64,y65,y66,y67,y68,y69,y70,y71,y72,y73,y74,y75,y76,y77,y78,y79,y80,y81,y82,y83,y84,y85,y86,y87,y88,y89,y90,y91,y92,y93,y94,y95,y96,y97,y98,y99,y100,y101,y102,y103,y104,y105,y106,y107,y108,y109,y110,y111,y112,y113,y114,y115,y116,y117,y118,y119,y120,y121,y122,y123,y124,y125,y126,y127,y128,y129,y130,y131,y132,y133,y134,y135,y136,y137,y138,y139,y140,y141,y142,y143,y144,y145,y146,y147,y148,y149,y150,y151,y152,y153,y154,y155,y156,y157,y158,y159,y160,y161,y162,y163,y164,y165,y166,y167,y168,y169,y170,y171,y172,y173,y174,y175,y176,y177,y178,y179,y180,y181,y182,y183,y184,y185,y186,y187,undef,undef,undef,undef,undef,undef,undef,undef,undef,undef,undef,undef,undef,undef,undef,undef,undef,undef,undef,undef,undef,undef,undef,undef,undef,undef,undef,undef,undef,undef,undef,undef,undef,undef,undef,undef,undef,undef,undef,undef,undef,undef,undef,undef,undef,undef,undef,undef,undef,undef,undef,undef,undef,undef,undef,undef,undef,undef,undef,undef,undef,undef,undef,undef,undef,undef,undef,undef,undef,undef,undef,undef,undef,undef,undef,undef,undef,undef,undef,undef,undef,undef,undef,undef,undef,undef,undef,undef,undef,undef,undef,undef,undef,undef,undef,undef,undef,undef,undef,undef,undef,undef,undef,undef,undef,undef,undef,undef,undef,undef,undef,undef,undef,undef,undef,undef,undef,undef,undef,undef,undef,undef,undef,undef,undef,undef,undef,undef,undef,undef,undef,undef,undef,undef,undef,undef,undef,undef,undef,undef,undef,undef,undef,undef,undef,undef,undef,undef,undef,undef,undef,undef,undef,undef,undef,undef,undef,undef,undef,undef,undef,undef,undef,undef,undef,undef,undef,undef,undef,undef,undef,undef,undef,undef,undef,undef,undef,undef,undef,undef,undef,undef,undef,undef,undef,undef,undef,undef,undef,undef,undef,undef,undef,undef,undef,undef,undef,undef,undef,undef,undef,undef,undef,undef,undef,undef,undef,undef,undef,undef,undef,undef,undef,undef,undef,undef,undef,undef,undef,undef,undef,undef,undef,undef,undef,undef,undef,undef,undef,undef,undef,undef,undef,undef,undef,undef,undef,undef,undef,undef,undef,undef,undef,undef,undef,undef,undef,undef,undef,undef,undef,undef,undef,undef],[]⟩ X:=by
 obtain ⟨N,e,hN,hp,hP⟩:=ZI3 (rg0:=R) hS.fr hS.tx hS.rl (by rw[hS.r13,hS.se]) hS.r12 hlt ⟨R,4096,false,0,0,ns⟩ ⟨rfl,hS.km,List.length_replicate,hS.rl⟩;rw[hS.nn] at hp;obtain ⟨st,hst⟩:∃st,4096+4*(8+n)=st:=⟨_,rfl⟩
 rw[hst] at hp;have hstop:atY (Zr (ZBl n) T) (str nmM)=(st:Int):=by rw[at_mid,hst]
 have HSTOP:=Zh hstop;have HL0:=Zh (show LoopS W0 X B bm gm gw iv 0 st e R 0 N ⟨R,4096,false,0,0,ns⟩ from ⟨hS.mm,hS.be,hp,hS.ww,hS.ro,hS.bx⟩);have HL:=Zh hL;have HS:=Zh hS;have HP:=Zh hP;have hZl:(rm:Int)<(Z:Int):=by omega
 have hZ4:Z≤4096:=hS.fr.z2;have hrl:=hS.fr.rl;clear hL hS hst hstop hp hP
 conv=>arg 2;whnf
 go_upto_region 36 with fail
 go_loopw [26] (fun v W=>∃(i m:Nat) (s:MSt),i+m≤60∧v=.int .i64 i∧Hid (LoopS W0 W B bm gm gw iv 0 st e R i m s)) (fun v _=>64-(Go.RowKit.intOf v).toNat)
 case atStart=>exact ⟨0,N,_,by omega,rfl,HL0.out⟩
 case round=>
  clear HL0;obtain ⟨i,m,s,him,rfl,HLO⟩:=hrel;have hi64:(i:Int)<64:=by omega
  have HQ:=Zh (fun j=>HL.out.at_ (wr.drewN j) (ZM HLO.out.be j) (str nmM));rw[HSTOP.out] at HQ
  match m,HLO with
  | m+1,HLO=>
   obtain ⟨⟨hov,hpc⟩,s',hst,hpa⟩:=HLO.out.p;have HST:=Zh hst;have HPA:=Zh hpa;have t22:=HLO.out.mm.ov;have t17:=HLO.out.mm.pc;rw[hov] at t22;obtain ⟨pc,hpce⟩:∃pc,s.pc=pc:=⟨_,rfl⟩
   rw[hpce] at t17 hpc;have hne:((pc:Int) != (st:Int))=true:=by
    have:¬(pc:Int)=(st:Int):=by omega
    simpa using this
   have hne2:((pc:Int)==(st:Int))=false:=by
    have:¬(pc:Int)=(st:Int):=by omega
    simpa using this
   clear hst hpa hov hpc hpce;go_wp2_with fail
   go_quiet (exact Calls.quiet_of_same (HQ.out _))
   clear t22 t17 hne hne2 HQ;have HLD:=Zh (show LoopS W0 (wr.drewN nq) B bm gm gw iv 0 st e R i (m+1) s from ⟨HLO.out.mm.below (ZM (Below.refl _ _) nq),ZM HLO.out.be nq,HLO.out.p,HLO.out.ww,HLO.out.r,HLO.out.bx⟩);clear HLO;generalize wr.drewN nq=V at HLD ⊢;go_wp2_with fail
   refine (HST.out B bm gm iv _ V HLD.out.mm (by have:=hi64;omega) HS.out.bB HLD.out.r HLD.out.bx).mono ?_;intro E W' hpost;obtain ⟨v,rfl⟩:=hpost.1;have HN:=Zh (HLD.out.step HPA.out hpost);clear hpost HLD HST HPA;go_wp2_with fail
   go_roundw
   case rel=>exact ⟨i+1,m,s',by omega,by go_num,HN.out⟩
   case measure=>first|(simp[Go.RowKit.intOf];done)|(simp[Go.RowKit.intOf];omega)
  | 0,HLO=>
   obtain ⟨rfl,-⟩:=HLO.out.p;obtain ⟨r,pc,ns',rfl,hkm⟩:=HP.out;have t22:=HLO.out.mm.ov;dsimp only at t22;have HKM:=Zh hkm;clear hkm;go_wp2_with fail
   go_quiet (exact Calls.quiet_of_same (HQ.out _))
   clear t22 HQ;have HV:=Zh (show MAt (wr.drewN nq) bm gm iv ((0+i:Nat):Int) ⟨r,pc,true,3,0,ns'⟩∧Below B W0 (wr.drewN nq) from ⟨HLO.out.mm.below (ZM (Below.refl _ _) nq),ZM HLO.out.be nq⟩);clear HLO;generalize wr.drewN nq=V at HV ⊢;have x0:V.cell? ⟨q,0,none⟩=some (.int .i64 (Z:Int)):=(HL.out.xx V HV.out.2).cellq rfl;go_wp2_with fail
   clear x0;refine (ZKU bm gm iv _ r pc true 3 0 ns' V HV.out.1).mono ?_;rintro E V2 ⟨⟨Ae,ce,rfl⟩,hb2⟩;have hm2:=HV.out.1.below hb2;have hbe2:=HV.out.2.trans (ZA hb2 (Nat.le_trans HS.out.bB (Nat.le_of_lt HV.out.1.lt)));have hr2:=Blk.new V2 68 #[.int .i64 3,.int .i64 0,.slice Ae 0 ce];have hal:=ZV V2 (.cells #[.int .i64 3,.int .i64 0,.slice Ae 0 ce] 68);have HV3:=Zh (Za (hm2.below hal) (Za (hbe2.trans (ZA hal (Nat.le_trans HS.out.bB (Nat.le_of_lt hm2.lt)))) hr2));clear hb2 hm2 hbe2 hr2 hal HV;obtain ⟨gn,hgn⟩:∃gn,V2.heap.size=gn:=⟨_,rfl⟩
   go_upto_region 41 with fail
   rw[hgn] at HV3;try rw[hgn]
   obtain ⟨V3,hV3⟩:∃V3,V2.alloc (.cells #[.int .i64 3,.int .i64 0,.slice Ae 0 ce] 68)=V3:=⟨_,rfl⟩
   rw[hV3] at HV3 ⊢;clear hgn hV3;have r0:V3.cell? ⟨gn,0,none⟩=some (.int .i64 3):=HV3.out.2.2.cellq rfl;have m0:=HV3.out.1.mem;go_wp2_with fail
   clear r0 m0;refine (ZCi gm ns' V3 HV3.out.1.m).mono ?_;rintro E V4 ⟨v,rfl,ho,hb4⟩;rw[HKM.out.none] at ho;obtain ⟨Av,cv,rfl,-,-⟩:=slice_form ho;have HFIN:=Zh (HL.out.b _ (HV3.out.2.1.trans (ZA hb4 (Nat.le_trans HS.out.bB (Nat.le_of_lt HV3.out.1.lt)))));clear ho hb4 HV3 HKM;dsimp only[List.length_nil];go_wp2_with fail
   go_ret;exact ⟨rfl,HFIN.out⟩
end Go.Proofs.YtggmkofbikafhaaGreatDoor
