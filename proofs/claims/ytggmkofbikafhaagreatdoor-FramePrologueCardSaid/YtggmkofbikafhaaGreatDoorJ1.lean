/- Walks and plain laws on the way to FramePrologue (I8, I9, P1, J1). Conditions: those that each theorem states. -/
import Derived.Test.YtggmkofbikafhaaGreatDoorI7
set_option linter.unusedVariables false
set_option linter.unusedSimpArgs false
set_option maxRecDepth 100000
set_option maxHeartbeats 40000000
namespace Go.Proofs.YtggmkofbikafhaaGreatDoor
open Go.RowKit
theorem ZFR (n blocks:Int) (g:Nat) (w:World) (h:w.cell? ⟨g,0,none⟩=some (.int .i64 blocks)):Calls Tryz.prog 204 #[.int .i64 n,.pointer (some ⟨g,0,none⟩)] w fun e w'=>e=.returned (.bool (toB n blocks))∧w'=w:=by
  rcases (show n<1∨(1≤n∧n<blocks)∨(1≤n∧blocks≤n) by omega) with h1|⟨h1,h2⟩|⟨h1,h2⟩
  all_goals
    go_enter Tryz.func204,Tryz.ntmps204
    go_wp2;go_ret;exact ⟨ZF (by rw[Bool.eq_iff_iff];simp[toB];try omega),rfl⟩
def exA (x:Ex):Array Value:=#[.int .i64 x.k,.int .i64 x.a,.int .i64 x.d,.int .i64 x.t,.int .i64 x.e]
def exv (x:Ex):Value:=.agg #[.int .i64 x.k,.int .i64 x.a,.int .i64 x.d,.int .i64 x.t,.int .i64 x.e]
structure ExW (w:World) (regs sl st:Int) (x:Ex) (blocks:Int) (W:World):Prop where
  bn:Blk W w.heap.size 297 (ZGF regs sl st)
  ex:Blk W (w.heap.size+1) 156 (exA x)
  bl:Blk W (w.heap.size+1+1) 3 #[.int .i64 blocks]
  be:Below w.heap.size w W
theorem ExW.next {w W W':World} {regs sl st blocks:Int} {x:Ex} (h:ExW w regs sl st x blocks W) (hb:Below W.heap.size W W'):ExW w regs sl st x blocks W':=
  ⟨h.bn.below hb h.bn.lt,h.ex.below hb h.ex.lt,h.bl.below hb h.bl.lt,h.be.trans (ZA hb h.be.size)⟩
structure ExC (regs sl st:Int) (x:Ex) (blocks:Int) (n:Nat) (W:World):Prop where
  b0:W.cell? ⟨n,0,none⟩=some (.int .i64 regs)
  b1:W.cell? ⟨n,1,none⟩=some (.int .i64 sl)
  b2:W.cell? ⟨n,2,none⟩=some (.int .i64 st)
  x0:W.cell? ⟨n+1,0,none⟩=some (.int .i64 x.k)
  x1:W.cell? ⟨n+1,1,none⟩=some (.int .i64 x.a)
  x2:W.cell? ⟨n+1,2,none⟩=some (.int .i64 x.d)
  x3:W.cell? ⟨n+1,3,none⟩=some (.int .i64 x.t)
  x4:W.cell? ⟨n+1,4,none⟩=some (.int .i64 x.e)
  c0:W.cell? ⟨n+1+1,0,none⟩=some (.int .i64 blocks)
theorem ExW.cells {w W:World} {regs sl st blocks:Int} {x:Ex} (h:ExW w regs sl st x blocks W):ExC regs sl st x blocks w.heap.size W:=
  ⟨(h.bn.cell 0).trans rfl,(h.bn.cell 1).trans rfl,(h.bn.cell 2).trans rfl,(h.ex.cell 0).trans rfl,(h.ex.cell 1).trans rfl,(h.ex.cell 2).trans rfl,(h.ex.cell 3).trans rfl,(h.ex.cell 4).trans rfl,(h.bl.cell 0).trans rfl⟩
theorem ExW.start (w:World) (regs sl st blocks:Int) (x:Ex):ExW w regs sl st x blocks (((w.alloc (.cells (ZGF regs sl st) 297)).alloc (.cells (exA x) 156)).alloc (.cells #[.int .i64 blocks] 3)):=
  ⟨((Blk.new w 297 (ZGF regs sl st)).alloc _).alloc _,(ZY (w:=w.alloc (.cells (ZGF regs sl st) 297)) (by simp[World.size_alloc]) 156 (exA x)).alloc _,ZY (by simp[World.size_alloc]) 3 _,
   (((Below.refl w.heap.size w).alloc (Nat.le_refl _) _).alloc (by simp[World.size_alloc]) _).alloc (by simp[World.size_alloc];omega) _⟩
theorem exit_any (regs sl st blocks:Int) (x:Ex) (w:World) :
    Calls Tryz.prog 173 #[ZG5 regs sl st,exv x,.int .i64 blocks] w fun e w'=>e=.returned (.bool (exB regs blocks x))∧Below w.heap.size w w':=by
  have HRG:=Zh (fun r u m w=>ZGb regs sl st r u m w);have HW:=Zh (ExW.start w regs sl st blocks x);unfold ZG5 at HRG;unfold ZG5 exv;unfold ZGF exA at HW;go_enter Tryz.func173,Tryz.ntmps173
  obtain ⟨b0,b1,b2,x0,x1,x2,x3,x4,c0⟩:=HW.out.cells
  cases k1:(x.k==1) with
  | true=>
    have HO:=Zh (show exB regs blocks x=(x.a == -1&&(x.d == -1&&(toB x.t blocks&&x.e==0))) by simp[exB,eq_of_beq k1])
    cases e1:(x.a == -1) with
    | true=>
      cases e2:(x.d == -1) with
      | true=>
        obtain ⟨v3,hv3⟩:∃b,toB x.t blocks=b:=⟨_,rfl⟩
        rw[hv3] at HO;have QT:=Zh (ZFR x.t blocks (w.heap.size+1+1) _ c0);rw[hv3] at QT;clear hv3;go_wp2_with fail
        refine QT.out.mono ?_;rintro e w9 ⟨rfl,rfl⟩;clear QT
        cases v3 with
        | false=>
          go_wp2_with fail
          go_ret;exact ⟨ZF (by rw[HO.out];try simp[*]),HW.out.be⟩
        | true=>
          cases e4:(x.e==0) with
          | true=>
            go_wp2_with fail
            go_ret;exact ⟨ZF (by rw[HO.out];try simp[*]),HW.out.be⟩
          | false=>
            go_wp2_with fail
            go_ret;exact ⟨ZF (by rw[HO.out];try simp[*]),HW.out.be⟩
      | false=>
        go_wp2_with fail
        go_ret;exact ⟨ZF (by rw[HO.out];try simp[*]),HW.out.be⟩
    | false=>
      go_wp2_with fail
      go_ret;exact ⟨ZF (by rw[HO.out];try simp[*]),HW.out.be⟩
  | false=>
    cases k2:(x.k==2) with
    | true=>
      have HO:=Zh (show exB regs blocks x=(ZBL regs x.a true false&&(x.d == -1&&(toB x.t blocks&&toB x.e blocks))) by simp[exB,eq_of_beq k2]);obtain ⟨v5,hv5⟩:∃b,ZBL regs x.a true false=b:=⟨_,rfl⟩
      have QT:=Zh (fun w=>HRG.out x.a true false w);rw[hv5] at HO QT;clear hv5;go_wp2_with fail
      refine (QT.out _).mono ?_;rintro e w9 ⟨rfl,hb9⟩;replace HW:=Zh (HW.out.next hb9);clear QT hb9 b0 b1 b2 x0 x1 x2 x3 x4 c0;obtain ⟨b0,b1,b2,x0,x1,x2,x3,x4,c0⟩:=HW.out.cells
      cases v5 with
      | false=>
        go_wp2_with fail
        go_ret;exact ⟨ZF (by rw[HO.out];try simp[*]),HW.out.be⟩
      | true=>
        cases e6:(x.d == -1) with
        | true=>
          obtain ⟨v7,hv7⟩:∃b,toB x.t blocks=b:=⟨_,rfl⟩
          rw[hv7] at HO;have QT:=Zh (ZFR x.t blocks (w.heap.size+1+1) _ c0);rw[hv7] at QT;clear hv7;go_wp2_with fail
          refine QT.out.mono ?_;rintro e w9 ⟨rfl,rfl⟩;clear QT
          cases v7 with
          | false=>
            go_wp2_with fail
            go_ret;exact ⟨ZF (by rw[HO.out];try simp[*]),HW.out.be⟩
          | true=>
            obtain ⟨v8,hv8⟩:∃b,toB x.e blocks=b:=⟨_,rfl⟩
            rw[hv8] at HO;have QT:=Zh (ZFR x.e blocks (w.heap.size+1+1) _ c0);rw[hv8] at QT;clear hv8;go_wp2_with fail
            refine QT.out.mono ?_;rintro e w9 ⟨rfl,rfl⟩;clear QT
            cases v8 with
            | false=>
              go_wp2_with fail
              go_ret;exact ⟨ZF (by rw[HO.out];try simp[*]),HW.out.be⟩
            | true=>
              go_wp2_with fail
              go_ret;exact ⟨ZF (by rw[HO.out];try simp[*]),HW.out.be⟩
        | false=>
          go_wp2_with fail
          go_ret;exact ⟨ZF (by rw[HO.out];try simp[*]),HW.out.be⟩
    | false=>
      cases k3:(x.k==3) with
      | true=>
        have HO:=Zh (show exB regs blocks x=(ZBL regs x.a true true&&(x.d == -1&&(x.t==0&&x.e==0))) by simp[exB,eq_of_beq k3]);obtain ⟨v9,hv9⟩:∃b,ZBL regs x.a true true=b:=⟨_,rfl⟩
        have QT:=Zh (fun w=>HRG.out x.a true true w);rw[hv9] at HO QT;clear hv9;go_wp2_with fail
        refine (QT.out _).mono ?_;rintro e w9 ⟨rfl,hb9⟩;replace HW:=Zh (HW.out.next hb9);clear QT hb9 b0 b1 b2 x0 x1 x2 x3 x4 c0;obtain ⟨b0,b1,b2,x0,x1,x2,x3,x4,c0⟩:=HW.out.cells
        cases v9 with
        | false=>
          go_wp2_with fail
          go_ret;exact ⟨ZF (by rw[HO.out];try simp[*]),HW.out.be⟩
        | true=>
          cases e10:(x.d == -1) with
          | true=>
            cases e11:(x.t==0) with
            | true=>
              cases e12:(x.e==0) with
              | true=>
                go_wp2_with fail
                go_ret;exact ⟨ZF (by rw[HO.out];try simp[*]),HW.out.be⟩
              | false=>
                go_wp2_with fail
                go_ret;exact ⟨ZF (by rw[HO.out];try simp[*]),HW.out.be⟩
            | false=>
              go_wp2_with fail
              go_ret;exact ⟨ZF (by rw[HO.out];try simp[*]),HW.out.be⟩
          | false=>
            go_wp2_with fail
            go_ret;exact ⟨ZF (by rw[HO.out];try simp[*]),HW.out.be⟩
      | false=>
        cases k4:(x.k==4) with
        | true=>
          have HO:=Zh (show exB regs blocks x=(ZBL regs x.a true false&&(ZBL regs x.d true false&&(toB x.t blocks&&(toB x.e blocks&&x.t != x.e)))) by simp[exB,eq_of_beq k4]);obtain ⟨v13,hv13⟩:∃b,ZBL regs x.a true false=b:=⟨_,rfl⟩
          have QT:=Zh (fun w=>HRG.out x.a true false w);rw[hv13] at HO QT;clear hv13;go_wp2_with fail
          refine (QT.out _).mono ?_;rintro e w9 ⟨rfl,hb9⟩;replace HW:=Zh (HW.out.next hb9);clear QT hb9 b0 b1 b2 x0 x1 x2 x3 x4 c0;obtain ⟨b0,b1,b2,x0,x1,x2,x3,x4,c0⟩:=HW.out.cells
          cases v13 with
          | false=>
            go_wp2_with fail
            go_ret;exact ⟨ZF (by rw[HO.out];try simp[*]),HW.out.be⟩
          | true=>
            obtain ⟨v14,hv14⟩:∃b,ZBL regs x.d true false=b:=⟨_,rfl⟩
            have QT:=Zh (fun w=>HRG.out x.d true false w);rw[hv14] at HO QT;clear hv14;go_wp2_with fail
            refine (QT.out _).mono ?_;rintro e w9 ⟨rfl,hb9⟩;replace HW:=Zh (HW.out.next hb9);clear QT hb9 b0 b1 b2 x0 x1 x2 x3 x4 c0;obtain ⟨b0,b1,b2,x0,x1,x2,x3,x4,c0⟩:=HW.out.cells
            cases v14 with
            | false=>
              go_wp2_with fail
              go_ret;exact ⟨ZF (by rw[HO.out];try simp[*]),HW.out.be⟩
            | true=>
              obtain ⟨v15,hv15⟩:∃b,toB x.t blocks=b:=⟨_,rfl⟩
              rw[hv15] at HO;have QT:=Zh (ZFR x.t blocks (w.heap.size+1+1) _ c0);rw[hv15] at QT;clear hv15;go_wp2_with fail
              refine QT.out.mono ?_;rintro e w9 ⟨rfl,rfl⟩;clear QT
              cases v15 with
              | false=>
                go_wp2_with fail
                go_ret;exact ⟨ZF (by rw[HO.out];try simp[*]),HW.out.be⟩
              | true=>
                obtain ⟨v16,hv16⟩:∃b,toB x.e blocks=b:=⟨_,rfl⟩
                rw[hv16] at HO;have QT:=Zh (ZFR x.e blocks (w.heap.size+1+1) _ c0);rw[hv16] at QT;clear hv16;go_wp2_with fail
                refine QT.out.mono ?_;rintro e w9 ⟨rfl,rfl⟩;clear QT
                cases v16 with
                | false=>
                  go_wp2_with fail
                  go_ret;exact ⟨ZF (by rw[HO.out];try simp[*]),HW.out.be⟩
                | true=>
                  cases e17:(x.t != x.e) with
                  | false=>
                    go_wp2_with fail
                    go_ret;exact ⟨ZF (by rw[HO.out];try simp[*]),HW.out.be⟩
                  | true=>
                    go_wp2_with fail
                    go_ret;exact ⟨ZF (by rw[HO.out];try simp[*]),HW.out.be⟩
        | false=>
          have HO:=Zh (show exB regs blocks x=false by simp[exB,ne_of_beq_false k1,ne_of_beq_false k2,ne_of_beq_false k3,ne_of_beq_false k4]);go_wp2_with fail
          go_ret;exact ⟨ZF (by rw[HO.out];try simp[*]),HW.out.be⟩
theorem ZIX (a:Array Value) (w:World):(callFunc 175 a).run Tryz.prog w=.ok (.enter 175 a) w:=by kernel_rfl
theorem ZBa {W:World} {g n:Nat} {t:TypeId} (l:List Int) (h:Blk W g t (l.map iv).toArray) (hn:l.length=n) (hl:n≤maxLen):Ints W (.slice (some ⟨g,0,none⟩) n n) l:=by
 subst hn;refine ⟨_,_,rfl,Nat.le_refl _,hl,fun _=>⟨g,0,rfl,h.lt,fun j u hj=>?_⟩⟩;rw[h.cell,Nat.zero_add]
 simpa using hj
theorem ZBF (W:World):Ints W (.slice none 0 0) []:=⟨none,0,rfl,Nat.le_refl _,by decide,fun h=>absurd h (by simp)⟩
def ZGD (w:World) (v:Value):Prop:=∀g,v.ownBlock=some g→w.heap.size≤g
theorem ZAr (w:World):ZGD w (.slice none 0 0):=by intro g h;cases h
theorem ZBb {w:World} {g n c:Nat} (h:w.heap.size≤g):ZGD w (.slice (some ⟨g,0,none⟩) n c):=by intro g' h';cases h';exact h
theorem ZBB (w:World) (o:Obj):w.heap.size≤(w.alloc o).heap.size:=by simp[World.size_alloc]
theorem size_le2 (w:World) (o p:Obj):w.heap.size≤((w.alloc o).alloc p).heap.size:=by simp[World.size_alloc];omega
theorem ZN (w:World) (o:Obj):Below w.heap.size w (w.alloc o):=(Below.refl _ _).alloc (Nat.le_refl _) o
theorem below2 (w:World) (o p:Obj):Below w.heap.size w ((w.alloc o).alloc p):=(ZN w o).alloc (ZBB w o) p
theorem below3 (w:World) (o p q:Obj):Below w.heap.size w (((w.alloc o).alloc p).alloc q):=(below2 w o p).alloc (size_le2 w o p) q
theorem ZA7 {B:Nat} {a w:World} (h:Below B a w):Below B a w.drew:=⟨h.os,h.tape,h.output,h.size,h.block⟩
theorem ZCC (x:Ex) (w:World) :
  Calls Tryz.prog 162 #[exv x] w fun e w'=>(∃a b,e=.returned (.tuple #[a,b])∧(Ints w' a (exR x)∧ZGD w a)∧(Ints w' b (exT x)∧ZGD w b))∧Below w.heap.size w w':=by
 unfold exv;go_enter Tryz.func162,Tryz.ntmps162
 cases k1:(x.k==1) with
 | true=>
  have e1:=eq_of_beq k1;have HR:=Zh (show exR x=[]∧exT x=[x.t] by simp[exR,exT,e1]);clear e1;go_wp2;go_region
  all_goals (try go_wp2)
  refine bodyPost_ret (v:=.tuple #[.slice none 0 0,.slice (some ⟨w.heap.size+1+1,0,none⟩) 1 1]) (by simp[results,Tryz.results162,go_sem]) rfl ⟨⟨_,_,rfl,?_,?_⟩,ZA7 (below3 _ _ _ _)⟩
  ·rw[HR.out.1];exact ⟨ZBF _,ZAr w⟩
  ·rw[HR.out.2];exact ⟨ZBa (t:=3) [x.t] (ZY (by simp[World.size_alloc]) _ _) rfl (by decide),ZBb (by omega)⟩
 | false=>
  have n1:=ne_of_beq_false k1
  cases k2:(x.k==2) with
  | true=>
   have e1:=eq_of_beq k2;have HR:=Zh (show exR x=[x.a]∧exT x=[x.t,x.e] by simp[exR,exT,e1]);clear e1 n1;go_wp2;go_region
   all_goals (try go_wp2)
   refine bodyPost_ret (v:=.tuple #[.slice (some ⟨w.heap.size+1,0,none⟩) 1 1,.slice (some ⟨w.heap.size+1+1,0,none⟩) 2 2]) (by simp[results,Tryz.results162,go_sem]) rfl ⟨⟨_,_,rfl,?_,?_⟩,ZA7 (below3 _ _ _ _)⟩
   ·rw[HR.out.1];exact ⟨ZBa (t:=3) [x.a] ((ZY (by simp[World.size_alloc]) _ _).alloc _) rfl (by decide),ZBb (by omega)⟩
   ·rw[HR.out.2];exact ⟨ZBa (t:=3) [x.t,x.e] (ZY (by simp[World.size_alloc]) _ _) rfl (by decide),ZBb (by omega)⟩
  | false=>
   have n2:=ne_of_beq_false k2
   cases k4:(x.k==4) with
   | true=>
    have e1:=eq_of_beq k4;have HR:=Zh (show exR x=[x.a]∧exT x=[x.t,x.e] by simp[exR,exT,e1]);clear e1 n1 n2;go_wp2;go_region
    all_goals (try go_wp2)
    refine bodyPost_ret (v:=.tuple #[.slice (some ⟨w.heap.size+1,0,none⟩) 1 1,.slice (some ⟨w.heap.size+1+1,0,none⟩) 2 2]) (by simp[results,Tryz.results162,go_sem]) rfl ⟨⟨_,_,rfl,?_,?_⟩,ZA7 (below3 _ _ _ _)⟩
    ·rw[HR.out.1];exact ⟨ZBa (t:=3) [x.a] ((ZY (by simp[World.size_alloc]) _ _).alloc _) rfl (by decide),ZBb (by omega)⟩
    ·rw[HR.out.2];exact ⟨ZBa (t:=3) [x.t,x.e] (ZY (by simp[World.size_alloc]) _ _) rfl (by decide),ZBb (by omega)⟩
   | false=>
    have n4:=ne_of_beq_false k4
    cases k3:(x.k==3) with
    | true=>
     have e1:=eq_of_beq k3
     by_cases h0:0≤x.a
     ·have HR:=Zh (show exR x=[x.a]∧exT x=[] by simp[exR,exT,e1,h0])
      clear e1 n1 n2 n4;go_wp2;refine bodyPost_ret (v:=.tuple #[.slice (some ⟨w.heap.size+1,0,none⟩) 1 1,.slice none 0 0]) (by simp[results,Tryz.results162,go_sem]) rfl ⟨⟨_,_,rfl,?_,?_⟩,below2 _ _ _⟩
      ·rw[HR.out.1];exact ⟨ZBa (t:=3) [x.a] (ZY (by simp[World.size_alloc]) _ _) rfl (by decide),ZBb (by omega)⟩
      ·rw[HR.out.2];exact ⟨ZBF _,ZAr w⟩
     ·have HR:=Zh (show exR x=[]∧exT x=[] by simp[exR,exT,e1,h0])
      clear e1 n1 n2 n4;go_wp2;refine bodyPost_ret (v:=.tuple #[.slice none 0 0,.slice none 0 0]) (by simp[results,Tryz.results162,go_sem]) rfl ⟨⟨_,_,rfl,?_,?_⟩,below2 _ _ _⟩
      ·rw[HR.out.1];exact ⟨ZBF _,ZAr w⟩
      ·rw[HR.out.2];exact ⟨ZBF _,ZAr w⟩
    | false=>
     have n3:=ne_of_beq_false k3;have HR:=Zh (show exR x=[]∧exT x=[] by simp[exR,exT,n1,n2,n3,n4]);clear n1 n2 n3 n4;go_wp2;refine bodyPost_ret (v:=.tuple #[.slice none 0 0,.slice none 0 0]) (by simp[results,Tryz.results162,go_sem]) rfl ⟨⟨_,_,rfl,?_,?_⟩,below2 _ _ _⟩
     ·rw[HR.out.1];exact ⟨ZBF _,ZAr w⟩
     ·rw[HR.out.2];exact ⟨ZBF _,ZAr w⟩
theorem ZIY (a:Array Value) (w:World):(callFunc 212 a).run Tryz.prog w=.ok (.enter 212 a) w:=by kernel_rfl
structure ZGG (W:World) (g:Nat) (l:List Int):Prop where
 b:∃cs,Blk W g 3 cs∧cs.toList=l.map iv
theorem ZGG.cell {W:World} {g:Nat} {l:List Int} (h:ZGG W g l) (j:Nat) (hj:j<l.length):W.cell? ⟨g,j,none⟩=some (.int .i64 l[j]):=by
 obtain ⟨cs,hb,hc⟩:=h.b;rw[hb.cell,←Array.getElem?_toList,hc,List.getElem?_map,List.getElem?_eq_getElem hj];rfl
theorem ZGG.frozen {W:World} {g:Nat} {l:List Int} (h:ZGG W g l) (j:Nat):W.frozen? ⟨g,j,none⟩=false:=by
 obtain ⟨cs,hb,hc⟩:=h.b;exact hb.frozen j
theorem ZGG.lt {W:World} {g:Nat} {l:List Int} (h:ZGG W g l):g<W.heap.size:=by
 obtain ⟨cs,hb,hc⟩:=h.b;exact hb.lt
theorem ZGG.set_ {W:World} {g:Nat} {l:List Int} (h:ZGG W g l) (j:Nat) (u:Int):ZGG (W.setCell ⟨g,j,none⟩ (.int .i64 u)) g (l.set j u):=by
 obtain ⟨cs,hb,hc⟩:=h.b;exact ⟨_,hb.set_ j _,by rw[Array.toList_setIfInBounds,hc,List.map_set];rfl⟩
theorem ZGG.below {W W':World} {g:Nat} {l:List Int} (h:ZGG W g l) (hb:Below W.heap.size W W'):ZGG W' g l:=by
 obtain ⟨cs,h1,hc⟩:=h.b;exact ⟨_,h1.below hb h1.lt,hc⟩
theorem ZGG.ints {W:World} {g:Nat} {l:List Int} (h:ZGG W g l) (hl:l.length≤maxLen):Ints W (.slice (some ⟨g,0,none⟩) l.length l.length) l:=
 ⟨_,_,rfl,Nat.le_refl _,hl,fun _=>⟨g,0,rfl,h.lt,fun j u hj=>by
  have hj':j<l.length:=by
   rcases Nat.lt_or_ge j l.length with h|h
   ·exact h
   ·rw[List.getElem?_eq_none (by simpa using h)] at hj;cases hj
  rw[Nat.zero_add,h.cell j hj'];rw[List.getElem?_map,List.getElem?_eq_getElem hj'] at hj;exact hj⟩⟩
theorem ap1_any (gp g n:Nat) (led:List Int) (bs:List Bl) (w:World) (hn:led.length=n) (hp:w.cell? ⟨gp,0,none⟩=some (.slice (some ⟨g,0,none⟩) n n)) (hr:ZGG w g led) (hbs:∀x∈bs,x.x.k=4→0≤x.x.e∧x.x.e<n) :
  ZCq w 212 #[.pointer (some ⟨gp,0,none⟩)] (fun W x v=>atB W x v∧x∈bs) (fun x=>x.x.k==4&&decide (1<led.getD x.x.e.toNat 0)):=by
 rintro W hb x v ⟨⟨ov,ho,rfl⟩,hx⟩;replace hx:=hbs x hx;obtain ⟨A,c,rfl,h1,h2⟩:=ho.form;have hp':W.cell? ⟨gp,0,none⟩=some (.slice (some ⟨g,0,none⟩) n n):=(hb.cell (p:=⟨gp,0,none⟩) (cell_lt hp)).trans hp;have hr':=hr.below hb;clear ho hp hb;show Calls Tryz.prog 212 #[blv x _,.pointer (some ⟨gp,0,none⟩)] W fun e W'=>e=.returned (.bool (x.x.k==4&&decide (1<led.getD x.x.e.toNat 0)))∧Below W.heap.size W W';unfold blv
 cases hk:(x.x.k==4) with
 | true=>
  obtain ⟨e1,e2⟩:=hx (eq_of_beq hk);obtain ⟨j,hj⟩:∃j:Nat,x.x.e=(j:Int):=⟨x.x.e.toNat,by omega⟩
  have hjn:j<led.length:=by omega
  have c0:=hr'.cell j hjn;have hg:led.getD x.x.e.toNat 0=led[j]:=by rw[hj];simp[hjn]
  obtain ⟨q,hq⟩:∃q,led[j]=q:=⟨_,rfl⟩
  rw[hq] at c0 hg;rw[hg,hj];have hjn':j<n:=by omega
  have c1:=ZJ c0 (.cells #[.slice A x.os.length c,.int .i64 x.x.k,.int .i64 x.x.a,.int .i64 x.x.d,.int .i64 x.x.t,.int .i64 j] 159);have c2:=ZJ hp' (.cells #[.slice A x.os.length c,.int .i64 x.x.k,.int .i64 x.x.a,.int .i64 x.x.d,.int .i64 x.x.t,.int .i64 j] 159);clear hg hq hj e1 e2 hx c0 hp' hr hr';go_enter Tryz.func212,Tryz.ntmps212
  by_cases hq:1<q
  all_goals
   go_wp2;go_ret;exact ⟨ZF (by simp[hq]),ZN _ _⟩
 | false=>
  clear hx hp' hr hr';go_enter Tryz.func212,Tryz.ntmps212
  go_wp2;go_ret;exact ⟨rfl,ZN _ _⟩
end Go.Proofs.YtggmkofbikafhaaGreatDoor
namespace Go.Proofs.YtggmkofbikafhaaGreatDoor
theorem ZEX {n m:Int}:toB n m=true↔1≤n∧n<m:=by simp[toB]
theorem ZEe {regs r:Int} (h:ZBL regs r true false=true):0≤r∧r<regs:=by
 unfold ZBL at h
 split at h<;>simp_all
theorem ZHc {regs n:Int} {x:Ex} (h:exB regs n x=true):∀t∈exT x,1≤t∧t<n:=by
 intro t ht;unfold exB at h;unfold exT at ht
 split at h
 ·simp_all [ZEX]
 ·split at h
  ·simp_all [ZEX]
   rcases ht with rfl|rfl<;>omega
  ·split at h
   ·simp_all
   ·split at h
    ·simp_all [ZEX]
     rcases ht with rfl|rfl<;>omega
    ·simp at h
theorem ZHd {regs n:Int} {x:Ex} (h:exB regs n x=true):∀r∈exR x,0≤r∧r<regs:=by
 intro t ht;unfold exB at h;unfold exR at ht
 split at h
 ·simp_all
 ·split at h
  ·simp_all
   exact ZEe h.1
  ·split at h
   ·simp only[Bool.and_eq_true] at h
    have h1:=h.1;unfold ZBL at h1
    split at h1<;>simp_all
   ·split at h
    ·simp_all
     exact ZEe h.1
    ·simp at h
theorem ZE1 {regs n:Int} {x:Ex} (h:exB regs n x=true) (hk:x.k=4):(1≤x.e∧x.e<n)∧(1≤x.t∧x.t<n)∧(0≤x.d∧x.d<regs)∧(0≤x.a∧x.a<regs)∧x.t≠x.e:=by
 simp[exB,hk,ZEX] at h;exact ⟨h.2.2.2.1,h.2.2.1,ZEe h.2.1,ZEe h.1,h.2.2.2.2⟩
theorem ZE0 (x:Ex):(exT x).length≤2:=by
 unfold exT
 split
 ·simp
 ·split<;>simp
end Go.Proofs.YtggmkofbikafhaaGreatDoor
namespace Go.Proofs.YtggmkofbikafhaaGreatDoor
open Go.RowKit
def fnv (F:Fn) (sv bv:Value):Value:=.agg #[.string F.nm,.int .i64 F.ps,.int .i64 F.rs,sv,bv]
def fnA (F:Fn) (sv bv:Value):Array Value:=#[.string F.nm,.int .i64 F.ps,.int .i64 F.rs,sv,bv]
def ledT (l:List Int) (bs:List Bl):List Int:=bs.foldl (fun l b=>(exT b.x).foldl ledS l) l
theorem ZJu {l:List Int} {bs:List Bl} {k:Nat} (hk:k<bs.length):ledT l (bs.take (k+1))=(exT bs[k].x).foldl ledS (ledT l (bs.take k)):=by
 rw[List.take_succ_eq_append_getElem hk,ledT,List.foldl_append];rfl
theorem ZKJ {ts:List Int} {l:List Int} {j:Nat} (hj:j<ts.length):(ts.take (j+1)).foldl ledS l=ledS ((ts.take j).foldl ledS l) ts[j]:=by
 rw[List.take_succ_eq_append_getElem hj,List.foldl_append];rfl
structure ApW (w:World) (F:Fn) (sv bv:Value) (n:Nat) (l:List Int) (m:Int) (W:World):Prop where
 r:ZGG W (w.heap.size+1) l
 ln:l.length=n
 p:Blk W (w.heap.size+1+1) 22 #[.slice (some ⟨w.heap.size+1,0,none⟩) n n]
 hi:∀v∈l,0≤v∧v≤m
 be:Below w.heap.size w W
 bx:Blk W w.heap.size 82 (fnA F sv bv)
theorem ApW.next {w W W':World} {F:Fn} {sv bv:Value} {n:Nat} {l:List Int} {m:Int} (h:ApW w F sv bv n l m W) (hb:Below W.heap.size W W'):ApW w F sv bv n l m W':=
 ⟨h.r.below hb,h.ln,h.p.below hb h.p.lt,h.hi,h.be.trans (ZA hb h.be.size),h.bx.below hb h.bx.lt⟩
theorem Below.setC {B:Nat} {w W:World} (h:Below B w W) {g j:Nat} (hg:B≤g) (u:Value):Below B w (W.setCell ⟨g,j,none⟩ u):=
 ⟨h.os,h.tape,h.output,by rw[World.size_setCell];exact h.size,fun k hk=>(Below.heap_setCell W ⟨g,j,none⟩ u k (show k≠g by omega)).trans (h.block k hk)⟩
theorem ApW.bump {w W:World} {F:Fn} {sv bv:Value} {n:Nat} {l:List Int} {m:Int} (h:ApW w F sv bv n l m W) {j:Nat} (hj:j<n) {q:Int} (hq:l.getD j 0=q) {u:Int} (hu:u=q+1):ApW w F sv bv n (ledS l (j:Int)) (m+1) (W.setCell ⟨w.heap.size+1,j,none⟩ (.int .i64 u)):=by
 have hl:j<l.length:=by rw[h.ln];exact hj
 have hs:ledS l (j:Int)=l.set j u:=by
  unfold ledS;rw[show ((j:Int)).toNat=j by omega,hq,hu]
 have hq2:l[j]=q:=by rw[←hq];simp[hl]
 refine ⟨by rw[hs];exact h.r.set_ j _,by rw[hs,List.length_set];exact h.ln,h.p.far (by show w.heap.size+1+1≠w.heap.size+1;omega) _,?_,Below.setC h.be (by omega) _,h.bx.far (by show w.heap.size≠w.heap.size+1;omega) _⟩;intro v hv;rw[hs] at hv;have:=h.hi l[j] (List.getElem_mem hl);rcases List.mem_or_eq_of_mem_set hv with h1|h1
 ·have:=h.hi v h1;omega
 ·omega
theorem ApW.val {w W:World} {F:Fn} {sv bv:Value} {n:Nat} {l:List Int} {m:Int} (h:ApW w F sv bv n l m W) {j:Nat} (hj:j<n):∃q,l.getD j 0=q∧0≤q∧q≤m∧W.cell? ⟨w.heap.size+1,j,none⟩=some (.int .i64 q)∧W.frozen? ⟨w.heap.size+1,j,none⟩=false:=by
 have hl:j<l.length:=by rw[h.ln];exact hj
 have:=h.hi l[j] (List.getElem_mem hl);exact ⟨l[j],by simp[hl],this.1,this.2,h.r.cell j hl,h.r.frozen j⟩
theorem ApW.le {w W:World} {F:Fn} {sv bv:Value} {n:Nat} {l:List Int} {m m':Int} (h:ApW w F sv bv n l m W) (hm:m≤m'):ApW w F sv bv n l m' W:=
 ⟨h.r,h.ln,h.p,fun v hv=>by have:=h.hi v hv;omega,h.be,h.bx⟩
theorem ints_set {W:World} {v:Value} {l:List Int} (h:Ints W v l) {g j:Nat} (hv:∀k,v.ownBlock=some k→k≠g) (u:Value):Ints (W.setCell ⟨g,j,none⟩ u) v l:=
 Ints.keeps h ((ZE.refl (fun k=>k=g) W).setCell (p:=⟨g,j,none⟩) (Or.inr rfl) u) hv
theorem ZKy (F:Fn) (sv bv:Value) (w:World) (hb:ZAV w bv F.bl) (hn:F.bl.length≤4096) (hx:∀b∈F.bl,exB F.rs F.bl.length b.x=true) :
  Calls Tryz.prog 177 #[fnv F sv bv] w fun e w'=>e=.returned (.bool (apartB F.bl))∧Below w.heap.size w w':=by
 obtain ⟨A,c,rfl,h1,h2⟩:=hb.form;unfold maxLen at h2;have HB:=Zh hb;have HX:=Zh hx;have hmk:=fun w=>ZFi F.bl.length (by omega) w;have hst:ApW w F sv (.slice A F.bl.length c) F.bl.length (List.replicate F.bl.length 0) 0 (((w.alloc (.cells (fnA F sv (.slice A F.bl.length c)) 82)).alloc (.cells (Array.replicate F.bl.length (.int .i64 0)) 3)).alloc (.cells #[.slice (some ⟨w.heap.size+1,0,none⟩) F.bl.length F.bl.length] 22)):=
  ⟨⟨_,(ZY (by simp[World.size_alloc]) _ _).alloc _,by simp[iv]⟩,by simp,ZY (by simp[World.size_alloc]) _ _,fun v hv=>by rw[List.eq_of_mem_replicate hv];omega,below3 _ _ _ _,((Blk.new w 82 _).alloc _).alloc _⟩
 have HST:=Zh hst;clear hb hx hst;unfold fnv;unfold fnA at HST;go_enter Tryz.func177,Tryz.ntmps177
 go_wp2
 go_loopw [17] (fun i wr=>∃k:Nat,k≤F.bl.length∧i=.int .i64 k∧Hid (ApW w F sv (.slice A F.bl.length c) F.bl.length (ledT (List.replicate F.bl.length 0) (F.bl.take k)) (2*k) wr)) (fun i _=>F.bl.length-(intOf i).toNat)
 case atStart=>exact ⟨0,Nat.zero_le _,rfl,HST.out⟩
 case round=>
  obtain ⟨k,hk,rfl,HW⟩:=hrel
  by_cases hlt:k<F.bl.length
  ·obtain ⟨g,off,cap',ea,h3,h4,hg,hc⟩:=(ZAV.below HB.out HW.out.be).open_ (Nat.lt_of_le_of_lt (Nat.zero_le _) hlt)
   cases ea
   obtain ⟨ov,hcc⟩:=hc k hlt;obtain ⟨c0,c1,c2,c3,c4,c5,car⟩:=hcc;obtain ⟨Ao,co,rfl,-,-⟩:=car.form;obtain ⟨b,hbk⟩:∃b,F.bl[k]=b:=⟨_,rfl⟩
   have HE:=Zh (fun w=>ZCC b.x w);have hto:=ZHc (HX.out F.bl[k] (List.getElem_mem hlt));have hstep:=ZJu (l:=List.replicate F.bl.length 0) hlt;rw[hbk] at c0 c1 c2 c3 c4 c5 hto hstep;have HTO:=Zh hto;have HSTEP:=Zh hstep;have HLEN:=Zh (ZE0 b.x);unfold exv at HE;clear car hc hbk hto hstep;go_wp2_with fail
   refine (HE.out _).mono ?_;rintro e w1 ⟨⟨v1,v2,rfl,-,⟨hv2,hf2⟩⟩,hb1⟩;obtain ⟨A2,cc2,rfl,k1,k2⟩:=hv2.form;unfold maxLen at k2;have HV2:=Zh hv2;have HF2:=Zh hf2;have HW1:=Zh ((HW.out.next (ZN wr _)).next hb1);have HWR:=Zh HW.out.be.size;obtain ⟨ts,hts⟩:∃ts,exT b.x=ts:=⟨_,rfl⟩
   rw[hts] at HV2 HTO HSTEP HLEN k1;rw[hts];have HNE:=Zh (show ∀q,(Value.slice A2 ts.length cc2).ownBlock=some q→q≠w.heap.size+1 from fun q hq=>by
    have h5:=hf2 q (by rw[←hq,←hts]);have h6:=HW.out.r.lt;have h7:=ZBB wr (.cells #[Value.slice Ao b.os.length co,Value.int IntKind.i64 b.x.k,Value.int IntKind.i64 b.x.a,Value.int IntKind.i64 b.x.d,Value.int IntKind.i64 b.x.t,Value.int IntKind.i64 b.x.e] 159)
    omega)
   rw[hts] at hv2;clear hf2 hb1 c0 c1 c2 c3 c4 c5 HE HW hts HF2;obtain ⟨l0,hl0⟩:∃l0,ledT (List.replicate F.bl.length 0) (F.bl.take k)=l0:=⟨_,rfl⟩
   rw[hl0] at HW1 HSTEP;clear hl0;go_wp2
   go_loopw [29] (fun i wr=>∃j:Nat,j≤ts.length∧i=.int .i64 j∧Hid (ApW w F sv (.slice (some ⟨g,off,none⟩) F.bl.length c) F.bl.length ((ts.take j).foldl ledS l0) (2*k+j) wr∧Ints wr (.slice A2 ts.length cc2) ts)) (fun i _=>ts.length-(intOf i).toNat)
   case atStart=>exact ⟨0,Nat.zero_le _,rfl,by simpa using HW1.out,HV2.out⟩
   case round=>
    obtain ⟨j,hj,rfl,HW⟩:=hrel
    by_cases hjt:j<ts.length
    ·obtain ⟨g2,off2,cap2,ea,h5,h6,hg2,hc2⟩:=HW.out.2.open_ (Nat.lt_of_le_of_lt (Nat.zero_le _) hjt)
     cases ea
     have c0:=hc2 j hjt;have htt:=HTO.out ts[j] (List.getElem_mem hjt);have hfs:=ZKJ (l:=l0) hjt;obtain ⟨t,ht⟩:∃t:Nat,ts[j]=(t:Int):=⟨ts[j].toNat,by omega⟩
     rw[ht] at c0 htt hfs;have htn:t<F.bl.length:=by omega
     obtain ⟨q,hq,q0,q1,cq,fq⟩:=HW.out.1.val htn;have hqb:q≤10000:=by have:=HLEN.out;omega
     have hp:wr.cell? ⟨w.heap.size+1+1,0,none⟩=some (.slice (some ⟨w.heap.size+1,0,none⟩) F.bl.length F.bl.length):=(HW.out.1.p.cell 0).trans rfl;have HN:=Zh (Za (HW.out.1.bump htn hq rfl) (ints_set (j:=t) HW.out.2 HNE.out (.int .i64 (q+1))));have HFS:=Zh hfs;clear hc2 htt hfs ht hq HW;go_wp2;go_roundw
     case rel=>exact ⟨j+1,by omega,by go_num,by rw[HFS.out];exact HN.out.1.le (by omega),HN.out.2⟩
     case measure=>simp[intOf];omega
    ·have hje:j=ts.length:=by omega
     subst hje;have HW3:=Zh HW.out.1;rw[List.take_length,←HSTEP.out] at HW3;have HW4:=Zh (HW3.out.le (m':=2*((k+1:Nat):Int)) (by have:=HLEN.out;omega));clear HW HW3;go_wp2;go_roundw
     case rel=>exact ⟨k+1,by omega,by go_num,HW4.out⟩
     case measure=>simp[intOf];omega
  ·have hke:k=F.bl.length:=by omega
   subst hke;have HL:=Zh HW.out.ln;have HR:=Zh HW.out.r;rw[List.take_length] at HL HR;have hp:wr.cell? ⟨w.heap.size+1+1,0,none⟩=some (.slice (some ⟨w.heap.size+1,0,none⟩) F.bl.length F.bl.length):=(HW.out.p.cell 0).trans rfl;have hb4:wr.cell? ⟨w.heap.size,4,none⟩=some (.slice A F.bl.length c):=(HW.out.bx.cell 4).trans rfl;have HT:=Zh (ap1_any (w.heap.size+1+1) (w.heap.size+1) F.bl.length _ F.bl wr HL.out hp HR.out (fun b hb hk4=>by have:=(ZE1 (HX.out b hb) hk4).1;omega));have HC:=Zh (ZE7 F.bl (.slice A F.bl.length c) 212 #[.pointer (some ⟨w.heap.size+1+1,0,none⟩)] _ wr ZIY (HB.out.below HW.out.be) HT.out);have HBE:=Zh HW.out.be;clear HW HT HL HR;go_wp2_with fail
   refine HC.out.mono ?_;rintro e w1 ⟨rfl,hb1⟩;go_wp2;go_ret;exact ⟨ZF rfl,HBE.out.trans (ZA hb1 HBE.out.size)⟩
end Go.Proofs.YtggmkofbikafhaaGreatDoor
