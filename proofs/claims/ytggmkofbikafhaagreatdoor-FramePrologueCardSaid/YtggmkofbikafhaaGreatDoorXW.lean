/- Walks and plain laws on the way to FramePrologue (XW). Conditions: those that each theorem states. -/
import Derived.Test.YtggmkofbikafhaaGreatDoorXX1
set_option linter.unusedVariables false
set_option linter.unusedSimpArgs false
set_option maxRecDepth 100000
set_option maxHeartbeats 40000000
namespace Go.Proofs.YtggmkofbikafhaaGreatDoor
open Go.RowKit Go.Lib
theorem nilB (W:World) (B:Nat):OwnB W B (.slice none 0 0) []:=⟨by simp,Or.inl ⟨rfl,rfl⟩⟩
theorem nilL (W:World) (B:Nat):OwnL W B (.slice none 0 0) []:=⟨by simp,Or.inl ⟨rfl,rfl⟩⟩
def ZKO (w:World) (p:Nat) (a b c d:Value):World:=(((w.setCell ⟨p,0,none⟩ a).setCell ⟨p,1,none⟩ b).setCell ⟨p,2,none⟩ c).setCell ⟨p,3,none⟩ d
theorem fill4_at {w:World} {p:Nat} {x1 x2 x3 x4:Value} {t:TypeId} (h0:Blk w p t #[x1,x2,x3,x4]) (a b c d:Value):Blk (ZKO w p a b c d) p t #[a,b,c,d]∧ZE (fun k=>k=p) w (ZKO w p a b c d):=by
 unfold ZKO;exact ⟨(((h0.set_ 0 a).set_ 1 b).set_ 2 c).set_ 3 d,(((((ZE.refl (fun k=>k=p) w).setCell (p:=⟨p,0,none⟩) (Or.inr rfl) a).setCell (p:=⟨p,1,none⟩) (Or.inr rfl) b).setCell (p:=⟨p,2,none⟩) (Or.inr rfl) c).setCell (p:=⟨p,3,none⟩) (Or.inr rfl) d)⟩
theorem ZJ4 (A1 A3 A4:Option Addr) (k1 k3 k4 gO cO:Nat) (tx:List UInt8) (lb:List Lb) (w:World) (ho:Bx4 w gO (.slice A1 tx.length k1) (.slice none 0 0) (.slice A3 lb.length k3) (.slice A4 0 k4))
  (ht:RowOf w (.slice A1 tx.length k1) tx.length (tx.map byt)) (hl:RowOf w (.slice A3 lb.length k3) lb.length (lb.flatMap lbc)) (hg:ZIs tx.length lb) (hcO:1≤cO) (hcO2:cO≤maxLen) :
  Calls Tryz.prog 69 #[.slice (some ⟨gO,0,none⟩) 1 cO] w fun e w'=>(∃tv lv r,e=.returned (.tuple #[.agg #[tv,.slice none 0 0,lv,.slice (some ⟨r,0,none⟩) 0 0],.agg #[.int .i64 0,.int .i64 0]])∧OwnB w' w.heap.size tv tx∧OwnL w' w.heap.size lv lb)∧Below w.heap.size w w':=by
 obtain ⟨p,hp⟩:∃p,w.heap.size=p:=⟨_,rfl⟩
 obtain ⟨n1,hn1⟩:∃n1,tx.length=n1:=⟨_,rfl⟩
 obtain ⟨n3,hn3⟩:∃n3,lb.length=n3:=⟨_,rfl⟩
 have HN1:=Zh hn1;have HN3:=Zh hn3;have HG:=Zh hg;have hm1:=hg.few;have hm3:=hg.len;unfold maxLen at hcO2;have HO:Hid (Bx4 w gO (.slice A1 n1 k1) (.slice none 0 0) (.slice A3 n3 k3) (.slice A4 0 k4)∧RowOf w (.slice A1 n1 k1) n1 (tx.map byt)∧RowOf w (.slice A3 n3 k3) n3 (lb.flatMap lbc)):=by
  subst hn1;subst hn3;exact ⟨ho,ht,hl⟩
 rw[hn1] at hm1;rw[hn3] at hm3;have HCK:Hid (∀W,Below w.heap.size w W→Calls Tryz.prog 117 #[.agg #[.slice A1 n1 k1,.slice none 0 0,.slice A3 n3 k3,.slice A4 0 k4]] W fun e w'=>e=.returned (.int .i64 0)∧Below W.heap.size W w'):=fun W hW=>by
  subst hn1;subst hn3;exact ZIg A1 A3 A4 tx.length k1 k3 k4 lb W (RowOf.lo hl (Nat.le_refl _) hW hW.size) hg
 clear ho ht hl hg hn1 hn3;have HST:Hid (Below p w ((w.alloc (.cells ZAk 36)).alloc (.cells #[.int .i64 0,.int .i64 0] 38))∧Blk ((w.alloc (.cells ZAk 36)).alloc (.cells #[.int .i64 0,.int .i64 0] 38)) p 36 ZAk∧Blk ((w.alloc (.cells ZAk 36)).alloc (.cells #[.int .i64 0,.int .i64 0] 38)) (p+1) 38 #[.int .i64 0,.int .i64 0]):=by
  subst hp;exact ⟨bel2 _ _ _,(Blk.new w _ _).alloc _,ZY (by simp[World.size_alloc]) _ _⟩
 have HP:=Zh hp;rw[hp];go_enter Tryz.func69,Tryz.ntmps69
 go_wp2_with fail
 try rw[hp]
 go_loopw [4] (fun iv W=>∃k:Nat,k≤1∧iv=.int .i64 k∧Hid (Below p w W∧Blk W p 36 ZAk∧Blk W (p+1) 38 #[.int .i64 0,.int .i64 0])) (fun iv _=>1-(Go.RowKit.intOf iv).toNat)
 case atStart=>exact ⟨0,Nat.zero_le _,rfl,HST.out⟩
 case round=>
  clear HST;obtain ⟨k,hk,rfl,HI⟩:=hrel;rcases (show k=0∨k=1 by omega) with rfl|rfl
  ·have hbw:∀ {a:Addr} {v:Value},w.cell? a=some v→wr.cell? a=some v:=fun h=>(HI.out.1.cell (by have:=cell_lt h;rw[HP.out] at this;exact this)).trans h
   obtain ⟨c0,c1,c2,c3⟩:=HO.out.1;replace c0:=hbw c0;replace c1:=hbw c1;replace c2:=hbw c2;replace c3:=hbw c3;have HCK2:=Zh (HCK.out wr (by rw[HP.out];exact HI.out.1));clear hbw HCK;go_wp2_with fail
   refine HCK2.out.mono ?_;rintro e w1 ⟨rfl,hb⟩;have HI1:=Zh (show Below p w w1∧Blk w1 p 36 ZAk∧Blk w1 (p+1) 38 #[.int .i64 0,.int .i64 0] from ⟨HI.out.1.trans (ZA hb (by have:=HI.out.2.2.lt;omega)),HI.out.2.1.below hb HI.out.2.1.lt,HI.out.2.2.below hb HI.out.2.2.lt⟩);clear hb HI HCK2 c0 c1 c2 c3;go_wp2_with fail
   go_roundw
   case rel=>exact ⟨1,by omega,by go_num,HI1.out⟩
   case measure=>first|(simp[Go.RowKit.intOf];done)|(simp[Go.RowKit.intOf];omega)
  ·clear HCK
   generalize wr=ws at *;go_upto_region 8 with fail
   obtain ⟨r,hr⟩:∃r,ws.heap.size=r:=⟨_,rfl⟩
   obtain ⟨w1,hw1⟩:∃w1,ws.alloc (.cells #[.slice none 0 0,.slice none 0 0,.slice none 0 0,.slice none 0 0] 36)=w1:=⟨_,rfl⟩
   have HJ:Hid (JN w w1 p r (.slice none 0 0) (.slice none 0 0) [] []):=by
    have hb:Below ws.heap.size ws w1:=by rw[←hw1];exact ZV _ _
    have hn:=Blk.new ws 36 ZAk;unfold ZAk at hn;rw[hw1,hr] at hn;have:=HI.out.2.2.lt;exact ⟨HI.out.1.trans (ZA hb (by omega)),by omega,HI.out.2.1.below hb HI.out.2.1.lt,HI.out.2.2.below hb HI.out.2.2.lt,hn,nilB _ _,nilL _ _⟩
   rw[hw1,hr];clear hr hw1 HI;go_wp2_with fail
   go_loopw [7] (fun iv W=>∃(k:Nat),k≤1∧iv=.int .i64 k∧Hid (if k=0 then JN w W p r (.slice none 0 0) (.slice none 0 0) [] [] else ∃tv lv,JN w W p r tv lv tx lb)) (fun iv _=>1-(Go.RowKit.intOf iv).toNat)
   case atStart=>exact ⟨0,Nat.zero_le _,rfl,by show _;rw[if_pos rfl];exact HJ.out⟩
   case round=>
    clear HJ;obtain ⟨k,hk,rfl,HJK⟩:=hrel;rcases (show k=0∨k=1 by omega) with rfl|rfl
    ·have HJ:=Zh (show JN w wr p r (.slice none 0 0) (.slice none 0 0) [] [] from by have:=HJK.out;rw[if_pos rfl] at this;exact this)
     clear HJK;have hbw:∀ {a:Addr} {v:Value},w.cell? a=some v→wr.cell? a=some v:=fun h=>(HJ.out.below.cell (by have:=cell_lt h;rw[HP.out] at this;exact this)).trans h;obtain ⟨c0,c1,c2,c3⟩:=HO.out.1;replace c0:=hbw c0;replace c1:=hbw c1;replace c2:=hbw c2;replace c3:=hbw c3;clear hbw;go_upto_region 12 with fail
     obtain ⟨q,hq⟩:∃q,wr.heap.size=q:=⟨_,rfl⟩
     obtain ⟨w2,hw2⟩:∃w2,wr.alloc (.cells #[.slice A1 n1 k1,.slice none 0 0,.slice A3 n3 k3,.slice A4 0 k4] 36)=w2:=⟨_,rfl⟩
     have HS:Hid (JN w w2 p r (.slice none 0 0) (.slice none 0 0) [] []∧Blk w2 q 36 #[.slice A1 n1 k1,.slice none 0 0,.slice A3 n3 k3,.slice A4 0 k4]∧r<q):=by
      have hb:Below wr.heap.size wr w2:=by rw[←hw2];exact ZV _ _
      have hn:=Blk.new wr 36 #[.slice A1 n1 k1,.slice none 0 0,.slice A3 n3 k3,.slice A4 0 k4];rw[hw2,hq] at hn;exact ⟨HJ.out.bel hb,hn,by have:=HJ.out.box.lt;omega⟩
     rw[hw2,hq];clear hw2 hq c0 c1 c2 c3 HJ;have q2:w2.cell? ⟨q,2,none⟩=some (.slice A3 n3 k3):=(HS.out.2.1.cell 2).trans rfl;have r2:w2.cell? ⟨r,2,none⟩=some (.slice none 0 0):=(HS.out.1.box.cell 2).trans rfl;go_wp2_with fail
     go_loopw [9] (fun av W=>∃a:Nat,a≤n3∧av=.int .i64 a∧W=w2) (fun av _=>n3-(Go.RowKit.intOf av).toNat)
     case atStart=>exact ⟨0,by omega,rfl,rfl⟩
     case round=>
      obtain ⟨a,ha,rfl,rfl⟩:=hrel
      by_cases hlt:a<n3
      ·go_wp2_with fail
       go_loopw [10] (fun jv W=>jv=.int .i64 0∧W=wr) (fun _ _=>0)
       case atStart=>exact ⟨rfl,rfl⟩
       case round=>
        obtain ⟨rfl,rfl⟩:=hrel;go_wp2_with fail
        go_roundw
        case rel=>exact ⟨a+1,by omega,by go_num,trivial⟩
        case measure=>first|(simp[Go.RowKit.intOf];done)|(simp[Go.RowKit.intOf];omega)
      ·have hae:a=n3:=by omega
       subst hae;generalize wr=w3 at *;go_upto_region 20 with fail
       go_cut [] from 73 to 80 (fun W=>Hid (JN w W p r (.slice none 0 0) (.slice none 0 0) [] []∧Blk W q 36 #[.slice A1 n1 k1,.slice none 0 0,.slice A3 a k3,.slice A4 0 k4]∧r<q))
       case first=>as_aux_lemma=>
        have HB0:Hid (JN w w3.drew p r (.slice none 0 0) (.slice none 0 0) [] []∧Blk w3.drew q 36 #[.slice A1 n1 k1,.slice none 0 0,.slice A3 a k3,.slice A4 0 k4]∧r<q):=⟨HS.out.1.bel (ZAO (Below.refl _ _)),HS.out.2.1,HS.out.2.2⟩
        clear HS q2 r2;refine wp_region_held_drew (S:=(fun _=>True)) (by kernel_rfl) trivial (fun hHeld=>?_);generalize w3.drew=W0 at HB0 ⊢;have b0:W0.cell? ⟨r,0,none⟩=some (.slice none 0 0):=(HB0.out.1.box.cell 0).trans rfl;have b1:W0.cell? ⟨r,1,none⟩=some (.slice none 0 0):=(HB0.out.1.box.cell 1).trans rfl;have f0:=HB0.out.1.box.frozen 0;have f1:=HB0.out.1.box.frozen 1;refine TW 0 rfl ?_;try simp only[AP]
        refine TW 3 rfl ?_;try simp only[AP]
        refine wpAnyH_ready (rs:=[1,4]) (by kernel_rfl) (by simp) ?_;refine AllReadyH.cons rfl (fun K hK=>?_) (AllReadyH.cons rfl (fun K hK=>?_) (AllReadyH.nil))
        ·rw[if_pos (by rfl)]
         go_simp;refine hK.out _ _ trivial (fun hHeld=>?_);clear hK K;try simp only[AP]
         refine wpAnyH_ready (rs:=[2,4]) (by kernel_rfl) (by simp) ?_;refine AllReadyH.cons rfl (fun K hK=>?_) (AllReadyH.cons rfl (fun K hK=>?_) (AllReadyH.nil))
         ·rw[if_pos (by rfl)]
          go_simp;go_at_call 118;refine (ZAm W0).mono ?_;rintro e W0' ⟨rfl,hw⟩;replace hw:=hw.symm;subst hw;try go_simp
          refine hK.out _ _ trivial (fun hHeld=>?_);clear hK K;try simp only[AP]
          refine RW 4 rfl fun K hK=>?_;go_simp;refine hK.out _ _ trivial (fun hHeld=>?_);clear hK K;try simp only[AP]
          refine TW 6 rfl ?_;try simp only[AP]
          refine RW 5 rfl fun K hK=>?_;go_simp;go_at_call 118;refine (ZAm W0).mono ?_;rintro e W0' ⟨rfl,hw⟩;replace hw:=hw.symm;subst hw;try go_simp
          refine hK.out _ _ trivial (fun hHeld=>?_);clear hK K;try simp only[AP]
          refine RW 7 rfl fun K hK=>?_;go_simp;rw[Zd (v:=.slice none 0 0) HB0.out.1.box (i:=0) rfl];refine hK.out _ _ trivial (fun hHeld=>?_);clear hK K;try simp only[AP]
          refine TW 8 rfl ?_;try simp only[AP]
          refine RW 9 rfl fun K hK=>?_;go_simp;rw[Zd (v:=.slice none 0 0) HB0.out.1.box (i:=1) rfl];refine hK.out _ _ trivial (fun hHeld=>?_);clear hK K;try simp only[AP]
          refine wpAnyH_done (by kernel_rfl) ?_ _;go_wp2_with fail
          go_meet
          case rel=>exact HB0.out
         ·rw[if_pos (by rfl)]
          go_simp;refine hK.out _ _ trivial (fun hHeld=>?_);clear hK K;try simp only[AP]
          refine RW 2 rfl fun K hK=>?_;go_simp;go_at_call 118;refine (ZAm W0).mono ?_;rintro e W0' ⟨rfl,hw⟩;replace hw:=hw.symm;subst hw;try go_simp
          refine hK.out _ _ trivial (fun hHeld=>?_);clear hK K;try simp only[AP]
          refine TW 6 rfl ?_;try simp only[AP]
          refine RW 5 rfl fun K hK=>?_;go_simp;go_at_call 118;refine (ZAm W0).mono ?_;rintro e W0' ⟨rfl,hw⟩;replace hw:=hw.symm;subst hw;try go_simp
          refine hK.out _ _ trivial (fun hHeld=>?_);clear hK K;try simp only[AP]
          refine RW 7 rfl fun K hK=>?_;go_simp;rw[Zd (v:=.slice none 0 0) HB0.out.1.box (i:=0) rfl];refine hK.out _ _ trivial (fun hHeld=>?_);clear hK K;try simp only[AP]
          refine TW 8 rfl ?_;try simp only[AP]
          refine RW 9 rfl fun K hK=>?_;go_simp;rw[Zd (v:=.slice none 0 0) HB0.out.1.box (i:=1) rfl];refine hK.out _ _ trivial (fun hHeld=>?_);clear hK K;try simp only[AP]
          refine wpAnyH_done (by kernel_rfl) ?_ _;go_wp2_with fail
          go_meet
          case rel=>exact HB0.out
        ·rw[if_pos (by rfl)]
         go_simp;refine hK.out _ _ trivial (fun hHeld=>?_);clear hK K;try simp only[AP]
         refine RW 1 rfl fun K hK=>?_;go_simp;refine hK.out _ _ trivial (fun hHeld=>?_);clear hK K;try simp only[AP]
         refine RW 2 rfl fun K hK=>?_;go_simp;go_at_call 118;refine (ZAm W0).mono ?_;rintro e W0' ⟨rfl,hw⟩;replace hw:=hw.symm;subst hw;try go_simp
         refine hK.out _ _ trivial (fun hHeld=>?_);clear hK K;try simp only[AP]
         refine TW 6 rfl ?_;try simp only[AP]
         refine RW 5 rfl fun K hK=>?_;go_simp;go_at_call 118;refine (ZAm W0).mono ?_;rintro e W0' ⟨rfl,hw⟩;replace hw:=hw.symm;subst hw;try go_simp
         refine hK.out _ _ trivial (fun hHeld=>?_);clear hK K;try simp only[AP]
         refine RW 7 rfl fun K hK=>?_;go_simp;rw[Zd (v:=.slice none 0 0) HB0.out.1.box (i:=0) rfl];refine hK.out _ _ trivial (fun hHeld=>?_);clear hK K;try simp only[AP]
         refine TW 8 rfl ?_;try simp only[AP]
         refine RW 9 rfl fun K hK=>?_;go_simp;rw[Zd (v:=.slice none 0 0) HB0.out.1.box (i:=1) rfl];refine hK.out _ _ trivial (fun hHeld=>?_);clear hK K;try simp only[AP]
         refine wpAnyH_done (by kernel_rfl) ?_ _;go_wp2_with fail
         go_meet
         case rel=>exact HB0.out
       case rest=>as_aux_lemma=>
        have HS2:=hcut;clear hcut HS q2 r2;go_wp2_with fail
        obtain ⟨w6,hw6⟩:∃w6,wc=w6:=⟨_,rfl⟩
        rw[hw6] at HS2 ⊢;clear hw6
        go_loopw [11] (fun bv W=>∃(b:Nat) (lv:Value),b≤a∧bv=.int .i64 b∧Hid (JN w W p r (.slice none 0 0) lv [] (lb.take b)∧Blk W q 36 #[.slice A1 n1 k1,.slice none 0 0,.slice A3 a k3,.slice A4 0 k4]∧r<q)) (fun bv _=>a-(Go.RowKit.intOf bv).toNat)
        case atStart=>exact ⟨0,_,by omega,rfl,by show _∧_;simpa using HS2.out⟩
        case round=>
         clear HS2;obtain ⟨b,lv,hb,rfl,HS⟩:=hrel;have q2:wr.cell? ⟨q,2,none⟩=some (.slice A3 a k3):=(HS.out.2.1.cell 2).trans rfl
         by_cases hlt:b<a
         ·have hbl:b<lb.length:=by rw[HN3.out];exact hlt
          have hrow:RowOf w (.slice A3 a k3) lb.length (lb.flatMap lbc):=by rw[HN3.out];exact HO.out.2.2
          obtain ⟨g3,off3,rfl,hg3,hc3⟩:=ZAp hrow hbl;obtain ⟨c0,c1,c2,c3⟩:=hc3 b hbl;have hbw:∀ {a:Addr} {v:Value},w.cell? a=some v→wr.cell? a=some v:=fun h=>(HS.out.1.below.cell (by have:=cell_lt h;rw[HP.out] at this;exact this)).trans h;replace c0:=hbw c0;replace c1:=hbw c1;replace c2:=hbw c2;replace c3:=hbw c3;obtain ⟨x,hx⟩:∃x,lb[b]=x:=⟨_,rfl⟩
          rw[hx] at c0 c2;obtain ⟨nm,at_⟩:=x;dsimp only at c0 c2;have hat:at_≤1000000:=by
           have h1:=HG.out.at_ _ (List.getElem_mem hbl);rw[hx] at h1;have h2:=HG.out.few;dsimp only at h1;omega
          have HX:=Zh hx;clear hrow hc3 hg3 hbw hx;go_upto_region 25 with fail
          obtain ⟨s,hs⟩:∃s,wr.heap.size=s:=⟨_,rfl⟩
          obtain ⟨w5,hw5⟩:∃w5,wr.alloc (.cells #[.string (str nm),.int .i64 0,.int .i64 (at_:Int),.bool false] 102)=w5:=⟨_,rfl⟩
          have HS5:Hid (JN w w5 p r (.slice none 0 0) lv [] (lb.take b)∧Blk w5 q 36 #[.slice A1 n1 k1,.slice none 0 0,.slice (some ⟨g3,off3,none⟩) a k3,.slice A4 0 k4]∧Blk w5 s 102 #[.string (str nm),.int .i64 0,.int .i64 (at_:Int),.bool false]∧r<q):=by
           have hbb:Below wr.heap.size wr w5:=by rw[←hw5];exact ZV _ _
           have hn:=Blk.new wr 102 #[.string (str nm),.int .i64 0,.int .i64 (at_:Int),.bool false];rw[hw5,hs] at hn;exact ⟨HS.out.1.bel hbb,HS.out.2.1.below hbb HS.out.2.1.lt,hn,HS.out.2.2⟩
          obtain ⟨Al,cl,hlv,-,-⟩:=HS.out.1.lb.form;rw[hlv] at HS5;clear HS hlv;rw[hw5,hs];clear hw5 hs c0 c1 c2 c3 q2;obtain ⟨nl,hnl⟩:∃nl,(lb.take b).length=nl:=⟨_,rfl⟩
          rw[hnl] at HS5;have HNL:=Zh hnl;clear hnl
          go_cut [] from 93 to 101 (fun W=>Hid (JN w W p r (.slice none 0 0) (.slice Al nl cl) [] (lb.take b)∧Blk W q 36 #[.slice A1 n1 k1,.slice none 0 0,.slice (some ⟨g3,off3,none⟩) a k3,.slice A4 0 k4]∧Blk W s 102 #[.string (str nm),.int .i64 0,.int .i64 (at_:Int),.bool false]∧r<q))
          case first=>as_aux_lemma=>
           have HB5:Hid (JN w w5.drew p r (.slice none 0 0) (.slice Al nl cl) [] (lb.take b)∧Blk w5.drew q 36 #[.slice A1 n1 k1,.slice none 0 0,.slice (some ⟨g3,off3,none⟩) a k3,.slice A4 0 k4]∧Blk w5.drew s 102 #[.string (str nm),.int .i64 0,.int .i64 (at_:Int),.bool false]∧r<q):=⟨HS5.out.1.bel (ZAO (Below.refl _ _)),HS5.out.2.1,HS5.out.2.2.1,HS5.out.2.2.2⟩
           clear HS5;refine wp_region_held_drew (S:=(fun W=>W.cell? ⟨r,0,none⟩=some (.slice none 0 0)∧W.cell? ⟨r,1,none⟩=some (.slice none 0 0)∧W.cell? ⟨r,2,none⟩=some (.slice Al nl cl)∧W.cell? ⟨r,3,none⟩=some (.slice none 0 0)∧W.cell? ⟨s,1,none⟩=some (.int .i64 0)∧W.cell? ⟨s,2,none⟩=some (.int .i64 (at_:Int)))) (by kernel_rfl) ?_ (fun hHeld=>?_)
           ·exact ⟨(HB5.out.1.box.cell 0).trans rfl,(HB5.out.1.box.cell 1).trans rfl,(HB5.out.1.box.cell 2).trans rfl,(HB5.out.1.box.cell 3).trans rfl,(HB5.out.2.2.1.cell 1).trans rfl,(HB5.out.2.2.1.cell 2).trans rfl⟩
           generalize w5.drew=W5 at HB5 hHeld ⊢;have e11:IntKind.i64.wrap (at_:Int)=(at_:Int):=IntWalk.i64_in _ (by omega);refine FU 10 rfl ?_;iterate 5 (refine TN 10 rfl ?_;try simp only[AP,Nat.reduceAdd,Nat.reduceSub])
           refine RW 5 rfl fun K hK=>?_;go_simp;go_at_call 119;refine (ZCf none 0 0 _ _ _ W5).mono ?_;rintro e W6 ⟨rfl,hb⟩;have HB6:Hid (JN w W6 p r (.slice none 0 0) (.slice Al nl cl) [] (lb.take b)∧Blk W6 q 36 #[.slice A1 n1 k1,.slice none 0 0,.slice (some ⟨g3,off3,none⟩) a k3,.slice A4 0 k4]∧Blk W6 s 102 #[.string (str nm),.int .i64 0,.int .i64 (at_:Int),.bool false]∧r<q):=⟨HB5.out.1.bel hb,HB5.out.2.1.below hb HB5.out.2.1.lt,HB5.out.2.2.1.below hb HB5.out.2.2.1.lt,HB5.out.2.2.2⟩
           clear hb;try go_simp
           refine hK.out _ _ ⟨(HB6.out.1.box.cell 0).trans rfl,(HB6.out.1.box.cell 1).trans rfl,(HB6.out.1.box.cell 2).trans rfl,(HB6.out.1.box.cell 3).trans rfl,(HB6.out.2.2.1.cell 1).trans rfl,(HB6.out.2.2.1.cell 2).trans rfl⟩ (fun hHeld=>?_);clear hK K;try simp only[AP]
           iterate 3 (refine TN 10 rfl ?_;try simp only[AP,Nat.reduceAdd,Nat.reduceSub])
           refine RW 9 rfl fun K hK=>?_;have s2:W6.cell? ⟨s,2,none⟩=some (.int .i64 (at_:Int)):=(HB6.out.2.2.1.cell 2).trans rfl;have f2:=HB6.out.2.2.1.frozen 2;go_simp;clear s2 f2;rw[Zd (v:=.int .i64 (at_:Int)) HB6.out.2.2.1 (i:=2) rfl];refine hK.out _ _ ⟨(HB6.out.1.box.cell 0).trans rfl,(HB6.out.1.box.cell 1).trans rfl,(HB6.out.1.box.cell 2).trans rfl,(HB6.out.1.box.cell 3).trans rfl,(HB6.out.2.2.1.cell 1).trans rfl,(HB6.out.2.2.1.cell 2).trans rfl⟩ (fun hHeld=>?_);clear hK K;try simp only[AP]
           refine wpAnyH_done (by kernel_rfl) ?_ _;go_wp2_with fail
           go_meet
           case rel=>exact HB6.out
          case rest=>as_aux_lemma=>
           clear HS5;have HS6:=hcut;clear hcut;obtain ⟨v',W',e1,e2,e3⟩:=HS6.out.1.lb.push (by have:=HS6.out.1.box.lt;omega) (by rw[HNL.out];have:=HNL.out;rw[List.length_take] at this;omega) ⟨nm,at_⟩ 33;have HAP:=Zh e1;have hlt2:=HS6.out.1.box.lt;have hne:∀g t cs,Blk wc g t cs→t≠102→¬(Value.slice Al nl cl).ownBlock=some g:=by
            intro g t cs hB ht e;obtain ⟨cu,hcu⟩:=ZI HS6.out.1.lb e;exact ht (Blk.kind hB hcu)
           have hJ:JN w (W'.setCell ⟨r,2,none⟩ v') p r (.slice none 0 0) v' [] (lb.take (b+1)):=by
            refine HS6.out.1.lab e3 ?_;rw[List.take_succ_eq_append_getElem hbl,HX.out];exact e2
           have hqn:q≠r:=by have:=HS6.out.2.2.2;omega
           have hQ:=(HS6.out.2.1.keeps e3 (hne _ _ _ HS6.out.2.1 (by decide))).far (p:=⟨r,2,none⟩) hqn v';have HN:=Zh (Za hJ (Za hQ HS6.out.2.2.2));have hbx:=HS6.out.1.box.keeps e3 (hne _ _ _ HS6.out.1.box (by decide));have r2:wc.cell? ⟨r,2,none⟩=some (.slice Al nl cl):=(HS6.out.1.box.cell 2).trans rfl;have d2:W'.cell? ⟨r,2,none⟩=some (.slice Al nl cl):=(hbx.cell 2).trans rfl;have f2:=hbx.frozen 2;have s0:wc.cell? ⟨s,0,none⟩=some (.string (str nm)):=(HS6.out.2.2.1.cell 0).trans rfl;have s1:wc.cell? ⟨s,1,none⟩=some (.int .i64 0):=(HS6.out.2.2.1.cell 1).trans rfl;have s2:wc.cell? ⟨s,2,none⟩=some (.int .i64 (at_:Int)):=(HS6.out.2.2.1.cell 2).trans rfl;have s3:wc.cell? ⟨s,3,none⟩=some (.bool false):=(HS6.out.2.2.1.cell 3).trans rfl;obtain ⟨Av,cv,hvv,-,-⟩:=OwnL.form e2;obtain ⟨nn,hnn⟩:∃nn,(lb.take b++[(⟨nm,at_⟩:Lb)]).length=nn:=⟨_,rfl⟩
           rw[hnn] at hvv;subst hvv;clear hnn e1 e2 e3 hne hJ hQ hbx HS6 hlt2 hqn;go_wp2_with (at_builtin;refine ZK rfl (.tmp 103) (.tmp 105) 33 rfl rfl rfl HAP.out ?_)
           go_roundw
           case rel=>exact ⟨b+1,by omega,by go_num,.slice Av nn cv,HN.out⟩
           case measure=>first|(simp[Go.RowKit.intOf];done)|(simp[Go.RowKit.intOf];omega)
         ·have hba:a=b:=by omega
          subst hba;have HS7:Hid (JN w wr p r (.slice none 0 0) lv [] lb∧Blk wr q 36 #[.slice A1 n1 k1,.slice none 0 0,.slice A3 a k3,.slice A4 0 k4]∧r<q):=by
           have:=HS.out;rw[List.take_of_length_le (by rw[HN3.out];exact Nat.le_refl _)] at this;exact this
          have q3:wr.cell? ⟨q,3,none⟩=some (.slice A4 0 k4):=(HS.out.2.1.cell 3).trans rfl;clear HS;go_wp2_with fail
          go_loopw [13] (fun jv W=>jv=.int .i64 0∧W=wr) (fun _ _=>0)
          case atStart=>exact ⟨rfl,rfl⟩
          case round=>
           obtain ⟨rfl,rfl⟩:=hrel;have q0:wr.cell? ⟨q,0,none⟩=some (.slice A1 n1 k1):=(HS7.out.2.1.cell 0).trans rfl;have r0:wr.cell? ⟨r,0,none⟩=some (.slice none 0 0):=(HS7.out.1.box.cell 0).trans rfl;have hpw:Below w.heap.size w wr:=by rw[HP.out];exact HS7.out.1.below
           have htw:RowOf wr (.slice A1 n1 k1) n1 (tx.map byt):=RowOf.lo HO.out.2.1 (Nat.le_refl _) hpw hpw.size;obtain ⟨v',W',e1,e2,e3,e4⟩:=app_any arowB 32 HS7.out.1.tx htw (by rw[List.length_map,HN1.out,Nat.mul_one]) (by
            intro y hy;obtain ⟨i,_,rfl⟩:=List.mem_map.1 hy
            rfl) (by simp[maxLen];omega) (by simp;omega) (by have:=HS7.out.1.box.lt;omega)
           have HAP:=Zh e1;have hk1:ZE (fun k=>(Value.slice none 0 0).ownBlock=some k) wr W':=(ZE.refl _ wr).grown e3 (fun g hg=>Or.inr hg);have e2':OwnB W' (r+1) v' tx:=by
            unfold OwnB;rw[HN1.out]
            simpa using e2
           have hJ:JN w (W'.setCell ⟨r,0,none⟩ v') p r v' lv tx lb:=HS7.out.1.text hk1 e2';have hno:∀g,¬(Value.slice none 0 0).ownBlock=some g:=fun g e=>by cases e
           have hqn:q≠r:=by have:=HS7.out.2.2;omega
           have hQ:=(HS7.out.2.1.keeps hk1 (hno _)).far (p:=⟨r,0,none⟩) hqn v';have hbx:=HS7.out.1.box.keeps hk1 (hno _);have d0:W'.cell? ⟨r,0,none⟩=some (.slice none 0 0):=(hbx.cell 0).trans rfl;have f0:=hbx.frozen 0;have HN:=Zh (Za hJ hQ);obtain ⟨Av,cv,rfl,-,-⟩:=ZR e2';clear e1 e2 e3 e4 hk1 e2' hJ hno hqn hQ hbx htw hpw HS7;go_upto_region 34 with (at_builtin;refine ZK rfl (.tmp 136) (.tmp 138) 32 rfl rfl rfl HAP.out ?_)
           clear HAP q0 r0 d0 f0 q3 q2;obtain ⟨W7,hW7⟩:∃W7,W'.setCell ⟨r,0,none⟩ (.slice Av tx.length cv)=W7:=⟨_,rfl⟩
           rw[hW7] at HN ⊢;clear hW7;have HAP:=Zh (append_nil arowB 32 W7 none 0 0 0 (Nat.le_refl _) (by decide));have q1:W7.cell? ⟨q,1,none⟩=some (.slice none 0 0):=(HN.out.2.cell 1).trans rfl;have r1:W7.cell? ⟨r,1,none⟩=some (.slice none 0 0):=(HN.out.1.box.cell 1).trans rfl;have f1:=HN.out.1.box.frozen 1;have HSC:=Zh (Zd (v:=.slice none 0 0) HN.out.1.box (i:=1) rfl);go_wp2_with (at_builtin;refine ZK rfl (.tmp 142) (.tmp 144) 32 rfl rfl rfl HAP.out ?_)
           have HN2:=Zh (show JN w (W7.setCell ⟨r,1,none⟩ (.slice none 0 0)) p r (.slice Av tx.length cv) lv tx lb from by rw[HSC.out];exact HN.out.1);refine ⟨?_,?measure⟩;iterate 60 apply Exists.intro
           repeat apply Exists.intro
           refine ⟨?rel,rfl⟩
           case rel=>
            exact ⟨1,by omega,by go_num,by show _;rw[if_neg (by omega)];exact ⟨_,_,HN2.out⟩⟩
           case measure=>first|(simp[Go.RowKit.intOf];done)|(simp[Go.RowKit.intOf];omega)
    ·have HJ:=HJK.out
     rw[if_neg (by omega)] at HJ;obtain ⟨tv,lv,hJ⟩:=HJ;clear HJK;obtain ⟨At,ct,rfl,-,-⟩:=ZR hJ.tx;obtain ⟨Al,cl,rfl,-,-⟩:=hJ.lb.form;have hrow:=hJ.lb.row;have hlb0:lb.length≤1000:=HG.out.len;have HOR:=Zh (ZDD (.slice At tx.length ct) (.slice Al lb.length cl) lb wr hrow ⟨_,_,_,rfl⟩ hlb0);rw[HN3.out,HN1.out] at HOR;have HJ:=Zh hJ;rw[HN3.out,HN1.out] at HJ;have r0:wr.cell? ⟨r,0,none⟩=some (.slice At n1 ct):=(HJ.out.box.cell 0).trans rfl;have r1:wr.cell? ⟨r,1,none⟩=some (.slice none 0 0):=(HJ.out.box.cell 1).trans rfl;have r2:wr.cell? ⟨r,2,none⟩=some (.slice Al n3 cl):=(HJ.out.box.cell 2).trans rfl;have r3:wr.cell? ⟨r,3,none⟩=some (.slice none 0 0):=(HJ.out.box.cell 3).trans rfl;clear hJ hrow hlb0;go_wp2_with fail
     refine HOR.out.mono ?_;rintro e w8 ⟨⟨lv',rfl,hl8⟩,hb8⟩;have HJ8:=Zh (HJ.out.bel hb8);have hrz:=HJ.out.box.lt;clear HOR r0 r1 r2 r3 hb8;obtain ⟨Av,cv,rfl,-,-⟩:=hl8.form;have HL8:=Zh hl8;rw[HN3.out] at HL8;rw[HN3.out];have r0:w8.cell? ⟨r,0,none⟩=some (.slice At n1 ct):=(HJ8.out.box.cell 0).trans rfl;have r1:w8.cell? ⟨r,1,none⟩=some (.slice none 0 0):=(HJ8.out.box.cell 1).trans rfl;have r2:w8.cell? ⟨r,2,none⟩=some (.slice Al n3 cl):=(HJ8.out.box.cell 2).trans rfl;have r3:w8.cell? ⟨r,3,none⟩=some (.slice none 0 0):=(HJ8.out.box.cell 3).trans rfl;have f0:=HJ8.out.box.frozen 0;have f1:=HJ8.out.box.frozen 1;have f2:=HJ8.out.box.frozen 2;have f3:=HJ8.out.box.frozen 3;have g0:w8.cell? ⟨p,0,none⟩=some (.slice none 0 0):=(HJ8.out.res.cell 0).trans rfl;have g1:w8.cell? ⟨p,1,none⟩=some (.slice none 0 0):=(HJ8.out.res.cell 1).trans rfl;have g2:w8.cell? ⟨p,2,none⟩=some (.slice none 0 0):=(HJ8.out.res.cell 2).trans rfl;have g3:w8.cell? ⟨p,3,none⟩=some (.slice none 0 0):=(HJ8.out.res.cell 3).trans rfl;have z0:w8.cell? ⟨p+1,0,none⟩=some (.int .i64 0):=(HJ8.out.flt.cell 0).trans rfl;have z1:w8.cell? ⟨p+1,1,none⟩=some (.int .i64 0):=(HJ8.out.flt.cell 1).trans rfl;have m0:=HJ8.out.res.frozen 0;have m1:=HJ8.out.res.frozen 1;have m2:=HJ8.out.res.frozen 2;have m3:=HJ8.out.res.frozen 3;have m4:=HJ8.out.flt.frozen 0;have m5:=HJ8.out.flt.frozen 1;have hpr:p+2≤r:=HJ8.out.pr;have np:¬r=p:=by omega
     have np1:¬r=p+1:=by omega
     have np2:¬p=r:=by omega
     have np3:¬p+1=r:=by omega
     clear hl8 HJ;go_wp2_with fail
     have hF4:=fill4_at HJ8.out.box (.slice At n1 ct) (.slice none 0 0) (.slice Av n3 cv) (.slice (some ⟨wr.heap.size+3,0,none⟩) 0 0);show bodyPost _ _ _ _ _ (ZDp (ZKO w8 r (.slice At n1 ct) (.slice none 0 0) (.slice Av n3 cv) (.slice (some ⟨wr.heap.size+3,0,none⟩) 0 0)) p (.slice At n1 ct) (.slice none 0 0) (.slice Av n3 cv) (.slice (some ⟨wr.heap.size+3,0,none⟩) 0 0) (.int .i64 0) (.int .i64 0));obtain ⟨w9,hw9⟩:∃w9,ZKO w8 r (.slice At n1 ct) (.slice none 0 0) (.slice Av n3 cv) (.slice (some ⟨wr.heap.size+3,0,none⟩) 0 0)=w9:=⟨_,rfl⟩
     rw[hw9] at hF4 ⊢;obtain ⟨-,hk9⟩:=hF4;have hF:=ZEz (HJ8.out.res.keeps hk9 (fun e=>np2 e)) (HJ8.out.flt.keeps hk9 (fun e=>np3 e)) (.slice At n1 ct) (.slice none 0 0) (.slice Av n3 cv) (.slice (some ⟨wr.heap.size+3,0,none⟩) 0 0) (.int .i64 0) (.int .i64 0);obtain ⟨W6,hW6⟩:∃W6,ZDp w9 p (.slice At n1 ct) (.slice none 0 0) (.slice Av n3 cv) (.slice (some ⟨wr.heap.size+3,0,none⟩) 0 0) (.int .i64 0) (.int .i64 0)=W6:=⟨_,rfl⟩
     rw[hW6] at hF ⊢;clear r0 r1 r2 r3 f0 f1 f2 f3 g0 g1 g2 g3 z0 z1 m0 m1 m2 m3 m4 m5 hw9 hW6;obtain ⟨h0,h1,hk⟩:=hF;have y0:=h0.cell 0;have y1:=h0.cell 1;have y2:=h0.cell 2;have y3:=h0.cell 3;have u0:=h1.cell 0;have u1:=h1.cell 1;refine bodyPost_ret (v:=.tuple #[.agg #[.slice At n1 ct,.slice none 0 0,.slice Av n3 cv,.slice (some ⟨wr.heap.size+3,0,none⟩) 0 0],.agg #[.int .i64 0,.int .i64 0]]) (by simp[results,Tryz.results69,y0,y1,y2,y3,u0,u1,go_sem]) rfl ?_;have hkk:ZE (fun k=>k=r∨k=p∨k=p+1) w8 W6:=(hk9.mono (fun i _ h=>Or.inl h)).trans hk (fun i _ h=>Or.inr h);refine ⟨⟨_,_,_,rfl,?_,?_⟩,?_⟩
     ·refine ZO (ZB HJ8.out.tx hkk (fun g hg h=>?_)) (by omega)
      have:=ZAB HJ8.out.tx hg;omega
     ·refine ZO (ZB HL8.out hkk (fun g hg h=>?_)) (by omega)
      have:=OwnL.ge HL8.out g hg;omega
     ·exact HJ8.out.below.trans (hkk.toBelow (by have:=HJ8.out.flt.lt;omega) (fun k hk h=>by omega))
end Go.Proofs.YtggmkofbikafhaaGreatDoor
