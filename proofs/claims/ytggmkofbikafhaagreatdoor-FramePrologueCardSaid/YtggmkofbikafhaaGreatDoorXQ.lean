/- Walks and plain laws on the way to FramePrologue (XK, XL, XN, XP, XQ). Conditions: those that each theorem states. -/
import Derived.Deep.CutRange
import Derived.Test.YtggmkofbikafhaaGreatDoorXH
set_option linter.unusedVariables false
set_option linter.unusedSimpArgs false
set_option maxRecDepth 100000
set_option maxHeartbeats 40000000
namespace Go.Proofs.YtggmkofbikafhaaGreatDoor
open Go.RowKit Go.Lib
theorem StP.after {gs:Nat} {tv lv:Value} {tx:List UInt8} {lb:List Lb} {W W' W'':World} (h:StP gs tv lv tx lb W W') (hb:Below W'.heap.size W' W''):StP gs tv lv tx lb W W'':=by
 obtain ⟨⟨tv',lv',h1,h2,h3⟩,hk⟩:=h;exact ⟨⟨tv',lv',h1.below hb,h2,h3⟩,hk.trans (ZC (fun _=>False) hb) (fun _ _ q=>absurd q id)⟩
theorem code_ins (gs o d a b i:Nat) (tv lv pv:Value) (tx:List UInt8) (lb:List Lb) (l:List (List UInt8)) (w:World) (h:StV w gs tv lv tx lb) (hp:Strs w pv l) (hpl:l.length≤100) (hpb:∀x∈l,x.length≤1000) (hj:ZBE l l.length=printL o d a b i)
  (hch:ZA9 o d a b i=true) (hd:d≤15) (ha:a≤15) (hb:b≤15) (hi:i≤32767) (hl:tx.length≤1000000) (h4:tx.length%4=0) :
  Calls Tryz.prog 68 #[.pointer (some ⟨gs,0,none⟩),pv] w fun e w'=>e=.returned (.bool true)∧StP gs tv lv (tx++wB (encN o d a b i)) lb w w':=by
 have HJ:=Zh (ZEN l pv w hp hpl hpb);rw[hj] at HJ;have h32:RF o≠32:=by
  have h9:=hch;unfold ZA9 at h9;simp only[Bool.and_eq_true,decide_eq_true_eq] at h9;exact h9.1.1.1.1
 have ho:=(RF_op o h32).2;have hlen:(printL o d a b i).length≤65536:=by
  have h1:=ZBM (o-1);have h2:=ZCB (d:=d) (a:=a) (b:=b) (i:=i) (by omega) (by omega) (by omega) (by omega) (ZT o);have h3:=ZAa o;unfold printL;rw[List.length_append];omega
 have HP:=Zh (fun W=>parse_any (printL o d a b i) _ _ (insV o d a b i) 0 W ⟨ZFz o d a b i,hlen,Or.inr ⟨o,d,a,b,i,hch,rfl,⟨by omega,by omega,by omega,by omega⟩,rfl,rfl⟩⟩);have HI:=Zh (fun W hW s=>ZEP gs o d a b i tv lv tx lb W hW hch ho hd ha hb hi hl h4 s);have H:=Zh h;obtain ⟨A,c,rfl,-,-⟩:=RowOf.form hp;unfold insV at HP;clear h hp hj hch h32 hlen h4;go_enter Tryz.func68,Tryz.ntmps68
 go_wp2_with fail
 refine HJ.out.mono ?_;rintro e w1 ⟨rfl,rfl⟩;go_wp2_with fail
 refine (HP.out _).mono ?_;rintro e w2 ⟨rfl,hb2⟩;have hal:=ZV w2 (.cells #[.int .i64 o,.int .i64 d,.int .i64 a,.int .i64 b,.int .i64 i] 127);have H2:=Zh (show StV (w2.alloc (.cells #[.int .i64 o,.int .i64 d,.int .i64 a,.int .i64 b,.int .i64 i] 127)) gs tv lv tx lb∧Below w1.heap.size w1 (w2.alloc (.cells #[.int .i64 o,.int .i64 d,.int .i64 a,.int .i64 b,.int .i64 i] 127)) from ⟨(H.out.below hb2).below hal,hb2.trans (ZA hal hb2.size)⟩);clear hb2 hal HJ HP;go_wp2_with fail
 refine (HI.out _ H2.out.1 _).mono ?_;rintro e w3 ⟨rfl,h3⟩;have HN:=Zh (h3.of H2.out.2 H2.out.2.size);clear h3;go_wp2_with fail
 go_ret;exact ⟨rfl,HN.out⟩
def ZDW:List UInt8:=[99,111,110,115,116]
theorem ZIf (gs d n:Nat) (tv lv pv:Value) (tx:List UInt8) (lb:List Lb) (w:World) (h:StV w gs tv lv tx lb) (hp:Strs w pv [ZDW,114::decDigits d,decDigits n]) (hd:d≤15) (hn:n≤32767) (hl:tx.length≤1000000) (h4:tx.length%4=0) :
  Calls Tryz.prog 68 #[.pointer (some ⟨gs,0,none⟩),pv] w fun e w'=>e=.returned (.bool true)∧StP gs tv lv (tx++wB (encN 25 d 0 0 n)) lb w w':=by
 have hdl:(decDigits d).length≤12:=ZQ (k:=12) (by omega) (by decide);have hnl:(decDigits n).length≤12:=ZQ (k:=12) (by omega) (by decide);have hpb:∀x∈[ZDW,114::decDigits d,decDigits n],x.length≤1000:=by
  intro x hx;simp only[List.mem_cons,List.not_mem_nil,or_false] at hx;rcases hx with rfl|rfl|rfl
  ·decide
  ·simp;omega
  ·omega
 have HJ:=Zh (ZEN _ pv w hp (by simp) hpb);have hj:ZBE [ZDW,114::decDigits d,decDigits n] 3=ZDW++[114::decDigits d,decDigits n].flatMap (fun t=>32::t):=by
  simp[ZBE]
 rw[show [ZDW,114::decDigits d,decDigits n].length=3 from rfl,hj] at HJ;have hcut:cutR [] (ZDW++[114::decDigits d,decDigits n].flatMap (fun t=>32::t))=ZDW::[114::decDigits d,decDigits n]:=by
  refine ZCY ZDW (by decide) _ ?_;intro t ht;simp only[List.mem_cons,List.not_mem_nil,or_false] at ht;rcases ht with rfl|rfl
  ·intro c hc
   rcases List.mem_cons.1 hc with rfl|hc
   ·decide
   ·exact ZBf d c hc
  ·exact ZBf n
 have HP:=Zh (fun W=>parse_any _ _ _ (insV 0 0 0 0 0) 2 W ⟨hcut,by simp[ZDW];omega,Or.inl ⟨by decide +kernel,by simp,rfl,rfl⟩⟩);obtain ⟨jl,hjl⟩:∃jl,ZDW++[114::decDigits d,decDigits n].flatMap (fun t=>32::t)=jl:=⟨_,rfl⟩
 rw[hjl] at HJ HP;have HR:=Zh (fun W=>reg5_any (decDigits d) W (Dg.dec (by omega)));rw[ZAP,show decide (((d:Nat):Int)≤15)=true by simp;omega] at HR;have HNU:=Zh (fun W=>ZHT (decDigits n) (-2147483648) 4294967295 W (Dg.dec (by omega)) (by rw[ZAP];omega) (by rw[ZAP];omega) (by decide));rw[ZAP] at HNU;have HC:=Zh (fun W=>ZIe d n W hd hn);have hchk:ZA9 ((25:Nat):Int) d ((0:Nat):Int) ((0:Nat):Int) n=true:=by
  unfold ZA9;rw[show RF ((25:Nat):Int)=76 by decide,show inB 76 100=true by decide,show inB 76 97=false by decide,show inB 76 98=false by decide];unfold regOk rfB;simp;omega
 have HI:=Zh (fun W hW s=>ZEP gs 25 d 0 0 n tv lv tx lb W hW hchk (by decide) hd (by decide) (by decide) hn hl h4 s);have H:=Zh h;have HPV:=Zh hp;obtain ⟨g,off,cap,rfl,-,-,hg,hcc⟩:=hp.open_ (by simp);rw[show [ZDW,114::decDigits d,decDigits n].length=3 from rfl] at HJ ⊢;have Y:=Zh (show w.cell? ⟨g,off,none⟩=some (.string (str ZDW))∧w.cell? ⟨g,off+1,none⟩=some (.string (str (114::decDigits d)))∧w.cell? ⟨g,off+2,none⟩=some (.string (str (decDigits n))) from
  ⟨by have:=hcc 0 (by simp);rw[Nat.add_zero] at this;exact this,hcc 1 (by simp),hcc 2 (by simp)⟩)
 unfold insV at HP;obtain ⟨kt,hkt⟩:∃kt,str ZDW=kt:=⟨_,rfl⟩
 rw[hkt] at Y;have k1:(kt.toList==(⟨#[98,122]⟩:ByteArray).toList)=false:=by rw[←hkt,show (⟨#[98,122]⟩:ByteArray)=str [98,122] from rfl,ZCO];decide
 have k2:(kt.toList==(⟨#[98,110,122]⟩:ByteArray).toList)=false:=by rw[←hkt,show (⟨#[98,110,122]⟩:ByteArray)=str [98,110,122] from rfl,ZCO];decide
 have k3:(kt.toList==(⟨#[108,97]⟩:ByteArray).toList)=false:=by rw[←hkt,show (⟨#[108,97]⟩:ByteArray)=str [108,97] from rfl,ZCO];decide
 have k4:(kt.toList==(⟨#[99,111,110,115,116]⟩:ByteArray).toList)=true:=by rw[←hkt,show (⟨#[99,111,110,115,116]⟩:ByteArray)=str ZDW from rfl,ZCO];decide
 have k1':(kt.toList == [98,122])=false:=by rw[←hkt,Lib.toList_data,ZU];decide
 have k2':(kt.toList == [98,110,122])=false:=by rw[←hkt,Lib.toList_data,ZU];decide
 have k3':(kt.toList == [108,97])=false:=by rw[←hkt,Lib.toList_data,ZU];decide
 have k4':(kt.toList == [99,111,110,115,116])=true:=by rw[←hkt,Lib.toList_data,ZU];decide
 clear hkt;clear h hp hj hjl hcut hpb hchk hdl hnl h4 hcc;go_enter Tryz.func68,Tryz.ntmps68
 go_wp2_with fail
 refine HJ.out.mono ?_;rintro e w1 ⟨rfl,rfl⟩;go_wp2_with fail
 refine (HP.out _).mono ?_;rintro e w2 ⟨rfl,hb2⟩;have hal:=ZV w2 (.cells #[.int .i64 0,.int .i64 0,.int .i64 0,.int .i64 0,.int .i64 0] 127);have hB:=hb2.trans (ZA hal hb2.size);have H2:=Zh (show StV (w2.alloc (.cells #[.int .i64 0,.int .i64 0,.int .i64 0,.int .i64 0,.int .i64 0] 127)) gs tv lv tx lb∧Below w1.heap.size w1 (w2.alloc (.cells #[.int .i64 0,.int .i64 0,.int .i64 0,.int .i64 0,.int .i64 0] 127)) from ⟨(H.out.below hb2).below hal,hB⟩);have y0:=(hB.cell (p:=⟨g,off,none⟩) hg).trans Y.out.1;have y1:=(hB.cell (p:=⟨g,off+1,none⟩) hg).trans Y.out.2.1;have y2:=(hB.cell (p:=⟨g,off+2,none⟩) hg).trans Y.out.2.2;clear hb2 hal hB HJ HP H HPV;have e2:((3:Int)==2)=false:=by decide
 have e3:((3:Int)==3)=true:=by decide
 have e4:((3:Int)==4)=false:=by decide
 go_wp2_with fail
 refine (HR.out _).mono ?_;rintro e w3 ⟨rfl,rfl⟩;go_wp2_with fail
 refine (HNU.out _).mono ?_;rintro e w3 ⟨rfl,rfl⟩;have h2:=H2.out;obtain ⟨W2,hW2⟩:∃W2,w2.alloc (.cells #[.int .i64 0,.int .i64 0,.int .i64 0,.int .i64 0,.int .i64 0] 127)=W2:=⟨_,rfl⟩
 rw[hW2] at h2;have hal3:=ZV W2 (.cells #[.int .i64 25,.int .i64 (d:Int),.int .i64 0,.int .i64 0,.int .i64 (n:Int)] 127);obtain ⟨gI,hgI⟩:∃gI,W2.heap.size=gI:=⟨_,rfl⟩
 have hX:=Blk.new W2 127 #[.int .i64 25,.int .i64 (d:Int),.int .i64 0,.int .i64 0,.int .i64 (n:Int)];obtain ⟨W3,hW3⟩:∃W3,W2.alloc (.cells #[.int .i64 25,.int .i64 (d:Int),.int .i64 0,.int .i64 0,.int .i64 (n:Int)] 127)=W3:=⟨_,rfl⟩
 rw[hW3,hgI] at hX;rw[hW3] at hal3;have H3:=Zh (show Blk W3 gI 127 #[.int .i64 25,.int .i64 (d:Int),.int .i64 0,.int .i64 0,.int .i64 (n:Int)]∧StV W3 gs tv lv tx lb∧Below w1.heap.size w1 W3 from ⟨hX,h2.1.below hal3,h2.2.trans (ZA hal3 h2.2.size)⟩);have HE:=Zh (Za hW2 (Za hW3 hgI));clear y0 y1 y2 h2 hW2 hal3 hX hW3 hgI H2 HR HNU Y;go_wp2_with fail
 refine (HC.out _).mono ?_;rintro e w4 ⟨rfl,rfl⟩;rw[HE.out.1,HE.out.2.1,HE.out.2.2];clear HE HC;go_wp2_with fail
 go_loopw [14,11] (fun iv ok wr=>∃k:Nat,k≤1∧iv=.int .i64 k∧ok=.bool true∧Hid (k=0→wr=W3)∧Hid (k=1→StP gs tv lv (tx++wB (encN 25 d 0 0 n)) lb w1 wr)) (fun iv _ _=>1-(intOf iv).toNat)
 case atStart=>exact ⟨0,by decide,rfl,rfl,fun _=>rfl,fun h=>absurd h (by decide)⟩
 case round=>
  obtain ⟨k,hk,rfl,rfl,HA,HB⟩:=hrel;rcases Nat.lt_or_ge k 1 with hlt|hge
  ·have hk0:k=0:=by omega
   subst hk0;obtain rfl:=HA.out rfl;obtain ⟨q0,q1,q2,q3,q4⟩:=ZFx H3.out.1;have HI2:=Zh (fun s=>HI.out _ H3.out.2.1 s);clear HA HB HI;go_wp2_with fail
   refine (HI2.out _).mono ?_;rintro e w5 ⟨rfl,h5⟩;have HN:=Zh (h5.of H3.out.2.2 H3.out.2.2.size);clear h5 q0 q1 q2 q3 q4;go_wp2_with fail
   go_roundw
   case rel=>exact ⟨1,by decide,by go_num,rfl,fun h=>absurd h (by decide),fun _=>HN.out⟩
   case measure=>simp[intOf]<;>omega
  ·have hk1:k=1:=by omega
   subst hk1;have HN:=Zh (HB.out rfl);clear HA HB;go_wp2_with fail
   go_ret;exact ⟨rfl,HN.out⟩
def dotW:List UInt8:=[46,119,111,114,100]
theorem dir_word (gs:Nat) (tv lv pv:Value) (tx:List UInt8) (lb:List Lb) (w:World) (h:StV w gs tv lv tx lb) (hp:Strs w pv [dotW,decDigits 0]) (hl:tx.length≤1000000) :
  Calls Tryz.prog 67 #[.pointer (some ⟨gs,0,none⟩),pv] w fun e w'=>e=.returned (.bool true)∧StP gs tv lv (tx++wB 0) lb w w':=by
 have HNU:=Zh (fun W=>ZHT (decDigits 0) (-2147483648) 4294967295 W (Dg.dec (by omega)) (by rw[ZAP];omega) (by rw[ZAP];omega) (by decide));rw[ZAP] at HNU;have HW:=Zh (fun W hW=>ZFP gs 0 tv lv tx lb W hW (by decide) hl);have H:=Zh h;obtain ⟨g,off,cap,rfl,-,-,hg,hcc⟩:=hp.open_ (by simp);rw[show [dotW,decDigits 0].length=2 from rfl];have y0:w.cell? ⟨g,off,none⟩=some (.string (str dotW)):=by have:=hcc 0 (by simp);rw[Nat.add_zero] at this;exact this
 have y1:w.cell? ⟨g,off+1,none⟩=some (.string (str (decDigits 0))):=hcc 1 (by simp);obtain ⟨kt,hkt⟩:∃kt,str dotW=kt:=⟨_,rfl⟩
 obtain ⟨nt,hnt⟩:∃nt,str (decDigits 0)=nt:=⟨_,rfl⟩
 rw[hkt] at y0;rw[hnt] at y1 HNU;have k0:(kt.toList==(⟨#[46,116,101,120,116]⟩:ByteArray).toList)=false:=by rw[←hkt,show (⟨#[46,116,101,120,116]⟩:ByteArray)=str [46,116,101,120,116] from rfl,ZCO];decide
 have l0:(kt.toList == [46,116,101,120,116])=false:=by rw[←hkt,Lib.toList_data,ZU];decide
 have m0:(kt.toList != (⟨#[46,116,101,120,116]⟩:ByteArray).toList) = !false:=by rw[bne,k0]
 have k1:(kt.toList==(⟨#[46,100,97,116,97]⟩:ByteArray).toList)=false:=by rw[←hkt,show (⟨#[46,100,97,116,97]⟩:ByteArray)=str [46,100,97,116,97] from rfl,ZCO];decide
 have l1:(kt.toList == [46,100,97,116,97])=false:=by rw[←hkt,Lib.toList_data,ZU];decide
 have m1:(kt.toList != (⟨#[46,100,97,116,97]⟩:ByteArray).toList) = !false:=by rw[bne,k1]
 have k2:(kt.toList==(⟨#[46,98,121,116,101]⟩:ByteArray).toList)=false:=by rw[←hkt,show (⟨#[46,98,121,116,101]⟩:ByteArray)=str [46,98,121,116,101] from rfl,ZCO];decide
 have l2:(kt.toList == [46,98,121,116,101])=false:=by rw[←hkt,Lib.toList_data,ZU];decide
 have m2:(kt.toList != (⟨#[46,98,121,116,101]⟩:ByteArray).toList) = !false:=by rw[bne,k2]
 have k3:(kt.toList==(⟨#[46,103,108,111,98,97,108]⟩:ByteArray).toList)=false:=by rw[←hkt,show (⟨#[46,103,108,111,98,97,108]⟩:ByteArray)=str [46,103,108,111,98,97,108] from rfl,ZCO];decide
 have l3:(kt.toList == [46,103,108,111,98,97,108])=false:=by rw[←hkt,Lib.toList_data,ZU];decide
 have m3:(kt.toList != (⟨#[46,103,108,111,98,97,108]⟩:ByteArray).toList) = !false:=by rw[bne,k3]
 have k4:(kt.toList==(⟨#[46,97,108,105,103,110]⟩:ByteArray).toList)=false:=by rw[←hkt,show (⟨#[46,97,108,105,103,110]⟩:ByteArray)=str [46,97,108,105,103,110] from rfl,ZCO];decide
 have l4:(kt.toList == [46,97,108,105,103,110])=false:=by rw[←hkt,Lib.toList_data,ZU];decide
 have m4:(kt.toList != (⟨#[46,97,108,105,103,110]⟩:ByteArray).toList) = !false:=by rw[bne,k4]
 have k5:(kt.toList==(⟨#[46,115,112,97,99,101]⟩:ByteArray).toList)=false:=by rw[←hkt,show (⟨#[46,115,112,97,99,101]⟩:ByteArray)=str [46,115,112,97,99,101] from rfl,ZCO];decide
 have l5:(kt.toList == [46,115,112,97,99,101])=false:=by rw[←hkt,Lib.toList_data,ZU];decide
 have m5:(kt.toList != (⟨#[46,115,112,97,99,101]⟩:ByteArray).toList) = !false:=by rw[bne,k5]
 have k6:(kt.toList==(⟨#[46,119,111,114,100]⟩:ByteArray).toList)=true:=by rw[←hkt,show (⟨#[46,119,111,114,100]⟩:ByteArray)=str [46,119,111,114,100] from rfl,ZCO];decide
 have l6:(kt.toList == [46,119,111,114,100])=true:=by rw[←hkt,Lib.toList_data,ZU];decide
 have m6:(kt.toList != (⟨#[46,119,111,114,100]⟩:ByteArray).toList) = !true:=by rw[bne,k6]
 clear h hp hcc hkt hnt;go_enter Tryz.func67,Tryz.ntmps67
 go_wp2_with fail
 refine (HNU.out _).mono ?_;rintro e w3 ⟨rfl,rfl⟩;go_wp2_with fail
 refine (HW.out _ H.out).mono ?_;rintro e w3 ⟨rfl,h3⟩;have HN:=Zh h3;clear h3;go_wp2_with fail
 go_ret;exact ⟨rfl,HN.out⟩
theorem ZIJ (gs:Nat) (tv lv:Value) (tx nm:List UInt8) (lb:List Lb) (n:Int) (w:World) (h:StV w gs tv lv tx lb) (hL:Low nm) (hnew:∀x∈lb,x.nm≠nm) (hpt:partR [] (nm++[58])=[nm++[58]]) (hno:∀c∈nm++[58],c.toNat≠59∧c.toNat≠9) (hlb:lb.length≤1000) (hl:tx.length≤1000000) :
  Calls Tryz.prog 27 #[.pointer (some ⟨gs,0,none⟩),.string (str (nm++[58])),.int .i64 n] w fun e w'=>e=.returned (.int .i64 0)∧StP gs tv lv tx (lb++[⟨nm,tx.length⟩]) w w':=by
 have HP:=Zh (ZB5 (nm++[58]) w (by have:=hL.le;simp;omega) hno);rw[hpt] at HP;have HS:=Zh (fun W=>ZI7 nm W hL);have HLB:=Zh (fun W hW=>ZJy gs tv lv tx nm lb W hW hnew hlb hl);have hs1:(str (nm++[58])).size=nm.length+1:=by rw[Zb];simp
 have hs2:∀hh:nm.length<(str (nm++[58])).size,((str (nm++[58]))[nm.length]'hh)=58:=by
  intro hh;rw[ZAu hh];simp
 have hs3:(str (nm++[58])).extract 0 nm.length=str nm:=by
  rw[ZAA];simp
 have hn60:=hL.le;obtain ⟨s,hs⟩:∃s,str (nm++[58])=s:=⟨_,rfl⟩
 rw[hs] at hs1 hs2 hs3 HP ⊢;obtain ⟨t,ht⟩:∃t,nm++[58]=t:=⟨_,rfl⟩
 rw[ht] at HP;have hs':str t=s:=by rw[←ht];exact hs
 obtain ⟨m,hm⟩:∃m,nm.length=m:=⟨_,rfl⟩
 rw[hm] at hs1 hs2 hs3 hn60;have hlt:m<s.size:=by omega
 have h58:(s[m]'hlt).toNat=58:=by rw[hs2 hlt];rfl
 have h58b:(s[m]'hlt)=58:=hs2 hlt;have H:=Zh h;have HLEN:=Zh hlb;clear h hs2 hs ht hpt hno hnew hL hm;go_enter Tryz.func27,Tryz.ntmps27
 go_wp2_with fail
 refine HP.out.mono ?_;rintro e w1 ⟨⟨v,rfl,ho⟩,hb1⟩;obtain ⟨g,off,cap,rfl,-,-,hg,hcc⟩:=ho.strs.open_ (by simp);have y0:w1.cell? ⟨g,off,none⟩=some (.string s):=by have:=hcc 0 (by simp);rw[Nat.add_zero] at this;rw[←hs'];exact this
 have HB1:=Zh hb1;rw[show ([t]:List (List UInt8)).length=1 from rfl];clear hb1 ho hcc HP;go_wp2_with fail
 refine (HS.out _).mono ?_;rintro e w2 ⟨rfl,hb2⟩;have z0:w2.cell? ⟨g,off,none⟩=some (.string s):=(hb2.cell (p:=⟨g,off,none⟩) (cell_lt y0)).trans y0;have HB2:=Zh (show Below w.heap.size w w2 from HB1.out.trans (ZA hb2 HB1.out.size));clear hb2 y0;go_wp2_with fail
 refine (HLB.out _ (H.out.below HB2.out)).mono ?_;rintro e w3 ⟨rfl,h3⟩;have HN:=Zh (h3.of HB2.out HB2.out.size);obtain ⟨⟨tv',lv',hst,-,-⟩,-⟩:=h3;have d0:w3.cell? ⟨gs,0,none⟩=some tv':=(hst.b.cell 0).trans rfl;have d1:w3.cell? ⟨gs,1,none⟩=some (.slice none 0 0):=(hst.b.cell 1).trans rfl;have d2:w3.cell? ⟨gs,2,none⟩=some lv':=(hst.b.cell 2).trans rfl;have d3:w3.cell? ⟨gs,3,none⟩=some (.slice none 0 0):=(hst.b.cell 3).trans rfl;obtain ⟨At,ct,rfl,-,-⟩:=ZR hst.t;obtain ⟨Al,cl,rfl,-,-⟩:=ZAn hst.l;have hq:(lb++[(⟨nm,tx.length⟩:Lb)]).length≤1001:=by have:=HLEN.out;simp;omega
 obtain ⟨lb2,e2⟩:∃l,lb++[(⟨nm,tx.length⟩:Lb)]=l:=⟨_,rfl⟩
 rw[e2] at hq HN d2 hst;have E2:=Zh e2;clear hst z0 e2;go_wp2_with fail
 go_ret;exact ⟨rfl,by rw[E2.out];exact HN.out⟩
theorem ZFn (gs:Nat) (tv lv:Value) (tx b l p0:List UInt8) (pr:List (List UInt8)) (lb:List Lb) (n:Int) (w:World) (h:StV w gs tv lv tx lb) (hll:l.length≤1000) (hpt:partR [] l=p0::pr) (hpr:0<pr.length) (hpl:pr.length≤100) (h0:0<p0.length) (h0l:p0.length≤1000) (hdot:∀c,p0[0]? = some c→c.toNat≠46) (hno:∀c∈l,c.toNat≠59∧c.toNat≠9) (hlb:lb.length≤1000) (hl:tx.length+b.length≤1000000)
  (HC:∀W pv,StV W gs tv lv tx lb→Strs W pv (p0::pr)→Calls Tryz.prog 68 #[.pointer (some ⟨gs,0,none⟩),pv] W fun e w'=>e=.returned (.bool true)∧StP gs tv lv (tx++b) lb W w') :
  Calls Tryz.prog 27 #[.pointer (some ⟨gs,0,none⟩),.string (str l),.int .i64 n] w fun e w'=>e=.returned (.int .i64 0)∧StP gs tv lv (tx++b) lb w w':=by
 have HP:=Zh (ZB5 l w (by omega) hno);rw[hpt] at HP;have HC:=Zh HC;have hs1:(str p0).size=p0.length:=Zb p0;have hlt:0<(str p0).size:=by omega
 have hc:((str p0)[0]'hlt).toNat≠46:=by
  rw[ZAu hlt];exact hdot _ (List.getElem?_eq_getElem h0)
 obtain ⟨s,hs⟩:∃s,str p0=s:=⟨_,rfl⟩
 have HSS:=Zh hs;obtain ⟨m,hm⟩:∃m,pr.length=m:=⟨_,rfl⟩
 have hsl:s.size≤1000:=by rw[←hs];omega
 simp only[hs] at hlt hc;obtain ⟨c,hcc⟩:∃c:Nat,(s[0]'hlt).toNat=c:=⟨_,rfl⟩
 rw[hcc] at hc;have hc46:((c:Int)==46)=false:=by
  have:(c:Int)≠46:=by omega
  simpa using this
 have hm1:((m:Int)+1==1)=false:=by
  have:(m:Int)+1≠1:=by omega
  simpa using this
 have hm0:((m:Int)+1==0)=false:=by
  have:(m:Int)+1≠0:=by omega
  simpa using this
 obtain ⟨sl,hsl'⟩:∃sl,str l=sl:=⟨_,rfl⟩
 rw[hsl'] at HP ⊢;have H:=Zh h;have HT:=Zh hl;have hmb:m≤100:=by omega
 clear h hs hpt hno hs1 hdot hsl' hl hll h0 h0l hpl hc;go_enter Tryz.func27,Tryz.ntmps27
 go_wp2_with fail
 refine HP.out.mono ?_;rintro e w1 ⟨⟨v,rfl,ho⟩,hb1⟩;have HO:=Zh ho.strs;obtain ⟨g,off,cap,rfl,-,-,hg,hcl⟩:=ho.strs.open_ (by simp);have y0:w1.cell? ⟨g,off,none⟩=some (.string s):=by have:=hcl 0 (by simp);rw[Nat.add_zero] at this;rw[←HSS.out];exact this
 have HB1:=Zh hb1;have hlen:(p0::pr).length=m+1:=by rw[List.length_cons,hm]
 rw[hlen] at HO ⊢;clear hb1 ho hcl HP hlen hm hpr HSS;go_wp2_with fail
 refine (HC.out _ _ (H.out.below HB1.out) HO.out).mono ?_;rintro e w3 ⟨rfl,h3⟩;have HN:=Zh (h3.of HB1.out HB1.out.size);obtain ⟨⟨tv',lv',hst,-,-⟩,-⟩:=h3;have d0:w3.cell? ⟨gs,0,none⟩=some tv':=(hst.b.cell 0).trans rfl;have d1:w3.cell? ⟨gs,1,none⟩=some (.slice none 0 0):=(hst.b.cell 1).trans rfl;have d2:w3.cell? ⟨gs,2,none⟩=some lv':=(hst.b.cell 2).trans rfl;have d3:w3.cell? ⟨gs,3,none⟩=some (.slice none 0 0):=(hst.b.cell 3).trans rfl;obtain ⟨At,ct,rfl,-,-⟩:=ZR hst.t;obtain ⟨Al,cl,rfl,-,-⟩:=ZAn hst.l;have hq:(tx++b).length≤1000000:=by have:=HT.out;simp;omega
 obtain ⟨tx2,e2⟩:∃l,tx++b=l:=⟨_,rfl⟩
 rw[e2] at hq HN d0 hst;have E2:=Zh e2;clear hst y0 e2;go_wp2_with fail
 go_ret;exact ⟨rfl,by rw[E2.out];exact HN.out⟩
end Go.Proofs.YtggmkofbikafhaaGreatDoor
