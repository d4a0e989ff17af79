/- Walks and plain laws on the way to FramePrologue (MSU, MSI). Conditions: those that each theorem states. -/
import Derived.Test.YtggmkofbikafhaaGreatDoorMSR
set_option linter.unusedVariables false
set_option linter.unusedSimpArgs false
set_option maxRecDepth 100000
set_option maxHeartbeats 40000000
namespace Go.Proofs.YtggmkofbikafhaaGreatDoor
open Go.RowKit Go.Lib
theorem step_U (B bm gm:Nat) (iv:Value) (k:Int) (rg:List Nat) (pc:Nat) (en co:Int) (ns:List Area) (d a b i v:Nat) (w:World) (h:MAt w bm gm iv k ⟨rg,pc,false,en,co,ns⟩) (hk:k≤1000) (hpc:pc≤100000) (hB:B≤bm) (hR:∀g∈rowsOf ns,B≤g) (hBw:B≤w.heap.size)
  (hf:fetchR ns pc=((v:Int),0)) (hd:ZBU v 2 d a b (i:Int)) (hd15:d≤15) (ha15:a≤15) (hb15:b≤15) (hi:i≤32767) :
  Calls Tryz.prog 14 #[.pointer (some ⟨bm,0,none⟩)] w (ZAK B bm gm iv k ⟨rg,pc,false,en,co,ns⟩ ⟨rg.set d ((rg.getD a 0+4294967296-rg.getD b 0)%4294967296),pc+4,false,en,co,ns⟩ w):=by
 have HFE:Hid (∀W,ZW W gm ns→Calls Tryz.prog 37 #[.pointer (some ⟨gm,0,none⟩),.int .u32 (pc:Int)] W fun e w'=>e=.returned (.tuple #[.int .u32 (v:Int),.int .i64 0])∧Below W.heap.size W w'):=fun W hW=>by
  have:=Zp gm ns pc W hW (by omega) (by omega);rw[hf] at this;exact this
 have HD:=Zh hd;have H:=Zh h;have HB:=Zh (Za hB (Za hR hBw));obtain ⟨s2,hs2⟩:∃s2:MSt,⟨rg.set d ((rg.getD a 0+4294967296-rg.getD b 0)%4294967296),pc+4,false,en,co,ns⟩=s2:=⟨_,rfl⟩
 have HS2:=Zh hs2;rw[hs2];have h1:=h.alloc (.cells #[.int .i64 0,.int .i64 0,.int .i64 0] 64);have HW1:=Zh (Za h1 (Za (Blk.new w 64 #[.int .i64 0,.int .i64 0,.int .i64 0]) (ZV w (.cells #[.int .i64 0,.int .i64 0,.int .i64 0] 64))));have hk0:=h.k0;have hkw:IntKind.i64.wrap (k+1)=k+1:=IntWalk.i64_in _ (by omega);clear h hf hd hB hR hBw hs2;go_enter Tryz.func14,Tryz.ntmps14
 go_upto_region 1 with fail
 obtain ⟨p,hp⟩:∃p,w.heap.size=p:=⟨_,rfl⟩
 obtain ⟨w1,hw1⟩:∃w1,w.alloc (.cells #[.int .i64 0,.int .i64 0,.int .i64 0] 64)=w1:=⟨_,rfl⟩
 rw[hw1,hp] at HW1 ⊢;have HP:=Zh hp;clear hw1 hp;have c22:=HW1.out.1.ov;have c18:=HW1.out.1.st;have f18:=HW1.out.1.b.frozen 18;have c17:(w1.setCell ⟨bm,18,none⟩ (.int .i64 (k+1))).cell? ⟨bm,17,none⟩=some (.int .i64 (pc:Int)):=(HW1.out.1.setSt (k':=k+1) (by omega) (by omega)).pc;dsimp only at c22 c18;go_upto_region 5 with fail
 have hb12:ZAW B w (w1.setCell ⟨bm,18,none⟩ (.int .i64 (k+1))):=(ZAW.of (by rw[HP.out];exact HW1.out.2.2) HB.out.2.2).kp ((ZE.refl (· = bm) w1).setCell (p:=⟨bm,18,none⟩) (Or.inr rfl) _) (by have:=HW1.out.1.lt;have:=HB.out.1;omega) (fun g hg e=>by have:=HB.out.1;omega) (fun g cs hg e=>by subst e;exact absurd (hg.kind HW1.out.1.b) (by decide));have HW2:=Zh (Za (HW1.out.1.setSt (k':=k+1) (by omega) (by omega)) (Za (HW1.out.2.1.keeps ((ZE.refl (· = bm) w1).setCell (p:=⟨bm,18,none⟩) (Or.inr rfl) (.int .i64 (k+1))) (fun e=>by
  subst e;exact absurd (HW1.out.2.1.kind HW1.out.1.b) (by decide))) hb12))
 clear hb12 h1 HW1 c22 c18 f18 c17 H;obtain ⟨w2,hw2⟩:∃w2,w1.setCell ⟨bm,18,none⟩ (.int .i64 (k+1))=w2:=⟨_,rfl⟩
 rw[hw2] at HW2 ⊢;obtain ⟨pe,hpe1⟩:∃pe,w1.heap.size=pe:=⟨_,rfl⟩
 have hpe:w2.heap.size=pe:=by rw[←hw2,←hpe1];simp[World.setCell]
 rw[hpe1];clear hw2 hpe1;have HW3:=Zh (Za (HW2.out.1.alloc (.cells #[.int .i64 (pc:Int),.int .i64 0,.int .i64 0] 64)) (Za (HW2.out.2.1.alloc (.cells #[.int .i64 (pc:Int),.int .i64 0,.int .i64 0] 64)) (Za (Blk.new w2 64 #[.int .i64 (pc:Int),.int .i64 0,.int .i64 0]) (Za (HW2.out.2.2.bel (ZV w2 (.cells #[.int .i64 (pc:Int),.int .i64 0,.int .i64 0] 64)) (by have:=HW2.out.1.lt;have:=HB.out.1;omega)) (show B≤pe∧p<pe from ⟨by have:=HW2.out.1.lt;have:=HB.out.1;omega,by have:=HW2.out.2.1.lt;omega⟩)))));obtain ⟨w3,hw3⟩:∃w3,w2.alloc (.cells #[.int .i64 (pc:Int),.int .i64 0,.int .i64 0] 64)=w3:=⟨_,rfl⟩
 rw[hpe] at HW3;rw[hw3] at HW3 ⊢;clear hw3 hpe HW2;have b0:=HW3.out.1.mem;have b17:=HW3.out.1.pc;dsimp only at b0 b17;have e8:IntKind.u32.wrap (pc:Int)=(pc:Int):=by rw[IntKind.wrap_u32];omega
 refine wp_region_held_drew (S:=(fun W=>W.cell? ⟨bm,0,none⟩=some (.pointer (some ⟨gm,0,none⟩))∧W.cell? ⟨bm,17,none⟩=some (.int .i64 (pc:Int)))) (by kernel_rfl) ?_ (fun hHeld=>?_)
 ·exact ⟨b0,b17⟩
 have H5:Hid (MAt w3.drew bm gm iv (k+1) ⟨rg,pc,false,en,co,ns⟩∧Blk w3.drew p 64 #[.int .i64 0,.int .i64 0,.int .i64 0]∧Blk w3.drew pe 64 #[.int .i64 (pc:Int),.int .i64 0,.int .i64 0]∧ZAW B w w3.drew∧B≤pe∧p<pe):=⟨HW3.out.1.below (ZAO (Below.refl _ _)),HW3.out.2.1,HW3.out.2.2.1,HW3.out.2.2.2.1.bel (ZAO (Below.refl _ _)) (by have:=HW3.out.1.lt;have:=HB.out.1;omega),HW3.out.2.2.2.2⟩
 clear HW3 b0 b17;generalize w3.drew=W5 at H5 hHeld ⊢;refine FU 15 rfl ?_;iterate 9 (refine TN 15 rfl ?_;try simp only[AP,Nat.reduceAdd,Nat.reduceSub])
 refine RW 9 rfl fun K hK=>?_;go_simp;go_at_call 37;refine (HFE.out _ H5.out.1.m).mono ?_;rintro e W6 ⟨rfl,hb6⟩;try go_simp
 refine hK.out _ _ (show _∧_ from ⟨(hb6.cell (cell_lt hHeld.1)).trans hHeld.1,(hb6.cell (cell_lt hHeld.2)).trans hHeld.2⟩) (fun hHeld=>?_);have H6:=Zh (show MAt W6 bm gm iv (k+1) ⟨rg,pc,false,en,co,ns⟩∧Blk W6 p 64 #[.int .i64 0,.int .i64 0,.int .i64 0]∧Blk W6 pe 64 #[.int .i64 (pc:Int),.int .i64 0,.int .i64 0]∧ZAW B w W6 from ⟨H5.out.1.below hb6,H5.out.2.1.below hb6 H5.out.2.1.lt,H5.out.2.2.1.below hb6 H5.out.2.2.1.lt,H5.out.2.2.2.1.bel hb6 (by have:=H5.out.2.2.1.lt;have:=H5.out.2.2.2.2.1;omega)⟩);have H5pe:=Zh H5.out.2.2.2.2;clear hb6 H5 HFE;clear hK K;try simp only[AP]
 iterate 5 (refine TN 15 rfl ?_;try simp only[AP,Nat.reduceAdd,Nat.reduceSub])
 refine wpAnyH_done (by kernel_rfl) ?_ _;clear hHeld;go_wp2_with fail
 refine (HD.out _).mono ?_;rintro e W7 ⟨rfl,hb7⟩;go_upto_region 13 with fail
 obtain ⟨q,hq⟩:∃q,W7.heap.size=q:=⟨_,rfl⟩
 have hal:=ZV W7 (.cells #[.int .i64 2,.int .i64 (d:Int),.int .i64 (a:Int),.int .i64 (b:Int),.int .i64 (i:Int)] 127);have hBW:B≤W6.heap.size:=by have:=H6.out.1.lt;have:=HB.out.1;omega
 have hBW7:B≤W7.heap.size:=Nat.le_trans hBW hb7.size;have HI:=Blk.new W7 127 #[.int .i64 2,.int .i64 (d:Int),.int .i64 (a:Int),.int .i64 (b:Int),.int .i64 (i:Int)];have HM:Hid (StM w (W7.alloc (.cells #[.int .i64 2,.int .i64 (d:Int),.int .i64 (a:Int),.int .i64 (b:Int),.int .i64 (i:Int)] 127)) B bm gm iv (k+1) ⟨rg,pc,false,en,co,ns⟩ p pe q 2 d a b i):=
  ⟨(H6.out.1.below hb7).below hal,(H6.out.2.2.2.bel hb7 hBW).bel hal hBW7,⟨_,_,_,((H6.out.2.1.below hb7 H6.out.2.1.lt).alloc _)⟩,⟨_,_,_,((H6.out.2.2.1.below hb7 H6.out.2.2.1.lt).alloc _)⟩,by rw[←hq];exact HI,by have:=HP.out;have:=HB.out.2.2;omega,H5pe.out.1,H5pe.out.2⟩
 obtain ⟨W8,hW8⟩:∃W8,W7.alloc (.cells #[.int .i64 2,.int .i64 (d:Int),.int .i64 (a:Int),.int .i64 (b:Int),.int .i64 (i:Int)] 127)=W8:=⟨_,rfl⟩
 rw[hW8] at HM ⊢;rw[hq];clear hW8 hq HI hal hb7 hBW hBW7 H6 HD;have c17:=HM.out.m.pc;have x0:W8.cell? ⟨q,0,none⟩=some (.int .i64 2):=HM.out.i.cellq rfl;have x1:W8.cell? ⟨q,1,none⟩=some (.int .i64 (d:Int)):=HM.out.i.cellq rfl;have x2:W8.cell? ⟨q,2,none⟩=some (.int .i64 (a:Int)):=HM.out.i.cellq rfl;have x3:W8.cell? ⟨q,3,none⟩=some (.int .i64 (b:Int)):=HM.out.i.cellq rfl;have x4:W8.cell? ⟨q,4,none⟩=some (.int .i64 (i:Int)):=HM.out.i.cellq rfl;have e13:IntKind.i64.wrap ((pc:Int)+4)=((pc+4:Nat):Int):=by rw[IntWalk.i64_in _ (by omega)];omega
 obtain ⟨pn,hpn⟩:∃pn,pc+4=pn:=⟨_,rfl⟩
 have e13b:((pn:Nat):Int).tmod 4294967296=(pn:Int):=by rw[Int.tmod_eq_emod_of_nonneg (by omega)];omega
 have HPN:=Zh hpn;rw[hpn] at e13;clear hpn;have hof:=ZAR (i:Int);rw[show (i:Int)%4294967296=(i:Int) by omega] at hof;have HOF:=Zh hof;clear hof;dsimp only at c17;go_wp2_with fail
 refine (HOF.out _).mono ?_;rintro e W8' ⟨rfl,hw⟩;replace hw:=hw.symm;subst hw;go_upto_region 15 with fail
 have r2:=HM.out.m.reg (i:=a) (by omega);dsimp only at r2;clear e13 e13b c17 HOF hkw hk0 e8 hHeld;have hva:=HM.out.m.ru a;dsimp only at hva;obtain ⟨va,hvae⟩:∃va,rg.getD a 0=va:=⟨_,rfl⟩
 rw[hvae] at r2 hva;have HVA:=Zh hvae;clear hvae;have hac:a<16:=by omega
 go_quiet (fail)
 have HM9:=Zh (HM.out.bel HB.out.1 (ZM (Below.refl _ _) nq));clear HM x0 x1 x2 x3 x4 r2;generalize W8.drewN nq=W9 at HM9 ⊢;have x0:W9.cell? ⟨q,0,none⟩=some (.int .i64 2):=HM9.out.i.cellq rfl;have x1:W9.cell? ⟨q,1,none⟩=some (.int .i64 (d:Int)):=HM9.out.i.cellq rfl;have x3:W9.cell? ⟨q,3,none⟩=some (.int .i64 (b:Int)):=HM9.out.i.cellq rfl;have x4:W9.cell? ⟨q,4,none⟩=some (.int .i64 (i:Int)):=HM9.out.i.cellq rfl;have hbc:b<16:=by omega
 have hbI:(b:Int)<16:=by omega
 have hvb:=HM9.out.m.ru b;have rb:=HM9.out.m.reg (i:=b) hbc;dsimp only at hvb rb;obtain ⟨vb,hvbe⟩:∃vb,rg.getD b 0=vb:=⟨_,rfl⟩
 rw[hvbe] at rb hvb;have HVB:=Zh hvbe;clear hvbe;obtain ⟨x,hx⟩:∃x:Nat,(va+4294967296-vb)%4294967296=x:=⟨_,rfl⟩
 have hxl:x<4294967296:=by omega
 have HTH:Hid (∀W,Calls Tryz.prog 41 #[.int .i64 2,.int .u32 (va:Int),.int .u32 (vb:Int)] W fun e w'=>e=.returned (.tuple #[.int .u32 (x:Int),.bool true])∧w'=W):=fun W=>by
  have h9:=ZI4 (va:Int) (vb:Int) W;rwa[show ((va:Int)-(vb:Int))%4294967296=(x:Int) by omega] at h9
 have HXX:=Zh hx;clear hx;go_upto_region 18 with fail
 refine wp_region_held_drew (S:=(fun W=>W.cell? ⟨q,0,none⟩=some (.int .i64 2)∧W.cell? ⟨q,3,none⟩=some (.int .i64 (b:Int))∧W.cell? ⟨bm,1+b,none⟩=some (.int .u32 (vb:Int)))) (by kernel_rfl) ?_ (fun hHeld=>?_)
 ·exact ⟨x0,x3,rb⟩
 have HM10:=Zh (HM9.out.bel HB.out.1 (ZAO (Below.refl _ _)));clear HM9 x0 x1 x3 x4 rb;generalize W9.drew=W10 at HM10 hHeld ⊢;refine FU 16 rfl ?_;iterate 10 (refine TN 16 rfl ?_;try simp only[AP,Nat.reduceAdd,Nat.reduceSub])
 refine RW 10 rfl fun K hK=>?_;go_simp;go_at_call 41;refine (HTH.out _).mono ?_;rintro e W11 ⟨rfl,hw⟩;replace hw:=hw.symm;subst hw;try go_simp
 refine hK.out _ _ hHeld (fun hHeld=>?_);clear hK K;try simp only[AP]
 iterate 5 (refine TN 16 rfl ?_;try simp only[AP,Nat.reduceAdd,Nat.reduceSub])
 refine wpAnyH_done (by kernel_rfl) ?_ _;clear hHeld HTH;have x1:W10.cell? ⟨q,1,none⟩=some (.int .i64 (d:Int)):=HM10.out.i.cellq rfl;have hdc:d<16:=by omega
 have hdI:(d:Int)<16:=by omega
 have rd:=HM10.out.m.reg (i:=d) hdc;have fd:=HM10.out.m.b.frozen (1+d);go_upto_region 22 with fail
 go_region
 have hC0:=HM10.out.turn HB.out.1 HB.out.2.1 (HM10.out.m.setReg (i:=d) hdc hxl) (((ZE.refl (· = bm) W10).setCell (p:=⟨bm,1+d,none⟩) (Or.inr rfl) (.int .u32 (x:Int))).mono (fun _ _ e=>Or.inl e));have HC:=Zh (hC0.bel HB.out.1 (ZAO (Below.refl _ _)));clear hC0 HM10 x1 rd fd;generalize (W10.setCell ⟨bm,1+d,none⟩ (.int .u32 (x:Int))).drew=Wc at HC ⊢;have hpn:=HPN.out;have t22:=HC.out.m.ov;have t17:=HC.out.m.pc;have f17:=HC.out.m.b.frozen 17;dsimp only at t22 t17;go_upto_region 45 with fail
 go_upto_region 46 with fail
 have HC2:=Zh (HC.out.turn HB.out.1 HB.out.2.1 (HC.out.m.setPc (x:=pn) (by omega)) (((ZE.refl (· = bm) Wc).setCell (p:=⟨bm,17,none⟩) (Or.inr rfl) (.int .i64 (pn:Int))).mono (fun _ _ e=>Or.inl e)));clear HC t22 t17 f17;obtain ⟨We,hWe⟩:∃We,Wc.setCell ⟨bm,17,none⟩ (.int .i64 (pn:Int))=We:=⟨_,rfl⟩
 rw[hWe] at HC2 ⊢;clear hWe;try dsimp only at HC2
 obtain ⟨y0,y1,y2,hx⟩:=HC2.out.x;obtain ⟨z0,z1,z2,hr⟩:=HC2.out.r;have g0:We.cell? ⟨pe,0,none⟩=some (.int .i64 y0):=hx.cellq rfl;have g1:We.cell? ⟨pe,1,none⟩=some (.int .i64 y1):=hx.cellq rfl;have g2:We.cell? ⟨pe,2,none⟩=some (.int .i64 y2):=hx.cellq rfl;have m0:We.cell? ⟨p,0,none⟩=some (.int .i64 z0):=hr.cellq rfl;have m1:We.cell? ⟨p,1,none⟩=some (.int .i64 z1):=hr.cellq rfl;have m2:We.cell? ⟨p,2,none⟩=some (.int .i64 z2):=hr.cellq rfl;have n0:=hr.frozen 0;have n1:=hr.frozen 1;have n2:=hr.frozen 2;have HX:=Zh (Za hx hr);clear hx hr;go_wp2_with fail
 show bodyPost _ _ _ _ _ (ZCt We p (.int .i64 y0) (.int .i64 y1) (.int .i64 y2));have hp3:=ZAq HX.out.2 (.int .i64 y0) (.int .i64 y1) (.int .i64 y2);have HZ:=Zh (Za (HC2.out.m.oth HX.out.2 hp3.2) (HC2.out.be.kp hp3.2 (by have:=HC2.out.m.lt;have:=HB.out.1;omega) (fun g hg e=>by have:=HC2.out.pp;omega) (fun g cs hg e=>by subst e;exact absurd (HX.out.2.kind hg) (by decide))));obtain ⟨Wf,hWf⟩:∃Wf,ZCt We p (.int .i64 y0) (.int .i64 y1) (.int .i64 y2)=Wf:=⟨_,rfl⟩
 rw[hWf] at HZ hp3 ⊢;clear hWf g0 g1 g2 m0 m1 m2 n0 n1 n2;have u0:Wf.cell? ⟨p,0,none⟩=some (.int .i64 y0):=hp3.1.cellq rfl;have u1:Wf.cell? ⟨p,1,none⟩=some (.int .i64 y1):=hp3.1.cellq rfl;have u2:Wf.cell? ⟨p,2,none⟩=some (.int .i64 y2):=hp3.1.cellq rfl;clear hp3;refine bodyPost_ret (v:=.tuple #[.agg #[.int .i64 y0,.int .i64 y1,.int .i64 y2],.int .i64 0]) (by simp[results,Tryz.results14,u0,u1,u2,go_sem]) rfl ?_;have hs2:=HS2.out;rw[HVA.out,HVB.out,HXX.out,HPN.out] at hs2;subst hs2;exact ⟨⟨_,rfl⟩,HZ.out.1,HZ.out.2,rfl⟩
theorem step_I (B bm gm:Nat) (iv:Value) (k:Int) (rg:List Nat) (pc:Nat) (en co:Int) (ns:List Area) (d a b i v:Nat) (w:World) (h:MAt w bm gm iv k ⟨rg,pc,false,en,co,ns⟩) (hk:k≤1000) (hpc:pc≤100000) (hB:B≤bm) (hR:∀g∈rowsOf ns,B≤g) (hBw:B≤w.heap.size)
  (hf:fetchR ns pc=((v:Int),0)) (hd:ZBU v 18 d a b (i:Int)) (hd15:d≤15) (ha15:a≤15) (hb15:b≤15) (hi:i≤32767) :
  Calls Tryz.prog 14 #[.pointer (some ⟨bm,0,none⟩)] w (ZAK B bm gm iv k ⟨rg,pc,false,en,co,ns⟩ ⟨rg.set d ((rg.getD a 0+i)%4294967296),pc+4,false,en,co,ns⟩ w):=by
 have HFE:Hid (∀W,ZW W gm ns→Calls Tryz.prog 37 #[.pointer (some ⟨gm,0,none⟩),.int .u32 (pc:Int)] W fun e w'=>e=.returned (.tuple #[.int .u32 (v:Int),.int .i64 0])∧Below W.heap.size W w'):=fun W hW=>by
  have:=Zp gm ns pc W hW (by omega) (by omega);rw[hf] at this;exact this
 have HD:=Zh hd;have H:=Zh h;have HB:=Zh (Za hB (Za hR hBw));obtain ⟨s2,hs2⟩:∃s2:MSt,⟨rg.set d ((rg.getD a 0+i)%4294967296),pc+4,false,en,co,ns⟩=s2:=⟨_,rfl⟩
 have HS2:=Zh hs2;rw[hs2];have h1:=h.alloc (.cells #[.int .i64 0,.int .i64 0,.int .i64 0] 64);have HW1:=Zh (Za h1 (Za (Blk.new w 64 #[.int .i64 0,.int .i64 0,.int .i64 0]) (ZV w (.cells #[.int .i64 0,.int .i64 0,.int .i64 0] 64))));have hk0:=h.k0;have hkw:IntKind.i64.wrap (k+1)=k+1:=IntWalk.i64_in _ (by omega);clear h hf hd hB hR hBw hs2;go_enter Tryz.func14,Tryz.ntmps14
 go_upto_region 1 with fail
 obtain ⟨p,hp⟩:∃p,w.heap.size=p:=⟨_,rfl⟩
 obtain ⟨w1,hw1⟩:∃w1,w.alloc (.cells #[.int .i64 0,.int .i64 0,.int .i64 0] 64)=w1:=⟨_,rfl⟩
 rw[hw1,hp] at HW1 ⊢;have HP:=Zh hp;clear hw1 hp;have c22:=HW1.out.1.ov;have c18:=HW1.out.1.st;have f18:=HW1.out.1.b.frozen 18;have c17:(w1.setCell ⟨bm,18,none⟩ (.int .i64 (k+1))).cell? ⟨bm,17,none⟩=some (.int .i64 (pc:Int)):=(HW1.out.1.setSt (k':=k+1) (by omega) (by omega)).pc;dsimp only at c22 c18;go_upto_region 5 with fail
 have hb12:ZAW B w (w1.setCell ⟨bm,18,none⟩ (.int .i64 (k+1))):=(ZAW.of (by rw[HP.out];exact HW1.out.2.2) HB.out.2.2).kp ((ZE.refl (· = bm) w1).setCell (p:=⟨bm,18,none⟩) (Or.inr rfl) _) (by have:=HW1.out.1.lt;have:=HB.out.1;omega) (fun g hg e=>by have:=HB.out.1;omega) (fun g cs hg e=>by subst e;exact absurd (hg.kind HW1.out.1.b) (by decide));have HW2:=Zh (Za (HW1.out.1.setSt (k':=k+1) (by omega) (by omega)) (Za (HW1.out.2.1.keeps ((ZE.refl (· = bm) w1).setCell (p:=⟨bm,18,none⟩) (Or.inr rfl) (.int .i64 (k+1))) (fun e=>by
  subst e;exact absurd (HW1.out.2.1.kind HW1.out.1.b) (by decide))) hb12))
 clear hb12 h1 HW1 c22 c18 f18 c17 H;obtain ⟨w2,hw2⟩:∃w2,w1.setCell ⟨bm,18,none⟩ (.int .i64 (k+1))=w2:=⟨_,rfl⟩
 rw[hw2] at HW2 ⊢;obtain ⟨pe,hpe1⟩:∃pe,w1.heap.size=pe:=⟨_,rfl⟩
 have hpe:w2.heap.size=pe:=by rw[←hw2,←hpe1];simp[World.setCell]
 rw[hpe1];clear hw2 hpe1;have HW3:=Zh (Za (HW2.out.1.alloc (.cells #[.int .i64 (pc:Int),.int .i64 0,.int .i64 0] 64)) (Za (HW2.out.2.1.alloc (.cells #[.int .i64 (pc:Int),.int .i64 0,.int .i64 0] 64)) (Za (Blk.new w2 64 #[.int .i64 (pc:Int),.int .i64 0,.int .i64 0]) (Za (HW2.out.2.2.bel (ZV w2 (.cells #[.int .i64 (pc:Int),.int .i64 0,.int .i64 0] 64)) (by have:=HW2.out.1.lt;have:=HB.out.1;omega)) (show B≤pe∧p<pe from ⟨by have:=HW2.out.1.lt;have:=HB.out.1;omega,by have:=HW2.out.2.1.lt;omega⟩)))));obtain ⟨w3,hw3⟩:∃w3,w2.alloc (.cells #[.int .i64 (pc:Int),.int .i64 0,.int .i64 0] 64)=w3:=⟨_,rfl⟩
 rw[hpe] at HW3;rw[hw3] at HW3 ⊢;clear hw3 hpe HW2;have b0:=HW3.out.1.mem;have b17:=HW3.out.1.pc;dsimp only at b0 b17;have e8:IntKind.u32.wrap (pc:Int)=(pc:Int):=by rw[IntKind.wrap_u32];omega
 refine wp_region_held_drew (S:=(fun W=>W.cell? ⟨bm,0,none⟩=some (.pointer (some ⟨gm,0,none⟩))∧W.cell? ⟨bm,17,none⟩=some (.int .i64 (pc:Int)))) (by kernel_rfl) ?_ (fun hHeld=>?_)
 ·exact ⟨b0,b17⟩
 have H5:Hid (MAt w3.drew bm gm iv (k+1) ⟨rg,pc,false,en,co,ns⟩∧Blk w3.drew p 64 #[.int .i64 0,.int .i64 0,.int .i64 0]∧Blk w3.drew pe 64 #[.int .i64 (pc:Int),.int .i64 0,.int .i64 0]∧ZAW B w w3.drew∧B≤pe∧p<pe):=⟨HW3.out.1.below (ZAO (Below.refl _ _)),HW3.out.2.1,HW3.out.2.2.1,HW3.out.2.2.2.1.bel (ZAO (Below.refl _ _)) (by have:=HW3.out.1.lt;have:=HB.out.1;omega),HW3.out.2.2.2.2⟩
 clear HW3 b0 b17;generalize w3.drew=W5 at H5 hHeld ⊢;refine FU 15 rfl ?_;iterate 9 (refine TN 15 rfl ?_;try simp only[AP,Nat.reduceAdd,Nat.reduceSub])
 refine RW 9 rfl fun K hK=>?_;go_simp;go_at_call 37;refine (HFE.out _ H5.out.1.m).mono ?_;rintro e W6 ⟨rfl,hb6⟩;try go_simp
 refine hK.out _ _ (show _∧_ from ⟨(hb6.cell (cell_lt hHeld.1)).trans hHeld.1,(hb6.cell (cell_lt hHeld.2)).trans hHeld.2⟩) (fun hHeld=>?_);have H6:=Zh (show MAt W6 bm gm iv (k+1) ⟨rg,pc,false,en,co,ns⟩∧Blk W6 p 64 #[.int .i64 0,.int .i64 0,.int .i64 0]∧Blk W6 pe 64 #[.int .i64 (pc:Int),.int .i64 0,.int .i64 0]∧ZAW B w W6 from ⟨H5.out.1.below hb6,H5.out.2.1.below hb6 H5.out.2.1.lt,H5.out.2.2.1.below hb6 H5.out.2.2.1.lt,H5.out.2.2.2.1.bel hb6 (by have:=H5.out.2.2.1.lt;have:=H5.out.2.2.2.2.1;omega)⟩);have H5pe:=Zh H5.out.2.2.2.2;clear hb6 H5 HFE;clear hK K;try simp only[AP]
 iterate 5 (refine TN 15 rfl ?_;try simp only[AP,Nat.reduceAdd,Nat.reduceSub])
 refine wpAnyH_done (by kernel_rfl) ?_ _;clear hHeld;go_wp2_with fail
 refine (HD.out _).mono ?_;rintro e W7 ⟨rfl,hb7⟩;go_upto_region 13 with fail
 obtain ⟨q,hq⟩:∃q,W7.heap.size=q:=⟨_,rfl⟩
 have hal:=ZV W7 (.cells #[.int .i64 18,.int .i64 (d:Int),.int .i64 (a:Int),.int .i64 (b:Int),.int .i64 (i:Int)] 127);have hBW:B≤W6.heap.size:=by have:=H6.out.1.lt;have:=HB.out.1;omega
 have hBW7:B≤W7.heap.size:=Nat.le_trans hBW hb7.size;have HI:=Blk.new W7 127 #[.int .i64 18,.int .i64 (d:Int),.int .i64 (a:Int),.int .i64 (b:Int),.int .i64 (i:Int)];have HM:Hid (StM w (W7.alloc (.cells #[.int .i64 18,.int .i64 (d:Int),.int .i64 (a:Int),.int .i64 (b:Int),.int .i64 (i:Int)] 127)) B bm gm iv (k+1) ⟨rg,pc,false,en,co,ns⟩ p pe q 18 d a b i):=
  ⟨(H6.out.1.below hb7).below hal,(H6.out.2.2.2.bel hb7 hBW).bel hal hBW7,⟨_,_,_,((H6.out.2.1.below hb7 H6.out.2.1.lt).alloc _)⟩,⟨_,_,_,((H6.out.2.2.1.below hb7 H6.out.2.2.1.lt).alloc _)⟩,by rw[←hq];exact HI,by have:=HP.out;have:=HB.out.2.2;omega,H5pe.out.1,H5pe.out.2⟩
 obtain ⟨W8,hW8⟩:∃W8,W7.alloc (.cells #[.int .i64 18,.int .i64 (d:Int),.int .i64 (a:Int),.int .i64 (b:Int),.int .i64 (i:Int)] 127)=W8:=⟨_,rfl⟩
 rw[hW8] at HM ⊢;rw[hq];clear hW8 hq HI hal hb7 hBW hBW7 H6 HD;have c17:=HM.out.m.pc;have x0:W8.cell? ⟨q,0,none⟩=some (.int .i64 18):=HM.out.i.cellq rfl;have x1:W8.cell? ⟨q,1,none⟩=some (.int .i64 (d:Int)):=HM.out.i.cellq rfl;have x2:W8.cell? ⟨q,2,none⟩=some (.int .i64 (a:Int)):=HM.out.i.cellq rfl;have x3:W8.cell? ⟨q,3,none⟩=some (.int .i64 (b:Int)):=HM.out.i.cellq rfl;have x4:W8.cell? ⟨q,4,none⟩=some (.int .i64 (i:Int)):=HM.out.i.cellq rfl;have e13:IntKind.i64.wrap ((pc:Int)+4)=((pc+4:Nat):Int):=by rw[IntWalk.i64_in _ (by omega)];omega
 obtain ⟨pn,hpn⟩:∃pn,pc+4=pn:=⟨_,rfl⟩
 have e13b:((pn:Nat):Int).tmod 4294967296=(pn:Int):=by rw[Int.tmod_eq_emod_of_nonneg (by omega)];omega
 have HPN:=Zh hpn;rw[hpn] at e13;clear hpn;have hof:=ZAR (i:Int);rw[show (i:Int)%4294967296=(i:Int) by omega] at hof;have HOF:=Zh hof;clear hof;dsimp only at c17;go_wp2_with fail
 refine (HOF.out _).mono ?_;rintro e W8' ⟨rfl,hw⟩;replace hw:=hw.symm;subst hw;go_upto_region 15 with fail
 have r2:=HM.out.m.reg (i:=a) (by omega);dsimp only at r2;clear e13 e13b c17 HOF hkw hk0 e8 hHeld;have hva:=HM.out.m.ru a;dsimp only at hva;obtain ⟨va,hvae⟩:∃va,rg.getD a 0=va:=⟨_,rfl⟩
 rw[hvae] at r2 hva;have HVA:=Zh hvae;clear hvae;have hac:a<16:=by omega
 go_quiet (fail)
 have HM9:=Zh (HM.out.bel HB.out.1 (ZM (Below.refl _ _) nq));clear HM x0 x1 x2 x3 x4 r2;generalize W8.drewN nq=W9 at HM9 ⊢;have x0:W9.cell? ⟨q,0,none⟩=some (.int .i64 18):=HM9.out.i.cellq rfl;have x1:W9.cell? ⟨q,1,none⟩=some (.int .i64 (d:Int)):=HM9.out.i.cellq rfl;have x3:W9.cell? ⟨q,3,none⟩=some (.int .i64 (b:Int)):=HM9.out.i.cellq rfl;have x4:W9.cell? ⟨q,4,none⟩=some (.int .i64 (i:Int)):=HM9.out.i.cellq rfl;obtain ⟨x,hx⟩:∃x:Nat,(va+i)%4294967296=x:=⟨_,rfl⟩
 have hxl:x<4294967296:=by omega
 have HTH:Hid (∀W,Calls Tryz.prog 41 #[.int .i64 1,.int .u32 (va:Int),.int .u32 (i:Int)] W fun e w'=>e=.returned (.tuple #[.int .u32 (x:Int),.bool true])∧w'=W):=fun W=>by
  have h9:=ZFS (va:Int) (i:Int) W;rwa[show ((va:Int)+(i:Int))%4294967296=(x:Int) by omega] at h9
 have HXX:=Zh hx;clear hx;have HPL:Hid (∀W,Calls Tryz.prog 42 #[.int .i64 18] W fun e w'=>e=.returned (.int .i64 1)∧w'=W):=fun W=>ZAN 18 W (by decide);go_wp2_with fail
 refine (HPL.out _).mono ?_;rintro e W9' ⟨rfl,hw⟩;replace hw:=hw.symm;subst hw;go_wp2_with fail
 refine (HPL.out _).mono ?_;rintro e W9' ⟨rfl,hw⟩;replace hw:=hw.symm;subst hw;go_wp2_with fail
 refine (HTH.out _).mono ?_;rintro e W9' ⟨rfl,hw⟩;replace hw:=hw.symm;subst hw;have hdc:d<16:=by omega
 have hdI:(d:Int)<16:=by omega
 have rd:=HM9.out.m.reg (i:=d) hdc;have fd:=HM9.out.m.b.frozen (1+d);go_upto_region 25 with fail
 go_region
 have hC0:=HM9.out.turn HB.out.1 HB.out.2.1 (HM9.out.m.setReg (i:=d) hdc hxl) (((ZE.refl (· = bm) W9).setCell (p:=⟨bm,1+d,none⟩) (Or.inr rfl) (.int .u32 (x:Int))).mono (fun _ _ e=>Or.inl e));have HC:=Zh (hC0.bel HB.out.1 (ZAO (Below.refl _ _)));clear hC0 HM9 x0 x1 x3 x4 rd fd;generalize (W9.setCell ⟨bm,1+d,none⟩ (.int .u32 (x:Int))).drew=Wc at HC ⊢;have hpn:=HPN.out;have t22:=HC.out.m.ov;have t17:=HC.out.m.pc;have f17:=HC.out.m.b.frozen 17;dsimp only at t22 t17;go_upto_region 45 with fail
 go_upto_region 46 with fail
 have HC2:=Zh (HC.out.turn HB.out.1 HB.out.2.1 (HC.out.m.setPc (x:=pn) (by omega)) (((ZE.refl (· = bm) Wc).setCell (p:=⟨bm,17,none⟩) (Or.inr rfl) (.int .i64 (pn:Int))).mono (fun _ _ e=>Or.inl e)));clear HC t22 t17 f17;obtain ⟨We,hWe⟩:∃We,Wc.setCell ⟨bm,17,none⟩ (.int .i64 (pn:Int))=We:=⟨_,rfl⟩
 rw[hWe] at HC2 ⊢;clear hWe;try dsimp only at HC2
 obtain ⟨y0,y1,y2,hx⟩:=HC2.out.x;obtain ⟨z0,z1,z2,hr⟩:=HC2.out.r;have g0:We.cell? ⟨pe,0,none⟩=some (.int .i64 y0):=hx.cellq rfl;have g1:We.cell? ⟨pe,1,none⟩=some (.int .i64 y1):=hx.cellq rfl;have g2:We.cell? ⟨pe,2,none⟩=some (.int .i64 y2):=hx.cellq rfl;have m0:We.cell? ⟨p,0,none⟩=some (.int .i64 z0):=hr.cellq rfl;have m1:We.cell? ⟨p,1,none⟩=some (.int .i64 z1):=hr.cellq rfl;have m2:We.cell? ⟨p,2,none⟩=some (.int .i64 z2):=hr.cellq rfl;have n0:=hr.frozen 0;have n1:=hr.frozen 1;have n2:=hr.frozen 2;have HX:=Zh (Za hx hr);clear hx hr;go_wp2_with fail
 show bodyPost _ _ _ _ _ (ZCt We p (.int .i64 y0) (.int .i64 y1) (.int .i64 y2));have hp3:=ZAq HX.out.2 (.int .i64 y0) (.int .i64 y1) (.int .i64 y2);have HZ:=Zh (Za (HC2.out.m.oth HX.out.2 hp3.2) (HC2.out.be.kp hp3.2 (by have:=HC2.out.m.lt;have:=HB.out.1;omega) (fun g hg e=>by have:=HC2.out.pp;omega) (fun g cs hg e=>by subst e;exact absurd (HX.out.2.kind hg) (by decide))));obtain ⟨Wf,hWf⟩:∃Wf,ZCt We p (.int .i64 y0) (.int .i64 y1) (.int .i64 y2)=Wf:=⟨_,rfl⟩
 rw[hWf] at HZ hp3 ⊢;clear hWf g0 g1 g2 m0 m1 m2 n0 n1 n2;have u0:Wf.cell? ⟨p,0,none⟩=some (.int .i64 y0):=hp3.1.cellq rfl;have u1:Wf.cell? ⟨p,1,none⟩=some (.int .i64 y1):=hp3.1.cellq rfl;have u2:Wf.cell? ⟨p,2,none⟩=some (.int .i64 y2):=hp3.1.cellq rfl;clear hp3;refine bodyPost_ret (v:=.tuple #[.agg #[.int .i64 y0,.int .i64 y1,.int .i64 y2],.int .i64 0]) (by simp[results,Tryz.results14,u0,u1,u2,go_sem]) rfl ?_;have hs2:=HS2.out;rw[HVA.out,HXX.out,HPN.out] at hs2;subst hs2;exact ⟨⟨_,rfl⟩,HZ.out.1,HZ.out.2,rfl⟩
end Go.Proofs.YtggmkofbikafhaaGreatDoor
