/- Walks and plain laws on the way to FramePrologue (YE6c, MD, RG). Conditions: those that each theorem states. -/
import Derived.ArgAppend
import Derived.Test.YtggmkofbikafhaaGreatDoorYE6b
set_option linter.unusedVariables false
set_option linter.unusedSimpArgs false
set_option maxRecDepth 100000
set_option maxHeartbeats 40000000
namespace Go.Proofs.YtggmkofbikafhaaGreatDoor
open Go.RowKit
theorem rdecT_eq (v o d a m:Nat) (z:Int) (w:World) (hv:v<4294967296) (ho:(v:Int) / 16777216=(o:Int)) (ho2:o≤255) (hd:bits .and .i64 ((v:Int) / 1048576) 15=(d:Int)) (hd2:d≤15) (ha:bits .and .i64 ((v:Int) / 65536) 15=(a:Int)) (ha2:a≤15) (hm:bits .and .i64 (v:Int) 65535=(m:Int)) (hm2:m≤65535) (hz:(if (m:Int)<32768 then (m:Int) else (m:Int)-65536)=z) (hf:RF o=84) (hE:∀W,Calls Tryz.prog 75 #[.agg #[.int .i64 o,.int .i64 d,.int .i64 a,.int .i64 0,.int .i64 z]] W fun e w'=>e=.returned (.tuple #[.int .u32 v,.int .i64 0])∧Below W.heap.size W w') :
  Calls Tryz.prog 39 #[.int .u32 v] w fun e w'=>e=.returned (.tuple #[.agg #[.int .i64 o,.int .i64 d,.int .i64 a,.int .i64 0,.int .i64 z],.int .i64 0])∧Below w.heap.size w w':=by
 have hF:=fun W=>Zo o W;rw[hf] at hF;have HF:Hid (∀W,Calls Tryz.prog 79 #[.int .i64 o] W fun e w'=>e=.returned (.int .u8 84)∧Below W.heap.size W w'):=fun W=>(hF W).mono (by rintro e w' ⟨h,rfl⟩;exact ⟨h,Below.refl _ _⟩);clear hF;have HE:=Zh hE;have HD:=Zh (fun W=>ZX 84 100 W (by unfold IsF;decide));rw[show inB 84 100=true by decide] at HD;have HA:=Zh (fun W=>ZX 84 97 W (by unfold IsF;decide));rw[show inB 84 97=true by decide] at HA;have HB:=Zh (fun W=>ZX 84 98 W (by unfold IsF;decide));rw[show inB 84 98=false by decide] at HB;have HI:=Zh (fun W=>ZX 84 105 W (by unfold IsF;decide));rw[show inB 84 105=true by decide] at HI;have hsg:=fun W=>ZCR m W (by omega) (by omega);rw[hz] at hsg;have HS9:=Zh hsg;clear hsg hz;clear hf hE;have hp:(w.alloc (.cells #[.int .i64 0,.int .i64 0,.int .i64 0,.int .i64 0,.int .i64 0] 127)).heap.size=w.heap.size+1:=by simp
 have hx0:=IAt.fresh (w.alloc (.cells #[.int .i64 0,.int .i64 0,.int .i64 0,.int .i64 0,.int .i64 0] 127)) o 0 0 0 0 127;rw[hp] at hx0;have HX0:=Zh hx0;have HR0:=Zh ((IAt.fresh w 0 0 0 0 0 127).past (.cells #[.int .i64 o,.int .i64 0,.int .i64 0,.int .i64 0,.int .i64 0] 127));have HB0:=Zh ((((Below.refl _ _).alloc (Nat.le_refl _) (.cells #[.int .i64 0,.int .i64 0,.int .i64 0,.int .i64 0,.int .i64 0] 127):Below w.heap.size w _).alloc (by simp) (.cells #[.int .i64 o,.int .i64 0,.int .i64 0,.int .i64 0,.int .i64 0] 127)));clear hx0 hp;go_enter Tryz.func39,Tryz.ntmps39
 go_wp2_with fail
 refine (HF.out _).mono ?_;rintro e w1 ⟨rfl,hw⟩;have HX1:=Zh (HX0.out.below hw);have HR1:=Zh (HR0.out.below hw);have HB1:=Zh (HB0.out.trans (hw.mono HB0.out.size));clear hw;obtain ⟨⟨x0,x1,x2,x3,x4,_⟩,xf⟩:=HX1.out;go_wp2_with fail
 refine (HD.out _).mono ?_;rintro e wq ⟨rfl,rfl⟩;have HX2:=Zh (HX1.out.set1 d);have HR2:=Zh (HR1.out.off (q:=w.heap.size+1) (j:=1) (by omega) (.int .i64 d));have HB2:=Zh (HB1.out.setCell (p:=⟨w.heap.size+1,1,none⟩) (Nat.le_succ _) (.int .i64 d));obtain ⟨⟨y0,y1,y2,y3,y4,_⟩,yf⟩:=HX2.out;go_wp2_with fail
 clear x0 x1 x2 x3 x4 xf;clear y0 y1 y2 y3 y4 yf;obtain ⟨⟨x0,x1,x2,x3,x4,_⟩,xf⟩:=HX2.out;refine (HA.out _).mono ?_;rintro e wq ⟨rfl,rfl⟩;have HX3:=Zh (HX2.out.set2 a);have HR3:=Zh (HR2.out.off (q:=w.heap.size+1) (j:=2) (by omega) (.int .i64 a));have HB3:=Zh (HB2.out.setCell (p:=⟨w.heap.size+1,2,none⟩) (Nat.le_succ _) (.int .i64 a));obtain ⟨⟨y0,y1,y2,y3,y4,_⟩,yf⟩:=HX3.out;go_wp2_with fail
 clear x0 x1 x2 x3 x4 xf;clear y0 y1 y2 y3 y4 yf;obtain ⟨⟨x0,x1,x2,x3,x4,_⟩,xf⟩:=HX3.out;refine (HB.out _).mono ?_;rintro e wq ⟨rfl,rfl⟩;go_wp2_with fail
 refine (HI.out _).mono ?_;rintro e wq ⟨rfl,rfl⟩;go_wp2_with fail
 refine (HS9.out _).mono ?_;rintro e wz ⟨rfl,rfl⟩;have HX4:=Zh (HX3.out.set4 z);have HR4:=Zh (HR3.out.off (q:=w.heap.size+1) (j:=4) (by omega) (.int .i64 z));have HB4:=Zh (HB3.out.setCell (p:=⟨w.heap.size+1,4,none⟩) (Nat.le_succ _) (.int .i64 z));obtain ⟨⟨y0,y1,y2,y3,y4,_⟩,yf⟩:=HX4.out;go_wp2_with fail
 clear x0 x1 x2 x3 x4 xf;clear y0 y1 y2 y3 y4 yf;obtain ⟨⟨x0,x1,x2,x3,x4,_⟩,xf⟩:=HX4.out;refine (HE.out _).mono ?_;rintro e we ⟨rfl,hw⟩;clear x0 x1 x2 x3 x4 xf;have HX9:=Zh (HX4.out.below hw);have HR9:=Zh (HR4.out.below hw);have HB9:=Zh (HB4.out.trans (hw.mono HB4.out.size));clear hw;obtain ⟨⟨x0,x1,x2,x3,x4,_⟩,xf⟩:=HX9.out;obtain ⟨⟨r0,r1,r2,r3,r4,_⟩,rf⟩:=HR9.out;go_wp2_with fail
 refine bodyPost_ret (v:=.tuple #[.agg #[.int .i64 o,.int .i64 d,.int .i64 a,.int .i64 0,.int .i64 z],.int .i64 0]) (by simp[results,Tryz.results39,r0,r1,r2,r3,r4,go_sem]) rfl ?_;exact ⟨rfl,((((HB9.out.setCell (p:=⟨w.heap.size,0,none⟩) (Nat.le_refl _) _).setCell (p:=⟨w.heap.size,1,none⟩) (Nat.le_refl _) _).setCell (p:=⟨w.heap.size,2,none⟩) (Nat.le_refl _) _).setCell (p:=⟨w.heap.size,3,none⟩) (Nat.le_refl _) _).setCell (p:=⟨w.heap.size,4,none⟩) (Nat.le_refl _) _⟩
theorem rdecJ_eq (v o m:Nat) (z:Int) (w:World) (hv:v<4294967296) (ho:(v:Int) / 16777216=(o:Int)) (ho2:o≤255) (hm:bits .and .i64 (v:Int) 16777215=(m:Int)) (hm2:m≤16777215) (hz:(if (m:Int)<8388608 then (m:Int) else (m:Int)-16777216)=z) (hf:RF o=74) (hE:∀W,Calls Tryz.prog 75 #[.agg #[.int .i64 o,.int .i64 0,.int .i64 0,.int .i64 0,.int .i64 z]] W fun e w'=>e=.returned (.tuple #[.int .u32 v,.int .i64 0])∧Below W.heap.size W w') :
  Calls Tryz.prog 39 #[.int .u32 v] w fun e w'=>e=.returned (.tuple #[.agg #[.int .i64 o,.int .i64 0,.int .i64 0,.int .i64 0,.int .i64 z],.int .i64 0])∧Below w.heap.size w w':=by
 have hF:=fun W=>Zo o W;rw[hf] at hF;have HF:Hid (∀W,Calls Tryz.prog 79 #[.int .i64 o] W fun e w'=>e=.returned (.int .u8 74)∧Below W.heap.size W w'):=fun W=>(hF W).mono (by rintro e w' ⟨h,rfl⟩;exact ⟨h,Below.refl _ _⟩);clear hF;have HE:=Zh hE;have HD:=Zh (fun W=>ZX 74 100 W (by unfold IsF;decide));rw[show inB 74 100=false by decide] at HD;have HA:=Zh (fun W=>ZX 74 97 W (by unfold IsF;decide));rw[show inB 74 97=false by decide] at HA;have HB:=Zh (fun W=>ZX 74 98 W (by unfold IsF;decide));rw[show inB 74 98=false by decide] at HB;have HI:=Zh (fun W=>ZX 74 105 W (by unfold IsF;decide));rw[show inB 74 105=true by decide] at HI;have hsg:=fun W=>ZHz m W (by omega) (by omega);rw[hz] at hsg;have HS9:=Zh hsg;clear hsg hz;clear hf hE;have hp:(w.alloc (.cells #[.int .i64 0,.int .i64 0,.int .i64 0,.int .i64 0,.int .i64 0] 127)).heap.size=w.heap.size+1:=by simp
 have hx0:=IAt.fresh (w.alloc (.cells #[.int .i64 0,.int .i64 0,.int .i64 0,.int .i64 0,.int .i64 0] 127)) o 0 0 0 0 127;rw[hp] at hx0;have HX0:=Zh hx0;have HR0:=Zh ((IAt.fresh w 0 0 0 0 0 127).past (.cells #[.int .i64 o,.int .i64 0,.int .i64 0,.int .i64 0,.int .i64 0] 127));have HB0:=Zh ((((Below.refl _ _).alloc (Nat.le_refl _) (.cells #[.int .i64 0,.int .i64 0,.int .i64 0,.int .i64 0,.int .i64 0] 127):Below w.heap.size w _).alloc (by simp) (.cells #[.int .i64 o,.int .i64 0,.int .i64 0,.int .i64 0,.int .i64 0] 127)));clear hx0 hp;go_enter Tryz.func39,Tryz.ntmps39
 go_wp2_with fail
 refine (HF.out _).mono ?_;rintro e w1 ⟨rfl,hw⟩;have HX1:=Zh (HX0.out.below hw);have HR1:=Zh (HR0.out.below hw);have HB1:=Zh (HB0.out.trans (hw.mono HB0.out.size));clear hw;obtain ⟨⟨x0,x1,x2,x3,x4,_⟩,xf⟩:=HX1.out;go_wp2_with fail
 refine (HD.out _).mono ?_;rintro e wq ⟨rfl,rfl⟩;go_wp2_with fail
 refine (HA.out _).mono ?_;rintro e wq ⟨rfl,rfl⟩;go_wp2_with fail
 refine (HB.out _).mono ?_;rintro e wq ⟨rfl,rfl⟩;go_wp2_with fail
 refine (HI.out _).mono ?_;rintro e wq ⟨rfl,rfl⟩;go_wp2_with fail
 refine (HS9.out _).mono ?_;rintro e wz ⟨rfl,rfl⟩;have HX2:=Zh (HX1.out.set4 z);have HR2:=Zh (HR1.out.off (q:=w.heap.size+1) (j:=4) (by omega) (.int .i64 z));have HB2:=Zh (HB1.out.setCell (p:=⟨w.heap.size+1,4,none⟩) (Nat.le_succ _) (.int .i64 z));obtain ⟨⟨y0,y1,y2,y3,y4,_⟩,yf⟩:=HX2.out;go_wp2_with fail
 clear x0 x1 x2 x3 x4 xf;clear y0 y1 y2 y3 y4 yf;obtain ⟨⟨x0,x1,x2,x3,x4,_⟩,xf⟩:=HX2.out;refine (HE.out _).mono ?_;rintro e we ⟨rfl,hw⟩;clear x0 x1 x2 x3 x4 xf;have HX9:=Zh (HX2.out.below hw);have HR9:=Zh (HR2.out.below hw);have HB9:=Zh (HB2.out.trans (hw.mono HB2.out.size));clear hw;obtain ⟨⟨x0,x1,x2,x3,x4,_⟩,xf⟩:=HX9.out;obtain ⟨⟨r0,r1,r2,r3,r4,_⟩,rf⟩:=HR9.out;go_wp2_with fail
 refine bodyPost_ret (v:=.tuple #[.agg #[.int .i64 o,.int .i64 0,.int .i64 0,.int .i64 0,.int .i64 z],.int .i64 0]) (by simp[results,Tryz.results39,r0,r1,r2,r3,r4,go_sem]) rfl ?_;exact ⟨rfl,((((HB9.out.setCell (p:=⟨w.heap.size,0,none⟩) (Nat.le_refl _) _).setCell (p:=⟨w.heap.size,1,none⟩) (Nat.le_refl _) _).setCell (p:=⟨w.heap.size,2,none⟩) (Nat.le_refl _) _).setCell (p:=⟨w.heap.size,3,none⟩) (Nat.le_refl _) _).setCell (p:=⟨w.heap.size,4,none⟩) (Nat.le_refl _) _⟩
theorem rdecW_eq (v o m:Nat) (w:World) (hv:v<4294967296) (ho:(v:Int) / 16777216=(o:Int)) (ho2:o≤255) (hm:bits .and .i64 (v:Int) 65535=(m:Int)) (hm2:m≤65535) (hf:RF o=87) (hE:∀W,Calls Tryz.prog 75 #[.agg #[.int .i64 o,.int .i64 0,.int .i64 0,.int .i64 0,.int .i64 m]] W fun e w'=>e=.returned (.tuple #[.int .u32 v,.int .i64 0])∧Below W.heap.size W w') :
  Calls Tryz.prog 39 #[.int .u32 v] w fun e w'=>e=.returned (.tuple #[.agg #[.int .i64 o,.int .i64 0,.int .i64 0,.int .i64 0,.int .i64 m],.int .i64 0])∧Below w.heap.size w w':=by
 have hF:=fun W=>Zo o W;rw[hf] at hF;have HF:Hid (∀W,Calls Tryz.prog 79 #[.int .i64 o] W fun e w'=>e=.returned (.int .u8 87)∧Below W.heap.size W w'):=fun W=>(hF W).mono (by rintro e w' ⟨h,rfl⟩;exact ⟨h,Below.refl _ _⟩);clear hF;have HE:=Zh hE;have HD:=Zh (fun W=>ZX 87 100 W (by unfold IsF;decide));rw[show inB 87 100=false by decide] at HD;have HA:=Zh (fun W=>ZX 87 97 W (by unfold IsF;decide));rw[show inB 87 97=false by decide] at HA;have HB:=Zh (fun W=>ZX 87 98 W (by unfold IsF;decide));rw[show inB 87 98=false by decide] at HB;have HI:=Zh (fun W=>ZX 87 105 W (by unfold IsF;decide));rw[show inB 87 105=true by decide] at HI;clear hf hE;have hp:(w.alloc (.cells #[.int .i64 0,.int .i64 0,.int .i64 0,.int .i64 0,.int .i64 0] 127)).heap.size=w.heap.size+1:=by simp
 have hx0:=IAt.fresh (w.alloc (.cells #[.int .i64 0,.int .i64 0,.int .i64 0,.int .i64 0,.int .i64 0] 127)) o 0 0 0 0 127;rw[hp] at hx0;have HX0:=Zh hx0;have HR0:=Zh ((IAt.fresh w 0 0 0 0 0 127).past (.cells #[.int .i64 o,.int .i64 0,.int .i64 0,.int .i64 0,.int .i64 0] 127));have HB0:=Zh ((((Below.refl _ _).alloc (Nat.le_refl _) (.cells #[.int .i64 0,.int .i64 0,.int .i64 0,.int .i64 0,.int .i64 0] 127):Below w.heap.size w _).alloc (by simp) (.cells #[.int .i64 o,.int .i64 0,.int .i64 0,.int .i64 0,.int .i64 0] 127)));clear hx0 hp;go_enter Tryz.func39,Tryz.ntmps39
 go_wp2_with fail
 refine (HF.out _).mono ?_;rintro e w1 ⟨rfl,hw⟩;have HX1:=Zh (HX0.out.below hw);have HR1:=Zh (HR0.out.below hw);have HB1:=Zh (HB0.out.trans (hw.mono HB0.out.size));clear hw;obtain ⟨⟨x0,x1,x2,x3,x4,_⟩,xf⟩:=HX1.out;go_wp2_with fail
 refine (HD.out _).mono ?_;rintro e wq ⟨rfl,rfl⟩;go_wp2_with fail
 refine (HA.out _).mono ?_;rintro e wq ⟨rfl,rfl⟩;go_wp2_with fail
 refine (HB.out _).mono ?_;rintro e wq ⟨rfl,rfl⟩;go_wp2_with fail
 refine (HI.out _).mono ?_;rintro e wq ⟨rfl,rfl⟩;have HX2:=Zh (HX1.out.set4 m);have HR2:=Zh (HR1.out.off (q:=w.heap.size+1) (j:=4) (by omega) (.int .i64 m));have HB2:=Zh (HB1.out.setCell (p:=⟨w.heap.size+1,4,none⟩) (Nat.le_succ _) (.int .i64 m));obtain ⟨⟨y0,y1,y2,y3,y4,_⟩,yf⟩:=HX2.out;go_wp2_with fail
 clear x0 x1 x2 x3 x4 xf;clear y0 y1 y2 y3 y4 yf;obtain ⟨⟨x0,x1,x2,x3,x4,_⟩,xf⟩:=HX2.out;refine (HE.out _).mono ?_;rintro e we ⟨rfl,hw⟩;clear x0 x1 x2 x3 x4 xf;have HX9:=Zh (HX2.out.below hw);have HR9:=Zh (HR2.out.below hw);have HB9:=Zh (HB2.out.trans (hw.mono HB2.out.size));clear hw;obtain ⟨⟨x0,x1,x2,x3,x4,_⟩,xf⟩:=HX9.out;obtain ⟨⟨r0,r1,r2,r3,r4,_⟩,rf⟩:=HR9.out;go_wp2_with fail
 refine bodyPost_ret (v:=.tuple #[.agg #[.int .i64 o,.int .i64 0,.int .i64 0,.int .i64 0,.int .i64 m],.int .i64 0]) (by simp[results,Tryz.results39,r0,r1,r2,r3,r4,go_sem]) rfl ?_;exact ⟨rfl,((((HB9.out.setCell (p:=⟨w.heap.size,0,none⟩) (Nat.le_refl _) _).setCell (p:=⟨w.heap.size,1,none⟩) (Nat.le_refl _) _).setCell (p:=⟨w.heap.size,2,none⟩) (Nat.le_refl _) _).setCell (p:=⟨w.heap.size,3,none⟩) (Nat.le_refl _) _).setCell (p:=⟨w.heap.size,4,none⟩) (Nat.le_refl _) _⟩
theorem rdecG_eq (v o a:Nat) (w:World) (hv:v<4294967296) (ho:(v:Int) / 16777216=(o:Int)) (ho2:o≤255) (ha:bits .and .i64 ((v:Int) / 65536) 15=(a:Int)) (ha2:a≤15) (hf:RF o=71) (hE:∀W,Calls Tryz.prog 75 #[.agg #[.int .i64 o,.int .i64 0,.int .i64 a,.int .i64 0,.int .i64 0]] W fun e w'=>e=.returned (.tuple #[.int .u32 v,.int .i64 0])∧Below W.heap.size W w') :
  Calls Tryz.prog 39 #[.int .u32 v] w fun e w'=>e=.returned (.tuple #[.agg #[.int .i64 o,.int .i64 0,.int .i64 a,.int .i64 0,.int .i64 0],.int .i64 0])∧Below w.heap.size w w':=by
 have hF:=fun W=>Zo o W;rw[hf] at hF;have HF:Hid (∀W,Calls Tryz.prog 79 #[.int .i64 o] W fun e w'=>e=.returned (.int .u8 71)∧Below W.heap.size W w'):=fun W=>(hF W).mono (by rintro e w' ⟨h,rfl⟩;exact ⟨h,Below.refl _ _⟩);clear hF;have HE:=Zh hE;have HD:=Zh (fun W=>ZX 71 100 W (by unfold IsF;decide));rw[show inB 71 100=false by decide] at HD;have HA:=Zh (fun W=>ZX 71 97 W (by unfold IsF;decide));rw[show inB 71 97=true by decide] at HA;have HB:=Zh (fun W=>ZX 71 98 W (by unfold IsF;decide));rw[show inB 71 98=false by decide] at HB;have HI:=Zh (fun W=>ZX 71 105 W (by unfold IsF;decide));rw[show inB 71 105=false by decide] at HI;clear hf hE;have hp:(w.alloc (.cells #[.int .i64 0,.int .i64 0,.int .i64 0,.int .i64 0,.int .i64 0] 127)).heap.size=w.heap.size+1:=by simp
 have hx0:=IAt.fresh (w.alloc (.cells #[.int .i64 0,.int .i64 0,.int .i64 0,.int .i64 0,.int .i64 0] 127)) o 0 0 0 0 127;rw[hp] at hx0;have HX0:=Zh hx0;have HR0:=Zh ((IAt.fresh w 0 0 0 0 0 127).past (.cells #[.int .i64 o,.int .i64 0,.int .i64 0,.int .i64 0,.int .i64 0] 127));have HB0:=Zh ((((Below.refl _ _).alloc (Nat.le_refl _) (.cells #[.int .i64 0,.int .i64 0,.int .i64 0,.int .i64 0,.int .i64 0] 127):Below w.heap.size w _).alloc (by simp) (.cells #[.int .i64 o,.int .i64 0,.int .i64 0,.int .i64 0,.int .i64 0] 127)));clear hx0 hp;go_enter Tryz.func39,Tryz.ntmps39
 go_wp2_with fail
 refine (HF.out _).mono ?_;rintro e w1 ⟨rfl,hw⟩;have HX1:=Zh (HX0.out.below hw);have HR1:=Zh (HR0.out.below hw);have HB1:=Zh (HB0.out.trans (hw.mono HB0.out.size));clear hw;obtain ⟨⟨x0,x1,x2,x3,x4,_⟩,xf⟩:=HX1.out;go_wp2_with fail
 refine (HD.out _).mono ?_;rintro e wq ⟨rfl,rfl⟩;go_wp2_with fail
 refine (HA.out _).mono ?_;rintro e wq ⟨rfl,rfl⟩;have HX2:=Zh (HX1.out.set2 a);have HR2:=Zh (HR1.out.off (q:=w.heap.size+1) (j:=2) (by omega) (.int .i64 a));have HB2:=Zh (HB1.out.setCell (p:=⟨w.heap.size+1,2,none⟩) (Nat.le_succ _) (.int .i64 a));obtain ⟨⟨y0,y1,y2,y3,y4,_⟩,yf⟩:=HX2.out;go_wp2_with fail
 clear x0 x1 x2 x3 x4 xf;clear y0 y1 y2 y3 y4 yf;obtain ⟨⟨x0,x1,x2,x3,x4,_⟩,xf⟩:=HX2.out;refine (HB.out _).mono ?_;rintro e wq ⟨rfl,rfl⟩;go_wp2_with fail
 refine (HI.out _).mono ?_;rintro e wq ⟨rfl,rfl⟩;go_wp2_with fail
 refine (HE.out _).mono ?_;rintro e we ⟨rfl,hw⟩;clear x0 x1 x2 x3 x4 xf;have HX9:=Zh (HX2.out.below hw);have HR9:=Zh (HR2.out.below hw);have HB9:=Zh (HB2.out.trans (hw.mono HB2.out.size));clear hw;obtain ⟨⟨x0,x1,x2,x3,x4,_⟩,xf⟩:=HX9.out;obtain ⟨⟨r0,r1,r2,r3,r4,_⟩,rf⟩:=HR9.out;go_wp2_with fail
 refine bodyPost_ret (v:=.tuple #[.agg #[.int .i64 o,.int .i64 0,.int .i64 a,.int .i64 0,.int .i64 0],.int .i64 0]) (by simp[results,Tryz.results39,r0,r1,r2,r3,r4,go_sem]) rfl ?_;exact ⟨rfl,((((HB9.out.setCell (p:=⟨w.heap.size,0,none⟩) (Nat.le_refl _) _).setCell (p:=⟨w.heap.size,1,none⟩) (Nat.le_refl _) _).setCell (p:=⟨w.heap.size,2,none⟩) (Nat.le_refl _) _).setCell (p:=⟨w.heap.size,3,none⟩) (Nat.le_refl _) _).setCell (p:=⟨w.heap.size,4,none⟩) (Nat.le_refl _) _⟩
theorem ZEo (a k:Nat) (ha:a<4294967296) (hk:k≤31):bits .and .i64 (a:Int) ((2^k-1:Nat):Int)=((a%2^k:Nat):Int):=by
 have h2:2^k≤2^31:=Nat.pow_le_pow_right (by decide) hk;have h3:a%2^k<2^k:=Nat.mod_lt _ (Nat.pow_pos (by decide));have e:(BitVec.ofInt 64 (a:Int) &&& BitVec.ofInt 64 ((2^k-1:Nat):Int)).toNat=a%2^k:=by
  simp only[BitVec.toNat_and,BitVec.ofInt_natCast,BitVec.toNat_ofNat];rw[Nat.mod_eq_of_lt (show a<2^64 by omega),Nat.mod_eq_of_lt (show 2^k-1<2^64 by omega),Nat.and_two_pow_sub_one_eq_mod]
 show IntKind.i64.wrap ((BitVec.ofInt 64 (a:Int) &&& BitVec.ofInt 64 ((2^k-1:Nat):Int)).toNat:Int)=_;rw[e];exact IntWalk.i64_in _ (by omega)
theorem ZBD (v p:Nat) (hv:v<4294967296):bits .and .i64 ((v:Int) / (p:Int)) 15=((v / p%16:Nat):Int):=by
 rw[show ((v:Int) / (p:Int))=((v / p:Nat):Int) by simp];exact ZEo (v / p) 4 (Nat.lt_of_le_of_lt (Nat.div_le_self _ _) hv) (by decide)
def ZBU (v o d a b:Nat) (i:Int):Prop:=∀w,Calls Tryz.prog 39 #[.int .u32 (v:Int)] w fun e w'=>e=.returned (.tuple #[.agg #[.int .i64 o,.int .i64 d,.int .i64 a,.int .i64 b,.int .i64 i],.int .i64 0])∧Below w.heap.size w w'
theorem encN_lt {o d a b i:Nat} (ho:o≤42) (hd:d≤15) (ha:a≤15) (hb:b≤15) (hi:i≤4095):encN o d a b i<4294967296:=by unfold encN;omega
theorem ZBe {o d a i:Nat} (ho:o≤42) (hd:d≤15) (ha:a≤15) (hi:i≤32767):encN o d a 0 i<4294967296:=by unfold encN;omega
theorem ZBG (o d a b i:Nat) (hch:ZA9 o d a b i=true) (ho:o≤42) (hd:d≤15) (ha:a≤15) (hb:b≤15) (hi:i≤32767):∀W,Calls Tryz.prog 75 #[.agg #[.int .i64 o,.int .i64 d,.int .i64 a,.int .i64 b,.int .i64 i]] W fun e w'=>e=.returned (.tuple #[.int .u32 (encN o d a b i:Nat),.int .i64 0])∧Below W.heap.size W w':=by
 intro W;have h:=ZEA o d a b i W hch ho hd ha hb (by omega) (by omega)
 rwa[(ZHJ ho hd ha hb hi).1] at h
theorem dec_R {o d a b:Nat} (hf:RF o=82) (hch:ZA9 o d a b 0=true) (ho:o≤42) (hd:d≤15) (ha:a≤15) (hb:b≤15):ZBU (encN o d a b 0) o d a b 0:=by
 intro w;have hv:=encN_lt ho hd ha hb (i:=0) (by omega);have h1:=ZBD (encN o d a b 0) 1048576 hv;have h2:=ZBD (encN o d a b 0) 65536 hv;have h3:=ZBD (encN o d a b 0) 4096 hv;rw[show encN o d a b 0 / 1048576%16=d by unfold encN;omega] at h1;rw[show encN o d a b 0 / 65536%16=a by unfold encN;omega] at h2;rw[show encN o d a b 0 / 4096%16=b by unfold encN;omega] at h3;exact rdecR_eq _ o d a b w hv (by unfold encN;omega) (by omega) h1 hd h2 ha h3 hb hf (ZBG o d a b 0 hch ho hd ha hb (by omega))
theorem ZEp {o d a i:Nat} (hv:encN o d a 0 i<4294967296) (hi:i≤32767):bits .and .i64 ((encN o d a 0 i:Nat):Int) 65535=(i:Int):=by
 have h:=ZEo (encN o d a 0 i) 16 hv (by decide);rw[show encN o d a 0 i%2^16=i by unfold encN;omega] at h;exact h
theorem dec_S {o d a i:Nat} (hf:RF o=83) (hch:ZA9 o d a 0 i=true) (ho:o≤42) (hd:d≤15) (ha:a≤15) (hi:i≤32767):ZBU (encN o d a 0 i) o d a 0 i:=by
 intro w;have hv:=ZBe ho hd ha hi;have h1:=ZBD (encN o d a 0 i) 1048576 hv;have h2:=ZBD (encN o d a 0 i) 65536 hv;rw[show encN o d a 0 i / 1048576%16=d by unfold encN;omega] at h1;rw[show encN o d a 0 i / 65536%16=a by unfold encN;omega] at h2;exact rdecS_eq _ o d a i i w hv (by unfold encN;omega) (by omega) h1 hd h2 ha (ZEp hv hi) (by omega) (by rw[if_pos (by omega)]) hf (ZBG o d a 0 i hch ho hd ha (by omega) hi)
theorem dec_T {o d a i:Nat} (hf:RF o=84) (hch:ZA9 o d a 0 i=true) (ho:o≤42) (hd:d≤15) (ha:a≤15) (hi:i≤32767):ZBU (encN o d a 0 i) o d a 0 i:=by
 intro w;have hv:=ZBe ho hd ha hi;have h1:=ZBD (encN o d a 0 i) 1048576 hv;have h2:=ZBD (encN o d a 0 i) 65536 hv;rw[show encN o d a 0 i / 1048576%16=d by unfold encN;omega] at h1;rw[show encN o d a 0 i / 65536%16=a by unfold encN;omega] at h2;exact rdecT_eq _ o d a i i w hv (by unfold encN;omega) (by omega) h1 hd h2 ha (ZEp hv hi) (by omega) (by rw[if_pos (by omega)]) hf (ZBG o d a 0 i hch ho hd ha (by omega) hi)
theorem dec_L {o d i:Nat} (hf:RF o=76) (hch:ZA9 o d 0 0 i=true) (ho:o≤42) (hd:d≤15) (hi:i≤32767):ZBU (encN o d 0 0 i) o d 0 0 i:=by
 intro w;have hv:=ZBe (a:=0) ho hd (by omega) hi;have h1:=ZBD (encN o d 0 0 i) 1048576 hv;rw[show encN o d 0 0 i / 1048576%16=d by unfold encN;omega] at h1;exact rdecL_eq _ o d i i w hv (by unfold encN;omega) (by omega) h1 hd (ZEp hv hi) (by omega) (by rw[if_pos (by omega)]) hf (ZBG o d 0 0 i hch ho hd (by omega) (by omega) hi)
theorem dec_W {o i:Nat} (hf:RF o=87) (hch:ZA9 o 0 0 0 i=true) (ho:o≤42) (hi:i≤32767):ZBU (encN o 0 0 0 i) o 0 0 0 i:=by
 intro w;have hv:=ZBe (a:=0) (d:=0) ho (by omega) (by omega) hi;exact rdecW_eq _ o i w hv (by unfold encN;omega) (by omega) (ZEp hv hi) (by omega) hf (ZBG o 0 0 0 i hch ho (by omega) (by omega) (by omega) hi)
theorem dec_G {o a:Nat} (hf:RF o=71) (hch:ZA9 o 0 a 0 0=true) (ho:o≤42) (ha:a≤15):ZBU (encN o 0 a 0 0) o 0 a 0 0:=by
 intro w;have hv:=ZBe (d:=0) ho (by omega) ha (i:=0) (by omega);have h2:=ZBD (encN o 0 a 0 0) 65536 hv;rw[show encN o 0 a 0 0 / 65536%16=a by unfold encN;omega] at h2;exact rdecG_eq _ o a w hv (by unfold encN;omega) (by omega) h2 ha hf (ZBG o 0 a 0 0 hch ho (by omega) ha (by omega) (by omega))
theorem dec_J {o i:Nat} (hf:RF o=74) (hch:ZA9 o 0 0 0 i=true) (ho:o≤42) (hi:i≤32767):ZBU (encN o 0 0 0 i) o 0 0 0 i:=by
 intro w;have hv:=ZBe (a:=0) (d:=0) ho (by omega) (by omega) hi;have h:=ZEo (encN o 0 0 0 i) 24 hv (by decide);rw[show encN o 0 0 0 i%2^24=i by unfold encN;omega] at h;exact rdecJ_eq _ o i i w hv (by unfold encN;omega) (by omega) h (by omega) (by rw[if_pos (by omega)]) hf (ZBG o 0 0 0 i hch ho (by omega) (by omega) (by omega) hi)
end Go.Proofs.YtggmkofbikafhaaGreatDoor
namespace Go.Proofs.YtggmkofbikafhaaGreatDoor
open Go.RowKit Go.Lib
structure Rng where
 nm:ByteArray
 fr:Int
 sz:Int
 wr:Bool
 ex:Bool
def Rng.cells (r:Rng):List Value:=[.string r.nm,.int .i64 r.fr,.int .i64 r.sz,.bool r.wr,.bool r.ex]
theorem ZJN (r:Rng):r.cells.length=5:=rfl
theorem und_rgs:Tryz.prog.underlying 43=some (.slice 42):=by kernel_rfl
theorem inf_rg:(Tryz.prog.info? 42).map (fun i=>(i.zero,i.size,i.bytes))=some (some (.agg #[.string ⟨#[]⟩,.int .i64 0,.int .i64 0,.bool false,.bool false]),5,40):=by kernel_rfl
theorem arowR:ZHl 43 42 5 40:=ZAy und_rgs inf_rg rfl (by decide)
def ZAg (W:World) (B:Nat) (v:Value) (l:List Rng):Prop:=W.ownsRow B 42 5 v l.length (l.flatMap Rng.cells)
theorem ZJM (r:Rng):∀y∈r.cells,y.oneCell'=true:=by
 intro y hy;simp[Rng.cells] at hy;rcases hy with rfl|rfl|rfl|rfl|rfl<;>rfl
theorem ZAg.below {W W':World} {B:Nat} {v:Value} {l:List Rng} (h:ZAg W B v l) (hb:Below W.heap.size W W'):ZAg W' B v l:=ZB h (ZC (fun _=>False) hb) (fun _ _=>id)
theorem ZAg.form {W:World} {B:Nat} {v:Value} {l:List Rng} (h:ZAg W B v l):∃A c,v=.slice A l.length c∧l.length≤c∧c≤maxLen:=slice_form h
theorem ZAg.ge {W:World} {B:Nat} {v:Value} {l:List Rng} (h:ZAg W B v l):∀g,v.ownBlock=some g→B≤g:=fun g hg=>ZAB h hg
theorem ZAg.row {W:World} {B:Nat} {v:Value} {l:List Rng} (h:ZAg W B v l):RowOf W v l.length (l.flatMap Rng.cells):=RowOf.own h
theorem ZB3 {W:World} {A:Option Addr} {n c:Nat} {l:List Rng} (h:RowOf W (.slice A n c) l.length (l.flatMap Rng.cells)) {j:Nat} (hj:j<l.length) :
  ∃g off,A=some ⟨g,off,none⟩∧g<W.heap.size∧∀i (hi:i<l.length),W.cell? ⟨g,off+i*5,none⟩=some (.string l[i].nm)∧W.cell? ⟨g,off+i*5+1,none⟩=some (.int .i64 l[i].fr)∧W.cell? ⟨g,off+i*5+2,none⟩=some (.int .i64 l[i].sz)∧W.cell? ⟨g,off+i*5+3,none⟩=some (.bool l[i].wr)∧W.cell? ⟨g,off+i*5+4,none⟩=some (.bool l[i].ex):=by
 obtain ⟨g,off,cap,e,h2,h3,h4,h5⟩:=RowOf.open_ h (by omega);injection e with e1 e2 e3
 refine ⟨g,off,e1,h4,fun i hi=>?_⟩;have hf:=fun q (hq:q<5)=>Zg Rng.cells 5 ZJN l i hi q hq;refine ⟨?_,?_,?_,?_,?_⟩
 ·exact h5 (i*5) _ (by have:=hf 0 (by omega);rw[Nat.add_zero] at this;rw[this];rfl)
 ·rw[Nat.add_assoc];exact h5 (i*5+1) _ (by rw[hf 1 (by omega)];rfl)
 ·rw[Nat.add_assoc];exact h5 (i*5+2) _ (by rw[hf 2 (by omega)];rfl)
 ·rw[Nat.add_assoc];exact h5 (i*5+3) _ (by rw[hf 3 (by omega)];rfl)
 ·rw[Nat.add_assoc];exact h5 (i*5+4) _ (by rw[hf 4 (by omega)];rfl)
theorem ZAg.one (W:World) (r:Rng):ZAg (W.alloc (.cells #[.string r.nm,.int .i64 r.fr,.int .i64 r.sz,.bool r.wr,.bool r.ex] 42)) W.heap.size (.slice (some ⟨W.heap.size,0,none⟩) 1 1) [r]:=
 ⟨by simp[Rng.cells],Or.inr ⟨W.heap.size,1,_,rfl,Nat.le_refl _,heap_alloc_new W _,Nat.le_refl _,by show 1≤maxLen;decide,by simp,by simp[Rng.cells]⟩⟩
theorem ZAg.keepsB {W W':World} {B:Nat} {v:Value} {l:List Rng} (h:ZAg W B v l) (hk:ZE (fun k=>v.ownBlock=some k) W W') (hB:B≤W.heap.size):Below B W W':=
 hk.toBelow hB (fun k hk' hv=>by have:=h.ge k hv;omega)
theorem ZAg.push {W:World} {B:Nat} {v:Value} {l:List Rng} (h:ZAg W B v l) (hB:B≤W.heap.size) (hs:l.length<1000000) (r:Rng) (ty:TypeId) :
  ∃v' W',(Builtin.append_ #[43,43] ty #[v,.slice (some ⟨W.heap.size,0,none⟩) 1 1]).run Tryz.prog (W.alloc (.cells #[.string r.nm,.int .i64 r.fr,.int .i64 r.sz,.bool r.wr,.bool r.ex] 42))=.ok v' W'∧ZAg W' B v' (l++[r])∧ZE (fun k=>v.ownBlock=some k) W W':=by
 have ha:Below W.heap.size W (W.alloc (.cells #[.string r.nm,.int .i64 r.fr,.int .i64 r.sz,.bool r.wr,.bool r.ex] 42)):=ZV _ _;have k1:=h.below ha;have hu:=(ZAg.one W r).row;simp only[List.flatMap_cons,List.flatMap_nil,List.append_nil,List.length_singleton] at hu;obtain ⟨v',W',e1,e2,e3,e4⟩:=app_any arowR ty k1 hu (by simp[Rng.cells]) (ZJM r) (by unfold maxLen;omega) (by omega) (by simp[World.size_alloc];omega);refine ⟨v',W',e1,?_,((ZE.refl (fun k=>v.ownBlock=some k) W).alloc _).trans ((ZE.refl _ _).grown e3 (fun g hg=>Or.inr hg)) (fun _ _ h=>h)⟩;unfold ZAg;rw[List.length_append,List.flatMap_append]
 simpa using e2
theorem ZAg.grow {W:World} {B:Nat} {v:Value} {l:List Rng} {n:Nat} {A:Option Addr} (h:ZAg W B v l) (hv:v=.slice A n n) (hn:0<l.length) (hs:l.length<1000000) (r:Rng) (ty:TypeId) :
  ∃v' W',(Builtin.append_ #[43,43] ty #[v,.slice (some ⟨W.heap.size,0,none⟩) 1 1]).run Tryz.prog (W.alloc (.cells #[.string r.nm,.int .i64 r.fr,.int .i64 r.sz,.bool r.wr,.bool r.ex] 42))=.ok v' W'∧ZAg W' W.heap.size v' (l++[r])∧Below W.heap.size (W.alloc (.cells #[.string r.nm,.int .i64 r.fr,.int .i64 r.sz,.bool r.wr,.bool r.ex] 42)) W':=by
 have ha:Below W.heap.size W (W.alloc (.cells #[.string r.nm,.int .i64 r.fr,.int .i64 r.sz,.bool r.wr,.bool r.ex] 42)):=ZV _ _;have k1:=(h.below ha).row;have hu:=(ZAg.one W r).row;simp only[List.flatMap_cons,List.flatMap_nil,List.append_nil,List.length_singleton] at hu;obtain ⟨g,off,cap,e,h2,h3,h4,h5⟩:=RowOf.open_ k1 hn;obtain ⟨g',off',cap',e',-,-,-,h5'⟩:=RowOf.open_ hu (by decide);injection e' with e1' e2' e3'
 injection e1' with e1'
 injection e1' with e4' e5'
 subst e4';subst e5';subst hv;injection e with e1 e2 e3
 subst e1;subst e2;obtain ⟨i,z,hi,hz,hs,hb,hc⟩:=arowR.i;obtain ⟨v',W',q1,q2,q3⟩:=run_append_arg_grows (P:=Tryz.prog) (W.alloc (.cells #[.string r.nm,.int .i64 r.fr,.int .i64 r.sz,.bool r.wr,.bool r.ex] 42)) 43 ty 42 i z 5 40 arowR.u hi hz hs hb hc (by decide) ⟨g,off,none⟩ l.length l.length (l.flatMap Rng.cells) (ZAZ Rng.cells 5 ZJN l) (fun j u hj=>by rw[addr_add];exact h5 j u hj) ⟨W.heap.size,0,none⟩ 1 1 r.cells (by simp[Rng.cells]) (fun j u hj=>by rw[addr_add];exact h5' j u hj) (by omega) (by unfold maxLen;omega) (by omega);refine ⟨v',W',q1,?_,?_⟩
 ·unfold ZAg
  rw[List.length_append,List.flatMap_append];exact ZO (by simpa using q2) (by simp[World.size_alloc])
 ·exact ⟨q3.os,q3.tape,q3.output,q3.size,fun k hk=>q3.block k (by simp[World.size_alloc];omega) (by simp)⟩
end Go.Proofs.YtggmkofbikafhaaGreatDoor
