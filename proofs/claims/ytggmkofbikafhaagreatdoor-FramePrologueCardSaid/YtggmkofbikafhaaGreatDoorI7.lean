/- Walks and plain laws on the way to FramePrologue (I3, I5, I6, I7). Conditions: those that each theorem states. -/
import Derived.Test.YtggmkofbikafhaaGreatDoorI2
import Derived.Test.YtggmkofbikafhaaGreatDoorShelf
set_option linter.unusedVariables false
set_option linter.unusedSimpArgs false
set_option maxRecDepth 100000
set_option maxHeartbeats 40000000
namespace Go.Proofs.YtggmkofbikafhaaGreatDoor
open Go.RowKit
theorem ZKz (ss:List ByteArray) (s:ByteArray):ZBz ss s=true↔s∈ss:=by
 unfold ZBz;rw[List.any_eq_true]
 constructor
 ·rintro ⟨x,hx,he⟩
  have:x=s:=eq_of_toList (by simpa using he);exact this▸hx
 ·intro h
  exact ⟨s,h,by simp⟩
theorem ZDt (ss:List ByteArray) (s:ByteArray):Lib.containsS ss s=ZBz ss s:=by
 rw[Bool.eq_iff_iff,Lib.containsS_iff,ZKz]
def Zj (w:World):Prop:=∀j,j<keysL.length→w.cell? ⟨3,0+j,none⟩=some (.string (keysL.getD j ByteArray.empty))
theorem Zj.lt {w:World} (h:Zj w):3<w.heap.size:=cell_lt (h 0 (by decide))
theorem Zj.keeps {w w':World} {F:Nat→Prop} (h:Zj w) (hk:ZE F w w') (hF:¬F 3):Zj w':=fun j hj=>(hk.cell (p:=⟨3,0+j,none⟩) h.lt hF).trans (h j hj)
theorem Zj.below {w w':World} (h:Zj w) (hb:Below w.heap.size w w'):Zj w':=h.keeps (ZC (fun _=>False) hb) id
theorem ZJ6 (s:ByteArray) (w:World) (h:Zj w):Calls Tryz.prog 203 #[.string s] w fun e w'=>e=.returned (.bool (ZBz keysL s))∧w'=w:=by
 have hc:=Tryz.slices_Contains_string 3 0 20 20 keysL s w (by decide) (by decide) h;have ht:keysL.take 20=keysL:=rfl;rw[ht,ZDt] at hc;have HC:=Zh hc;clear hc ht h;go_enter Tryz.func203,Tryz.ntmps203
 go_wp2_with fail
 refine HC.out.mono ?_;rintro e w' ⟨rfl,rfl⟩;go_wp2_with fail
 go_ret;exact ⟨rfl,rfl⟩
theorem ZGs (s:ByteArray) (h:0<s.size):s.toList.isEmpty=false:=by
 cases hl:s.toList with
 | nil=>
  have h2:s.data.toList=[]:=by rw[←hl,Lib.toList_data]
  have h4:=congrArg List.length h2;rw[Array.length_toList] at h4;exact absurd (show s.size=0 from h4) (by omega)
 | cons _ _=>rfl
theorem ZFs (s:ByteArray) (h:¬0<s.size):s.toList.isEmpty=true:=by
 have h2:s.data.toList=[]:=by
  apply List.length_eq_zero_iff.1
  rw[Array.length_toList];exact (show s.size=0 by omega)
 rw[Lib.toList_data,h2];rfl
theorem ZEO (s:ByteArray) (w:World) (hs:s.size≤maxLen) (hk:Zj w):Calls Tryz.prog 172 #[.string s] w fun e w'=>e=.returned (.bool (ZAh s))∧Below w.heap.size w w':=by
 have hs':=hs;unfold maxLen at hs;have hblk:Blk (w.alloc (.cells #[.string s,.int .i64 0] 319)) w.heap.size 319 #[.string s,.int .i64 0]:=Blk.new _ _ _;have HW:=Zh (word_any s w.heap.size _ hblk hs');have HB:=Zh ((Below.refl w.heap.size w).alloc (Nat.le_refl _) (.cells #[.string s,.int .i64 0] 319));have HK:=Zh hk;have hklt:=hk.lt;clear hk hblk hs'
 by_cases h0:0<s.size
 ·have e0:=ZGs s h0
  by_cases h1:s.size≤31
  ·obtain ⟨c,hc⟩:∃c:Nat,(s[0]'h0).toNat=c:=⟨_,rfl⟩
   have LQ:=Zh (fun w=>ZEM c w)
   cases hl:ZCW c with
   | true=>
    rw[hl] at LQ;have hfin:ZAh s=(s.data.toList.all (fun c=>wcB c.toNat) && !ZBz keysL s):=by simp[ZAh,h0,h1,hc,hl]
    have HFIN:=Zh hfin;clear hfin hl;go_enter Tryz.func172,Tryz.ntmps172
    go_wp2_with fail
    refine (LQ.out _).mono ?_;rintro e w1 ⟨rfl,rfl⟩;go_wp2_with fail
    refine HW.out.mono ?_;rintro e w1 ⟨r,rfl,hr,hkp⟩;have HB1:=Zh ((HB.out).trans (hkp.toBelow (by simp) (fun k hk=>by omega)));have HKK:=Zh (HK.out.below HB1.out);have KQ:=Zh (ZJ6 s w1 HKK.out);clear hkp
    cases ha:s.data.toList.all (fun c=>wcB c.toNat) with
    | true=>
     rw[ha] at hr HFIN;clear ha;go_wp2_with fail
     refine KQ.out.mono ?_;rintro e w2 ⟨rfl,rfl⟩
     cases hka:ZBz keysL s with
     | true=>
      rw[hka] at HFIN;go_wp2_with fail
      go_ret;exact ⟨ZF (by rw[HFIN.out];rfl),HB1.out⟩
     | false=>
      rw[hka] at HFIN;go_wp2_with fail
      go_ret;exact ⟨ZF (by rw[HFIN.out];rfl),HB1.out⟩
    | false=>
     rw[ha] at hr HFIN;clear ha;go_wp2_with fail
     go_ret;exact ⟨ZF (by rw[HFIN.out];rfl),HB1.out⟩
   | false=>
    rw[hl] at LQ;have hfin:ZAh s=false:=by simp[ZAh,h0,h1,hc,hl]
    have HFIN:=Zh hfin;clear hfin hl;go_enter Tryz.func172,Tryz.ntmps172
    go_wp2_with fail
    refine (LQ.out _).mono ?_;rintro e w1 ⟨rfl,rfl⟩;go_wp2_with fail
    go_ret;exact ⟨ZF HFIN.out.symm,HB.out⟩
  ·have hfin:ZAh s=false:=by simp[ZAh,h0,h1]
   have HFIN:=Zh hfin;clear hfin;go_enter Tryz.func172,Tryz.ntmps172
   go_wp2_with fail
   go_ret;exact ⟨ZF HFIN.out.symm,HB.out⟩
 ·have e0:=ZFs s h0
  have hfin:ZAh s=false:=by simp[ZAh,h0]
  have HFIN:=Zh hfin;clear hfin;go_enter Tryz.func172,Tryz.ntmps172
  go_wp2_with fail
  go_ret;exact ⟨ZF HFIN.out.symm,HB.out⟩
theorem ZGt (s:ByteArray) (w:World):Calls Tryz.prog 239 #[.string s] w fun e w'=>e=.returned (.bool (ZCE s).isSome)∧w'=w:=by
 have HB:=Zh (ZF4 s w);have HV:=Zh (show ∃n a,ZDa s=.tuple #[.int .i64 n,.bool a,.bool (ZCE s).isSome] by
  unfold ZDa
  cases ZCE s with
  | none=>exact ⟨_,_,rfl⟩
  | some p=>exact ⟨_,_,rfl⟩)
 go_enter Tryz.func239,Tryz.ntmps239
 go_wp2_with fail
 refine HB.out.mono ?_;rintro e w1 ⟨rfl,rfl⟩;obtain ⟨n,a,hv⟩:=HV.out;rw[hv];go_wp2_with fail
 go_ret;exact ⟨rfl,rfl⟩
theorem tx_any (k:TxK) (s:ByteArray) (w:World) (hs:s.size≤maxLen) (hk:Zj w):Calls Tryz.prog (txF k) #[.string s] w fun e w'=>e=.returned (.bool (txB k s))∧Below w.heap.size w w':=by
 cases k
 ·exact (empty_any s w).mono (fun e w' h=>⟨h.1,h.2▸Below.refl _ _⟩)
 ·exact ZEO s w hs hk
 ·exact (ZGt s w).mono (fun e w' h=>⟨h.1,h.2▸Below.refl _ _⟩)
def wordsV:Value:=.agg #[.string ⟨#[97,100,100]⟩,.string ⟨#[115,117,98]⟩,.string ⟨#[109,117,108]⟩,.string ⟨#[100,105,118]⟩,.string ⟨#[100,105,118,117]⟩,.string ⟨#[114,101,109]⟩,.string ⟨#[114,101,109,117]⟩,.string ⟨#[97,110,100]⟩,.string ⟨#[111,114]⟩,.string ⟨#[120,111,114]⟩,.string ⟨#[115,104,108]⟩,.string ⟨#[115,104,114]⟩,.string ⟨#[115,104,114,117]⟩,.string ⟨#[108,116]⟩,.string ⟨#[108,116,117]⟩,.string ⟨#[101,113]⟩,.string ⟨#[110,101]⟩]
theorem words_at (w:World):∀j,j<17→∃r,(Instr.index 356 wordsV (.int .i64 (j:Nat))).run Tryz.prog w=.ok (.string r) w
 | 0,_=>⟨⟨#[97,100,100]⟩,by kernel_rfl⟩
 | 1,_=>⟨⟨#[115,117,98]⟩,by kernel_rfl⟩
 | 2,_=>⟨⟨#[109,117,108]⟩,by kernel_rfl⟩
 | 3,_=>⟨⟨#[100,105,118]⟩,by kernel_rfl⟩
 | 4,_=>⟨⟨#[100,105,118,117]⟩,by kernel_rfl⟩
 | 5,_=>⟨⟨#[114,101,109]⟩,by kernel_rfl⟩
 | 6,_=>⟨⟨#[114,101,109,117]⟩,by kernel_rfl⟩
 | 7,_=>⟨⟨#[97,110,100]⟩,by kernel_rfl⟩
 | 8,_=>⟨⟨#[111,114]⟩,by kernel_rfl⟩
 | 9,_=>⟨⟨#[120,111,114]⟩,by kernel_rfl⟩
 | 10,_=>⟨⟨#[115,104,108]⟩,by kernel_rfl⟩
 | 11,_=>⟨⟨#[115,104,114]⟩,by kernel_rfl⟩
 | 12,_=>⟨⟨#[115,104,114,117]⟩,by kernel_rfl⟩
 | 13,_=>⟨⟨#[108,116]⟩,by kernel_rfl⟩
 | 14,_=>⟨⟨#[108,116,117]⟩,by kernel_rfl⟩
 | 15,_=>⟨⟨#[101,113]⟩,by kernel_rfl⟩
 | 16,_=>⟨⟨#[110,101]⟩,by kernel_rfl⟩
 | _+17,h=>absurd h (by omega)
theorem ZGI (n:Int) (h:3≤n∧n≤19) (w:World):Calls Tryz.prog 231 #[.int .i64 n] w fun e w'=>∃r,e=.returned (.string r)∧w'=w:=by
 obtain ⟨h1,h2⟩:=h;obtain ⟨j,hj⟩:∃j:Nat,n-3=(j:Int):=⟨(n-3).toNat,by omega⟩
 obtain ⟨r,hr⟩:=words_at w j (by omega)
 rw[←hj] at hr
 unfold wordsV at hr;clear hj j;go_enter Tryz.func231,Tryz.ntmps231
 go_wp2;go_ret;exact ⟨_,rfl,rfl⟩
def ZG5 (regs sl st:Int):Value:=.agg #[.int .i64 regs,.int .i64 sl,.int .i64 st]
theorem ZGb (regs sl st r:Int) (u m:Bool) (w:World):Calls Tryz.prog 205 #[ZG5 regs sl st,.int .i64 r,.bool u,.bool m] w fun e w'=>e=.returned (.bool (ZBL regs r u m))∧Below w.heap.size w w':=by
 unfold ZG5;rcases (show r=-1∨(r≠-1∧r<0)∨(r≠-1∧0≤r∧r<regs)∨(r≠-1∧0≤r∧regs≤r) by omega) with rfl|⟨h,h'⟩|⟨h,h',h''⟩|⟨h,h',h''⟩
 all_goals
  cases u<;>cases m
 all_goals
  go_enter Tryz.func205,Tryz.ntmps205
  go_wp2;go_ret;refine ⟨ZF (by rw[Bool.eq_iff_iff];simp[ZBL];try omega),?_⟩;exact (by repeat (first|exact Below.refl _ _|refine Below.alloc ?_ (Nat.le_refl _) _))
@[local go_sem] theorem ZAo (P:Program) (w:World) (a:Addr) (fn:Go.Fn) (first captured:Array Value) (m:Mode):(store a (.func fn first captured) m).run P w=stored P w a (.func fn first captured) m:=run_store P w a _ m rfl
@[local go_sem] theorem ZA1 (P:Program) (w:World) (a:Addr) (m:Mode):(store a .nilFunc m).run P w=stored P w a .nilFunc m:=run_store P w a _ m rfl
def ZCK (r:Rule) (s:ByteArray):Value:=.agg #[.string s,.bool r.d,.bool r.a,.bool r.b,.func (.func (imF r.im)) #[] #[],.func (.func (txF r.tx)) #[] #[],.bool r.ar,.bool r.mb]
def rul0:Value:=.agg #[.string ⟨#[]⟩,.bool false,.bool false,.bool false,.nilFunc,.nilFunc,.bool false,.bool false]
theorem ZHx (k:Int) (w:World):Calls Tryz.prog 207 #[.int .i64 k] w fun e w'=>(∃rv,e=.returned (.tuple #[rv,.bool (ruleL k).isSome])∧(∀r,ruleL k=some r→∃s,rv=ZCK r s)∧(ruleL k=none→rv=rul0))∧Below w.heap.size w w':=by
 rcases (show k<1∨(3≤k∧k≤19)∨k=1∨k=2∨k=20∨k=21∨k=22∨k=23∨k=24∨k=25∨k=26∨k=27∨k=28∨k=29∨29<k by omega) with h|h|rfl|rfl|rfl|rfl|rfl|rfl|rfl|rfl|rfl|rfl|rfl|rfl|h
 case inr.inl=>
  have HW:=Zh (fun w=>ZGI k h w);have hr:ruleL k=some ⟨true,true,true,.none,.empty,false,false⟩:=by simp[ruleL,h]
  have HR:=Zh hr;clear hr;obtain ⟨h1,h2⟩:=h;go_enter Tryz.func207,Tryz.ntmps207
  go_wp2_with fail
  refine (HW.out _).mono ?_;rintro e w1 ⟨r,rfl,rfl⟩;go_wp2_with fail
  refine bodyPost_ret (v:=.tuple #[ZCK ⟨true,true,true,.none,.empty,false,false⟩ r,.bool true]) (by simp[results,Tryz.results207,go_sem,ZCK,imF,txF]) rfl ⟨⟨_,by rw[HR.out];rfl,?_,fun h=>by rw[HR.out] at h;cases h⟩,?_⟩
  ·intro r' h'
   rw[HR.out] at h'
   cases h'
   exact ⟨_,rfl⟩
  ·exact (by repeat (first|exact Below.refl _ _|refine Below.alloc ?_ (Nat.le_refl _) _))
 ·have HR:=Zh (show ruleL k=none by unfold ruleL;repeat (first|rw[if_neg (by omega)]|rfl))
  go_enter Tryz.func207,Tryz.ntmps207
  go_wp2;refine bodyPost_ret (v:=.tuple #[.agg #[.string ⟨#[]⟩,.bool false,.bool false,.bool false,.nilFunc,.nilFunc,.bool false,.bool false],.bool false]) (by simp[results,Tryz.results207,go_sem]) rfl ⟨⟨_,by rw[HR.out];rfl,?_,fun _=>rfl⟩,?_⟩
  ·intro r' h'
   rw[HR.out] at h'
   cases h'
  ·exact (by repeat (first|exact Below.refl _ _|refine Below.alloc ?_ (Nat.le_refl _) _))
 ·go_enter Tryz.func207,Tryz.ntmps207
  go_wp2;refine bodyPost_ret (v:=.tuple #[ZCK ⟨true,false,false,.const,.empty,false,false⟩ ⟨#[99,111,110,115,116]⟩,.bool true]) (by simp[results,Tryz.results207,go_sem,ZCK,imF,txF]) rfl ⟨⟨_,rfl,?_,fun h=>by cases h⟩,?_⟩
  ·intro r' h'
   cases h'
   exact ⟨_,rfl⟩
  ·exact (by repeat (first|exact Below.refl _ _|refine Below.alloc ?_ (Nat.le_refl _) _))
 ·go_enter Tryz.func207,Tryz.ntmps207
  go_wp2;refine bodyPost_ret (v:=.tuple #[ZCK ⟨true,true,false,.none,.empty,false,false⟩ ⟨#[109,111,118,101]⟩,.bool true]) (by simp[results,Tryz.results207,go_sem,ZCK,imF,txF]) rfl ⟨⟨_,rfl,?_,fun h=>by cases h⟩,?_⟩
  ·intro r' h'
   cases h'
   exact ⟨_,rfl⟩
  ·exact (by repeat (first|exact Below.refl _ _|refine Below.alloc ?_ (Nat.le_refl _) _))
 ·go_enter Tryz.func207,Tryz.ntmps207
  go_wp2;refine bodyPost_ret (v:=.tuple #[ZCK ⟨true,true,false,.halves,.empty,false,false⟩ ⟨#[101,120,116]⟩,.bool true]) (by simp[results,Tryz.results207,go_sem,ZCK,imF,txF]) rfl ⟨⟨_,rfl,?_,fun h=>by cases h⟩,?_⟩
  ·intro r' h'
   cases h'
   exact ⟨_,rfl⟩
  ·exact (by repeat (first|exact Below.refl _ _|refine Below.alloc ?_ (Nat.le_refl _) _))
 ·go_enter Tryz.func207,Tryz.ntmps207
  go_wp2;refine bodyPost_ret (v:=.tuple #[ZCK ⟨true,false,false,.from0,.empty,false,false⟩ ⟨#[115,108,111,116]⟩,.bool true]) (by simp[results,Tryz.results207,go_sem,ZCK,imF,txF]) rfl ⟨⟨_,rfl,?_,fun h=>by cases h⟩,?_⟩
  ·intro r' h'
   cases h'
   exact ⟨_,rfl⟩
  ·exact (by repeat (first|exact Below.refl _ _|refine Below.alloc ?_ (Nat.le_refl _) _))
 ·go_enter Tryz.func207,Tryz.ntmps207
  go_wp2;refine bodyPost_ret (v:=.tuple #[ZCK ⟨true,false,false,.none,.name,false,false⟩ ⟨#[103,108,111,98,97,108]⟩,.bool true]) (by simp[results,Tryz.results207,go_sem,ZCK,imF,txF]) rfl ⟨⟨_,rfl,?_,fun h=>by cases h⟩,?_⟩
  ·intro r' h'
   cases h'
   exact ⟨_,rfl⟩
  ·exact (by repeat (first|exact Below.refl _ _|refine Below.alloc ?_ (Nat.le_refl _) _))
 ·go_enter Tryz.func207,Tryz.ntmps207
  go_wp2;refine bodyPost_ret (v:=.tuple #[ZCK ⟨true,false,false,.from0,.empty,false,false⟩ ⟨#[115,116,114,105,110,103]⟩,.bool true]) (by simp[results,Tryz.results207,go_sem,ZCK,imF,txF]) rfl ⟨⟨_,rfl,?_,fun h=>by cases h⟩,?_⟩
  ·intro r' h'
   cases h'
   exact ⟨_,rfl⟩
  ·exact (by repeat (first|exact Below.refl _ _|refine Below.alloc ?_ (Nat.le_refl _) _))
 ·go_enter Tryz.func207,Tryz.ntmps207
  go_wp2;refine bodyPost_ret (v:=.tuple #[ZCK ⟨true,false,false,.none,.name,false,false⟩ ⟨#[102,117,110,99]⟩,.bool true]) (by simp[results,Tryz.results207,go_sem,ZCK,imF,txF]) rfl ⟨⟨_,rfl,?_,fun h=>by cases h⟩,?_⟩
  ·intro r' h'
   cases h'
   exact ⟨_,rfl⟩
  ·exact (by repeat (first|exact Below.refl _ _|refine Below.alloc ?_ (Nat.le_refl _) _))
 ·go_enter Tryz.func207,Tryz.ntmps207
  go_wp2;refine bodyPost_ret (v:=.tuple #[ZCK ⟨true,true,false,.widths,.empty,false,false⟩ ⟨#[108,111,97,100]⟩,.bool true]) (by simp[results,Tryz.results207,go_sem,ZCK,imF,txF]) rfl ⟨⟨_,rfl,?_,fun h=>by cases h⟩,?_⟩
  ·intro r' h'
   cases h'
   exact ⟨_,rfl⟩
  ·exact (by repeat (first|exact Below.refl _ _|refine Below.alloc ?_ (Nat.le_refl _) _))
 ·go_enter Tryz.func207,Tryz.ntmps207
  go_wp2;refine bodyPost_ret (v:=.tuple #[ZCK ⟨false,true,true,.widths,.empty,false,false⟩ ⟨#[115,116,111,114,101]⟩,.bool true]) (by simp[results,Tryz.results207,go_sem,ZCK,imF,txF]) rfl ⟨⟨_,rfl,?_,fun h=>by cases h⟩,?_⟩
  ·intro r' h'
   cases h'
   exact ⟨_,rfl⟩
  ·exact (by repeat (first|exact Below.refl _ _|refine Below.alloc ?_ (Nat.le_refl _) _))
 ·go_enter Tryz.func207,Tryz.ntmps207
  go_wp2;refine bodyPost_ret (v:=.tuple #[ZCK ⟨false,true,true,.copied,.empty,false,false⟩ ⟨#[99,111,112,121]⟩,.bool true]) (by simp[results,Tryz.results207,go_sem,ZCK,imF,txF]) rfl ⟨⟨_,rfl,?_,fun h=>by cases h⟩,?_⟩
  ·intro r' h'
   cases h'
   exact ⟨_,rfl⟩
  ·exact (by repeat (first|exact Below.refl _ _|refine Below.alloc ?_ (Nat.le_refl _) _))
 ·go_enter Tryz.func207,Tryz.ntmps207
  go_wp2;refine bodyPost_ret (v:=.tuple #[ZCK ⟨true,true,false,.none,.empty,true,true⟩ ⟨#[99,97,108,108]⟩,.bool true]) (by simp[results,Tryz.results207,go_sem,ZCK,imF,txF]) rfl ⟨⟨_,rfl,?_,fun h=>by cases h⟩,?_⟩
  ·intro r' h'
   cases h'
   exact ⟨_,rfl⟩
  ·exact (by repeat (first|exact Below.refl _ _|refine Below.alloc ?_ (Nat.le_refl _) _))
 ·go_enter Tryz.func207,Tryz.ntmps207
  go_wp2;refine bodyPost_ret (v:=.tuple #[ZCK ⟨true,false,false,.none,.built,true,true⟩ ⟨#[98,117,105,108,116]⟩,.bool true]) (by simp[results,Tryz.results207,go_sem,ZCK,imF,txF]) rfl ⟨⟨_,rfl,?_,fun h=>by cases h⟩,?_⟩
  ·intro r' h'
   cases h'
   exact ⟨_,rfl⟩
  ·exact (by repeat (first|exact Below.refl _ _|refine Below.alloc ?_ (Nat.le_refl _) _))
 ·have HR:=Zh (show ruleL k=none by unfold ruleL;repeat (first|rw[if_neg (by omega)]|rfl))
  go_enter Tryz.func207,Tryz.ntmps207
  go_wp2;refine bodyPost_ret (v:=.tuple #[.agg #[.string ⟨#[]⟩,.bool false,.bool false,.bool false,.nilFunc,.nilFunc,.bool false,.bool false],.bool false]) (by simp[results,Tryz.results207,go_sem]) rfl ⟨⟨_,by rw[HR.out];rfl,?_,fun _=>rfl⟩,?_⟩
  ·intro r' h'
   rw[HR.out] at h'
   cases h'
  ·exact (by repeat (first|exact Below.refl _ _|refine Below.alloc ?_ (Nat.le_refl _) _))
def intOf:Value→Int
 | .int _ n=>n
 | _=>0
def ZCq {α:Type} (w:World) (k:Nat) (cap:Array Value) (val:World→α→Value→Prop) (p:α→Bool):Prop:=
 ∀W,Below w.heap.size w W→∀x v,val W x v→Calls Tryz.prog k (#[v]++cap) W fun e W'=>e=.returned (.bool (p x))∧Below W.heap.size W W'
theorem ZCq.on {α:Type} {w:World} {k:Nat} {cap:Array Value} {val:World→α→Value→Prop} {p:α→Bool} {l:List α} (h:ZCq w k cap val p):ZCq w k cap (fun W x v=>val W x v∧x∈l) p:=fun W hb x v hv=>h W hb x v hv.1
theorem ZDe {α:Type} {l:List α} {p:α→Bool} {k:Nat} (hk:k<l.length) (h:(l.take k).any p=false) (h2:p l[k]=false):(l.take (k+1)).any p=false:=by
 rw[List.take_succ_eq_append_getElem hk,List.any_append,h];simp[h2]
theorem ZFD {α:Type} {l:List α} {p:α→Bool} {k:Nat} (hk:k<l.length) (h2:p l[k]=true):l.any p=true:=by
 rw[List.any_eq_true];exact ⟨l[k],List.getElem_mem _,h2⟩
theorem ZG7 {α:Type} {l:List α} {p:α→Bool} {k:Nat} (hk:l.length≤k) (h:(l.take k).any p=false):l.any p=false:=by
 rwa[List.take_of_length_le hk] at h
def opv (x:Op) (av:Value):Value:=.agg #[.int .i64 x.k,.int .i64 x.d,.int .i64 x.a,.int .i64 x.b,.int .i64 x.im,.string x.tx,av]
def blv (x:Bl) (ov:Value):Value:=.agg #[ov,.int .i64 x.x.k,.int .i64 x.x.a,.int .i64 x.x.d,.int .i64 x.x.t,.int .i64 x.x.e]
def atI (_:World) (x:Int) (v:Value):Prop:=v=.int .i64 x
def atO (W:World) (x:Op) (v:Value):Prop:=∃av,Ints W av x.ar∧v=opv x av
def atB (W:World) (x:Bl) (v:Value):Prop:=∃ov,ZCJ W ov x.os∧v=blv x ov
theorem Ints.form {W:World} {v:Value} {l:List Int} (h:Ints W v l):∃A c,v=.slice A l.length c∧l.length≤c∧c≤maxLen:=RowOf.form h
theorem ZCJ.form {W:World} {v:Value} {l:List Op} (h:ZCJ W v l):∃A c,v=.slice A l.length c∧l.length≤c∧c≤maxLen:=by
 obtain ⟨vs,_,h2,_⟩:=h;exact h2.form
theorem ZAV.form {W:World} {v:Value} {l:List Bl} (h:ZAV W v l):∃A c,v=.slice A l.length c∧l.length≤c∧c≤maxLen:=by
 obtain ⟨vs,_,h2,_⟩:=h;exact h2.form
theorem ZIO (l:List Int) (v:Value) (k:Nat) (cap:Array Value) (p:Int→Bool) (w:World) (he:∀(a:Array Value) (w:World),(callFunc k a).run Tryz.prog w=.ok (.enter k a) w) (hl:Ints w v l) (ht:ZCq w k cap (fun W x v=>atI W x v∧x∈l) p) :
  Calls Tryz.prog 227 #[v,.func (.func k) #[] cap] w fun e w'=>∃i:Int,e=.returned (.int .i64 i)∧decide (0≤i)=l.any p∧Below w.heap.size w w':=by
 obtain ⟨A,c,rfl,h1,h2⟩:=Ints.form hl;unfold maxLen at h2;have HL:=Zh hl;have HT:=Zh ht;clear hl ht;go_enter Tryz.func227,Tryz.ntmps227
 go_wp2
 go_loopw [8] (fun i wr=>∃j:Nat,j≤l.length∧i=.int .i64 j∧Hid ((l.take j).any p=false)∧Hid (Below w.heap.size w wr)) (fun i _=>l.length-(intOf i).toNat)
 case atStart=>exact ⟨0,Nat.zero_le _,rfl,rfl,Below.refl _ _⟩
 case round=>
  obtain ⟨j,hj,rfl,HF,HB⟩:=hrel
  by_cases hlt:j<l.length
  ·obtain ⟨g,off,cap',ea,h3,h4,hg,hc⟩:=(Ints.below HL.out HB.out).open_ (Nat.lt_of_le_of_lt (Nat.zero_le _) hlt)
   cases ea
   have c0:=hc j hlt;have HX:=Zh (show atI wr l[j] (.int .i64 l[j]) from rfl);clear hc;go_wp2_with fail
   refine (HT.out _ HB.out _ _ ⟨HX.out,List.getElem_mem _⟩).mono ?_;rintro e w1 ⟨rfl,hb1⟩;have HB1:=Zh (HB.out.trans (ZA hb1 HB.out.size));clear hb1
   cases hp:p l[j] with
   | true=>
    have HT:=Zh (ZFD hlt hp);clear hp;go_wp2;go_ret;exact ⟨j,rfl,by rw[HT.out];simp,HB1.out⟩
   | false=>
    have HT:=Zh (ZDe hlt HF.out hp);clear hp;go_wp2;go_roundw
    case rel=>exact ⟨j+1,by omega,by go_num,HT.out,HB1.out⟩
    case measure=>simp[intOf];omega
  ·have HE:=Zh (ZG7 (Nat.le_of_not_lt hlt) HF.out)
   have hkn:j=l.length:=by omega
   clear HF;go_wp2;go_ret;exact ⟨-1,rfl,by rw[HE.out];rfl,HB.out⟩
theorem ZE6 (l:List Int) (v:Value) (k:Nat) (cap:Array Value) (p:Int→Bool) (w:World) (he:∀(a:Array Value) (w:World),(callFunc k a).run Tryz.prog w=.ok (.enter k a) w) (hl:Ints w v l) (ht:ZCq w k cap (fun W x v=>atI W x v∧x∈l) p) :
  Calls Tryz.prog 208 #[v,.func (.func k) #[] cap] w fun e w'=>e=.returned (.bool (l.any p))∧Below w.heap.size w w':=by
 have HI:=Zh (ZIO l v k cap p w he hl ht);clear hl ht;go_enter Tryz.func208,Tryz.ntmps208
 go_wp2_with fail
 refine HI.out.mono ?_;rintro e w1 ⟨i,rfl,hd,hb1⟩;have HD:=Zh hd;have HB1:=Zh hb1;clear hd hb1;go_wp2;go_ret;exact ⟨by rw[←HD.out];rfl,HB1.out⟩
theorem ZIN (l:List Op) (v:Value) (k:Nat) (cap:Array Value) (p:Op→Bool) (w:World) (he:∀(a:Array Value) (w:World),(callFunc k a).run Tryz.prog w=.ok (.enter k a) w) (hl:ZCJ w v l) (ht:ZCq w k cap (fun W x v=>atO W x v∧x∈l) p) :
  Calls Tryz.prog 206 #[v,.func (.func k) #[] cap] w fun e w'=>∃i:Int,e=.returned (.int .i64 i)∧decide (0≤i)=l.any p∧Below w.heap.size w w':=by
 obtain ⟨A,c,rfl,h1,h2⟩:=ZCJ.form hl;unfold maxLen at h2;have HL:=Zh hl;have HT:=Zh ht;clear hl ht;go_enter Tryz.func206,Tryz.ntmps206
 go_wp2
 go_loopw [8] (fun i wr=>∃j:Nat,j≤l.length∧i=.int .i64 j∧Hid ((l.take j).any p=false)∧Hid (Below w.heap.size w wr)) (fun i _=>l.length-(intOf i).toNat)
 case atStart=>exact ⟨0,Nat.zero_le _,rfl,rfl,Below.refl _ _⟩
 case round=>
  obtain ⟨j,hj,rfl,HF,HB⟩:=hrel
  by_cases hlt:j<l.length
  ·obtain ⟨g,off,cap',ea,h3,h4,hg,hc⟩:=(ZCJ.below HL.out HB.out).open_ (Nat.lt_of_le_of_lt (Nat.zero_le _) hlt)
   cases ea
   obtain ⟨av,hcc⟩:=hc j hlt;obtain ⟨c0,c1,c2,c3,c4,c5,c6,car⟩:=hcc;have HX:=Zh (show atO wr l[j] (opv l[j] av) from ⟨av,car,rfl⟩);clear car;unfold opv at HX;clear hc;go_wp2_with fail
   refine (HT.out _ HB.out _ _ ⟨HX.out,List.getElem_mem _⟩).mono ?_;rintro e w1 ⟨rfl,hb1⟩;have HB1:=Zh (HB.out.trans (ZA hb1 HB.out.size));clear hb1
   cases hp:p l[j] with
   | true=>
    have HT:=Zh (ZFD hlt hp);clear hp;go_wp2;go_ret;exact ⟨j,rfl,by rw[HT.out];simp,HB1.out⟩
   | false=>
    have HT:=Zh (ZDe hlt HF.out hp);clear hp;go_wp2;go_roundw
    case rel=>exact ⟨j+1,by omega,by go_num,HT.out,HB1.out⟩
    case measure=>simp[intOf];omega
  ·have HE:=Zh (ZG7 (Nat.le_of_not_lt hlt) HF.out)
   have hkn:j=l.length:=by omega
   clear HF;go_wp2;go_ret;exact ⟨-1,rfl,by rw[HE.out];rfl,HB.out⟩
theorem ZE5 (l:List Op) (v:Value) (k:Nat) (cap:Array Value) (p:Op→Bool) (w:World) (he:∀(a:Array Value) (w:World),(callFunc k a).run Tryz.prog w=.ok (.enter k a) w) (hl:ZCJ w v l) (ht:ZCq w k cap (fun W x v=>atO W x v∧x∈l) p) :
  Calls Tryz.prog 174 #[v,.func (.func k) #[] cap] w fun e w'=>e=.returned (.bool (l.any p))∧Below w.heap.size w w':=by
 have HI:=Zh (ZIN l v k cap p w he hl ht);clear hl ht;go_enter Tryz.func174,Tryz.ntmps174
 go_wp2_with fail
 refine HI.out.mono ?_;rintro e w1 ⟨i,rfl,hd,hb1⟩;have HD:=Zh hd;have HB1:=Zh hb1;clear hd hb1;go_wp2;go_ret;exact ⟨by rw[←HD.out];rfl,HB1.out⟩
theorem ZIP (l:List Bl) (v:Value) (k:Nat) (cap:Array Value) (p:Bl→Bool) (w:World) (he:∀(a:Array Value) (w:World),(callFunc k a).run Tryz.prog w=.ok (.enter k a) w) (hl:ZAV w v l) (ht:ZCq w k cap (fun W x v=>atB W x v∧x∈l) p) :
  Calls Tryz.prog 240 #[v,.func (.func k) #[] cap] w fun e w'=>∃i:Int,e=.returned (.int .i64 i)∧decide (0≤i)=l.any p∧Below w.heap.size w w':=by
 obtain ⟨A,c,rfl,h1,h2⟩:=ZAV.form hl;unfold maxLen at h2;have HL:=Zh hl;have HT:=Zh ht;clear hl ht;go_enter Tryz.func240,Tryz.ntmps240
 go_wp2
 go_loopw [8] (fun i wr=>∃j:Nat,j≤l.length∧i=.int .i64 j∧Hid ((l.take j).any p=false)∧Hid (Below w.heap.size w wr)) (fun i _=>l.length-(intOf i).toNat)
 case atStart=>exact ⟨0,Nat.zero_le _,rfl,rfl,Below.refl _ _⟩
 case round=>
  obtain ⟨j,hj,rfl,HF,HB⟩:=hrel
  by_cases hlt:j<l.length
  ·obtain ⟨g,off,cap',ea,h3,h4,hg,hc⟩:=(ZAV.below HL.out HB.out).open_ (Nat.lt_of_le_of_lt (Nat.zero_le _) hlt)
   cases ea
   obtain ⟨ov,hcc⟩:=hc j hlt;obtain ⟨c0,c1,c2,c3,c4,c5,car⟩:=hcc;have HX:=Zh (show atB wr l[j] (blv l[j] ov) from ⟨ov,car,rfl⟩);clear car;unfold blv at HX;clear hc;go_wp2_with fail
   refine (HT.out _ HB.out _ _ ⟨HX.out,List.getElem_mem _⟩).mono ?_;rintro e w1 ⟨rfl,hb1⟩;have HB1:=Zh (HB.out.trans (ZA hb1 HB.out.size));clear hb1
   cases hp:p l[j] with
   | true=>
    have HT:=Zh (ZFD hlt hp);clear hp;go_wp2;go_ret;exact ⟨j,rfl,by rw[HT.out];simp,HB1.out⟩
   | false=>
    have HT:=Zh (ZDe hlt HF.out hp);clear hp;go_wp2;go_roundw
    case rel=>exact ⟨j+1,by omega,by go_num,HT.out,HB1.out⟩
    case measure=>simp[intOf];omega
  ·have HE:=Zh (ZG7 (Nat.le_of_not_lt hlt) HF.out)
   have hkn:j=l.length:=by omega
   clear HF;go_wp2;go_ret;exact ⟨-1,rfl,by rw[HE.out];rfl,HB.out⟩
theorem ZE7 (l:List Bl) (v:Value) (k:Nat) (cap:Array Value) (p:Bl→Bool) (w:World) (he:∀(a:Array Value) (w:World),(callFunc k a).run Tryz.prog w=.ok (.enter k a) w) (hl:ZAV w v l) (ht:ZCq w k cap (fun W x v=>atB W x v∧x∈l) p) :
  Calls Tryz.prog 211 #[v,.func (.func k) #[] cap] w fun e w'=>e=.returned (.bool (l.any p))∧Below w.heap.size w w':=by
 have HI:=Zh (ZIP l v k cap p w he hl ht);clear hl ht;go_enter Tryz.func211,Tryz.ntmps211
 go_wp2_with fail
 refine HI.out.mono ?_;rintro e w1 ⟨i,rfl,hd,hb1⟩;have HD:=Zh hd;have HB1:=Zh hb1;clear hd hb1;go_wp2;go_ret;exact ⟨by rw[←HD.out];rfl,HB1.out⟩
attribute [local go_sem] ZAo ZA1
theorem ZIW (a:Array Value) (w:World):(callFunc 209 a).run Tryz.prog w=.ok (.enter 209 a) w:=by kernel_rfl
def ZGF (regs sl st:Int):Array Value:=#[.int .i64 regs,.int .i64 sl,.int .i64 st]
theorem op1_any (g:Nat) (regs sl st:Int) (w:World) (h:Blk w g 297 (ZGF regs sl st)):ZCq w 209 #[.pointer (some ⟨g,0,none⟩)] atI (fun a=>!ZBL regs a true false):=by
  rintro W hb x v rfl;have hB:=h.below hb h.lt;have HR:=Zh (fun W=>ZGb regs sl st x true false W);have c0:W.cell? ⟨g,0,none⟩=some (.int .i64 regs):=by rw[hB.cell];rfl
  have c1:W.cell? ⟨g,1,none⟩=some (.int .i64 sl):=by rw[hB.cell];rfl
  have c2:W.cell? ⟨g,2,none⟩=some (.int .i64 st):=by rw[hB.cell];rfl
  clear hB h hb;show Calls Tryz.prog 209 #[.int .i64 x,.pointer (some ⟨g,0,none⟩)] W _;go_enter Tryz.func209,Tryz.ntmps209
  go_wp2_with fail
  refine (HR.out _).mono ?_;rintro e w1 ⟨rfl,hb⟩;go_wp2_with fail
  go_ret;exact ⟨rfl,hb⟩
theorem ZKT (k:ImK) (a:Array Value) (w:World):(callFunc (imF k) a).run Tryz.prog w=.ok (.enter (imF k) a) w:=by cases k<;>kernel_rfl
theorem ZKS (k:TxK) (a:Array Value) (w:World):(callFunc (txF k) a).run Tryz.prog w=.ok (.enter (txF k) a) w:=by cases k<;>kernel_rfl
def opA (o:Op) (av:Value):Array Value:=#[.int .i64 o.k,.int .i64 o.d,.int .i64 o.a,.int .i64 o.b,.int .i64 o.im,.string o.tx,av]
def rulA (r:Rule) (s:ByteArray):Array Value:=#[.string s,.bool r.d,.bool r.a,.bool r.b,.func (.func (imF r.im)) #[] #[],.func (.func (txF r.tx)) #[] #[],.bool r.ar,.bool r.mb]
structure OpW (w:World) (regs sl st:Int) (o:Op) (av:Value) (r:Rule) (s:ByteArray) (g:Nat) (W:World):Prop where
  bn:Blk W w.heap.size 297 (ZGF regs sl st)
  op:Blk W (w.heap.size+1) 199 (opA o av)
  ru:Blk W g 323 (rulA r s)
  be:Below w.heap.size w W
theorem OpW.next {w W W':World} {regs sl st:Int} {o:Op} {av:Value} {r:Rule} {s:ByteArray} {g:Nat} (h:OpW w regs sl st o av r s g W) (hb:Below W.heap.size W W'):OpW w regs sl st o av r s g W':=
  ⟨h.bn.below hb h.bn.lt,h.op.below hb h.op.lt,h.ru.below hb h.ru.lt,h.be.trans (ZA hb h.be.size)⟩
structure OpC (regs sl st:Int) (o:Op) (av:Value) (r:Rule) (s:ByteArray) (n g:Nat) (W:World):Prop where
  b0:W.cell? ⟨n,0,none⟩=some (.int .i64 regs)
  b1:W.cell? ⟨n,1,none⟩=some (.int .i64 sl)
  b2:W.cell? ⟨n,2,none⟩=some (.int .i64 st)
  o0:W.cell? ⟨n+1,0,none⟩=some (.int .i64 o.k)
  o1:W.cell? ⟨n+1,1,none⟩=some (.int .i64 o.d)
  o2:W.cell? ⟨n+1,2,none⟩=some (.int .i64 o.a)
  o3:W.cell? ⟨n+1,3,none⟩=some (.int .i64 o.b)
  o4:W.cell? ⟨n+1,4,none⟩=some (.int .i64 o.im)
  o5:W.cell? ⟨n+1,5,none⟩=some (.string o.tx)
  o6:W.cell? ⟨n+1,6,none⟩=some av
  r1:W.cell? ⟨g,1,none⟩=some (.bool r.d)
  r2:W.cell? ⟨g,2,none⟩=some (.bool r.a)
  r3:W.cell? ⟨g,3,none⟩=some (.bool r.b)
  r4:W.cell? ⟨g,4,none⟩=some (.func (.func (imF r.im)) #[] #[])
  r5:W.cell? ⟨g,5,none⟩=some (.func (.func (txF r.tx)) #[] #[])
  r6:W.cell? ⟨g,6,none⟩=some (.bool r.ar)
  r7:W.cell? ⟨g,7,none⟩=some (.bool r.mb)
theorem OpW.cells {w W:World} {regs sl st:Int} {o:Op} {av:Value} {r:Rule} {s:ByteArray} {g:Nat} (h:OpW w regs sl st o av r s g W):OpC regs sl st o av r s w.heap.size g W:=
  ⟨(h.bn.cell 0).trans rfl,(h.bn.cell 1).trans rfl,(h.bn.cell 2).trans rfl,(h.op.cell 0).trans rfl,(h.op.cell 1).trans rfl,(h.op.cell 2).trans rfl,(h.op.cell 3).trans rfl,(h.op.cell 4).trans rfl,(h.op.cell 5).trans rfl,(h.op.cell 6).trans rfl,
   (h.ru.cell 1).trans rfl,(h.ru.cell 2).trans rfl,(h.ru.cell 3).trans rfl,(h.ru.cell 4).trans rfl,(h.ru.cell 5).trans rfl,(h.ru.cell 6).trans rfl,(h.ru.cell 7).trans rfl⟩
theorem opB_some {regs sl st:Int} {o:Op} {r:Rule} (h:ruleL o.k=some r):opB regs sl st o=(ZBL regs o.d r.d r.mb&&(ZBL regs o.a r.a false&&(ZBL regs o.b r.b false&&(imB r.im o.im&&(txB r.tx o.tx&&((r.ar || !decide (0<o.ar.length))&&(!(o.ar.any (fun a=>!ZBL regs a true false))&&tailB sl st o))))))):=by
  have e:o.ar.all (fun a=>ZBL regs a true false) = !(o.ar.any (fun a=>!ZBL regs a true false)):=by rw[Bool.eq_iff_iff];simp
  rw[opB,h,e]
theorem opB_none {regs sl st:Int} {o:Op} (h:ruleL o.k=none):opB regs sl st o=false:=by rw[opB,h]
theorem op_any (regs sl st:Int) (o:Op) (av:Value) (w:World) (ha:Ints w av o.ar) (hk:Zj w) (hs:o.tx.size≤maxLen) :
    Calls Tryz.prog 176 #[ZG5 regs sl st,opv o av] w fun e w'=>e=.returned (.bool (opB regs sl st o))∧Below w.heap.size w w':=by
  obtain ⟨A,c,rfl,h1,h2⟩:=ha.form;unfold maxLen at h2;have HA:=Zh ha;have HK:=Zh hk;have HS:=Zh hs;have HRU:=Zh (fun w=>ZHx o.k w);have HRG:=Zh (fun r u m w=>ZGb regs sl st r u m w);clear ha hk hs;unfold ZG5 opv;unfold ZG5 at HRG;go_enter Tryz.func176,Tryz.ntmps176
  go_wp2_with fail
  refine (HRU.out _).mono ?_;rintro e w1 ⟨⟨rv,rfl,hr1,hr0⟩,hb1⟩;have hbn:=Blk.below (Blk.alloc (Blk.new w 297 (ZGF regs sl st)) (.cells (opA o (.slice A o.ar.length c)) 199)) hb1 (by simp[World.size_alloc];omega);have hop:Blk w1 (w.heap.size+1) 199 (opA o (.slice A o.ar.length c)):=Blk.below (ZY (w:=w.alloc (.cells (ZGF regs sl st) 297)) (by simp[World.size_alloc]) 199 (opA o (.slice A o.ar.length c))) hb1 (by simp[World.size_alloc]);have hbw:Below w.heap.size w w1:=(((Below.refl w.heap.size w).alloc (Nat.le_refl _) _).alloc (by simp[World.size_alloc]) _).trans (ZA hb1 (by simp[World.size_alloc];omega));have hge:w.heap.size+1<w1.heap.size:=hop.lt;clear HRU hb1
  cases hr:ruleL o.k with
  | none=>
    obtain rfl:=hr0 hr;have HO:=Zh (opB_none (regs:=regs) (sl:=sl) (st:=st) hr);have HBW:=Zh (hbw.alloc hbw.size (.cells #[.string ⟨#[]⟩,.bool false,.bool false,.bool false,.nilFunc,.nilFunc,.bool false,.bool false] 323));clear hr hr0 hr1 hbn hop hbw;unfold rul0;go_wp2_with fail
    go_ret;exact ⟨ZF HO.out.symm,HBW.out⟩
  | some r=>
    obtain ⟨s,rfl⟩:=hr1 r hr;have HO:=Zh (opB_some (regs:=regs) (sl:=sl) (st:=st) hr);clear hr0 hr1;have HW:=Zh (show OpW w regs sl st o (.slice A o.ar.length c) r s w1.heap.size (w1.alloc (.cells (rulA r s) 323)) from ⟨hbn.alloc _,hop.alloc _,Blk.new _ _ _,hbw.alloc hbw.size _⟩);obtain ⟨g,hg⟩:∃g,w1.heap.size=g:=⟨_,rfl⟩
    clear hbn hop hbw hr;obtain ⟨b1,hb1⟩:∃b,ZBL regs o.d r.d r.mb=b:=⟨_,rfl⟩
    obtain ⟨b2,hb2⟩:∃b,ZBL regs o.a r.a false=b:=⟨_,rfl⟩
    obtain ⟨b3,hb3⟩:∃b,ZBL regs o.b r.b false=b:=⟨_,rfl⟩
    obtain ⟨b4,hb4⟩:∃b,imB r.im o.im=b:=⟨_,rfl⟩
    obtain ⟨b5,hb5⟩:∃b,txB r.tx o.tx=b:=⟨_,rfl⟩
    have Q1:=Zh (fun w=>HRG.out o.d r.d r.mb w);have Q2:=Zh (fun w=>HRG.out o.a r.a false w);have Q3:=Zh (fun w=>HRG.out o.b r.b false w);have Q4:=Zh (fun w=>im_any r.im o.im w);have Q5:=Zh (fun w h=>tx_any r.tx o.tx w HS.out h);rw[hb1] at Q1 HO;rw[hb2] at Q2 HO;rw[hb3] at Q3 HO;rw[hb4] at Q4 HO;rw[hb5] at Q5 HO;have HIM:=ZKT r.im;have HTX:=ZKS r.tx;clear hb1 hb2 hb3 hb4 hb5 HS;obtain ⟨b0,b1',b2',o0,o1,o2,o3,o4,o5,o6,r1,r2,r3,r4,r5,r6,r7⟩:=HW.out.cells;rw[hg] at r1 r2 r3 r4 r5 r6 r7;unfold ZCK;unfold rulA at b0 b1' b2' o0 o1 o2 o3 o4 o5 o6 r1 r2 r3 r4 r5 r6 r7;go_wp2_with fail
    refine (Q1.out _).mono ?_;rintro e w9 ⟨rfl,hb9⟩;replace HW:=Zh (HW.out.next hb9);clear hb9 b0 b1' b2' o0 o1 o2 o3 o4 o5 o6 r1 r2 r3 r4 r5 r6 r7
    cases b1 with
    | false=>
      go_wp2_with fail
      go_ret;exact ⟨ZF (by rw[HO.out];simp),HW.out.be⟩
    | true=>
      obtain ⟨b0,b1',b2',o0,o1,o2,o3,o4,o5,o6,r1,r2,r3,r4,r5,r6,r7⟩:=HW.out.cells;rw[hg] at r1 r2 r3 r4 r5 r6 r7;go_wp2_with fail
      refine (Q2.out _).mono ?_;rintro e w9 ⟨rfl,hb9⟩;replace HW:=Zh (HW.out.next hb9);clear hb9 b0 b1' b2' o0 o1 o2 o3 o4 o5 o6 r1 r2 r3 r4 r5 r6 r7
      cases b2 with
      | false=>
        go_wp2_with fail
        go_ret;exact ⟨ZF (by rw[HO.out];simp),HW.out.be⟩
      | true=>
        obtain ⟨b0,b1',b2',o0,o1,o2,o3,o4,o5,o6,r1,r2,r3,r4,r5,r6,r7⟩:=HW.out.cells;rw[hg] at r1 r2 r3 r4 r5 r6 r7;go_wp2_with fail
        refine (Q3.out _).mono ?_;rintro e w9 ⟨rfl,hb9⟩;replace HW:=Zh (HW.out.next hb9);clear hb9 b0 b1' b2' o0 o1 o2 o3 o4 o5 o6 r1 r2 r3 r4 r5 r6 r7
        cases b3 with
        | false=>
          go_wp2_with fail
          go_ret;exact ⟨ZF (by rw[HO.out];simp),HW.out.be⟩
        | true=>
          obtain ⟨b0,b1',b2',o0,o1,o2,o3,o4,o5,o6,r1,r2,r3,r4,r5,r6,r7⟩:=HW.out.cells;rw[hg] at r1 r2 r3 r4 r5 r6 r7;go_wp2_with fail
          refine (Q4.out _).mono ?_;rintro e w9 ⟨rfl,rfl⟩
          cases b4 with
          | false=>
            go_wp2_with fail
            go_ret;exact ⟨ZF (by rw[HO.out];simp),HW.out.be⟩
          | true=>
            go_wp2_with fail
            refine (Q5.out _ (HK.out.below HW.out.be)).mono ?_;rintro e w9 ⟨rfl,hb9⟩;replace HW:=Zh (HW.out.next hb9);clear hb9 b0 b1' b2' o0 o1 o2 o3 o4 o5 o6 r1 r2 r3 r4 r5 r6 r7
            cases b5 with
            | false=>
              go_wp2_with fail
              go_ret;exact ⟨ZF (by rw[HO.out];simp),HW.out.be⟩
            | true=>
              obtain ⟨b0,b1',b2',o0,o1,o2,o3,o4,o5,o6,r1,r2,r3,r4,r5,r6,r7⟩:=HW.out.cells;rw[hg] at r1 r2 r3 r4 r5 r6 r7;obtain ⟨ra,hra⟩:∃b,r.ar=b:=⟨_,rfl⟩
              rw[hra] at r6 HO;have HARGS:=Zh (ZE6 o.ar (.slice A o.ar.length c) 209 #[.pointer (some ⟨w.heap.size,0,none⟩)] _ w9 ZIW (HA.out.below HW.out.be) (op1_any _ regs sl st w9 HW.out.bn).on);clear hra
              by_cases hbad:ra=false∧0<o.ar.length
              · obtain ⟨rfl,hpos⟩:=hbad
                go_wp2_with fail
                go_ret;exact ⟨ZF (by rw[HO.out];simp[hpos]),HW.out.be⟩
              · have hok:(ra || !decide (0<o.ar.length))=true:=by
                  cases ra
                  · have:¬0<o.ar.length:=fun h=>hbad ⟨rfl,h⟩
                    simp[this]
                  · rfl
                rw[hok] at HO;have hcut:ra=true∨(ra=false∧¬0<o.ar.length):=by
                  cases ra
                  · exact Or.inr ⟨rfl,fun h=>hbad ⟨rfl,h⟩⟩
                  · exact Or.inl rfl
                clear hok hbad;rcases hcut with rfl|⟨rfl,hpos⟩
                all_goals
                  go_wp2_with fail
                  refine HARGS.out.mono ?_;rintro e w10 ⟨rfl,hb9⟩;replace HW:=Zh (HW.out.next hb9);clear hb9 b0 b1' b2' o0 o1 o2 o3 o4 o5 o6 r1 r2 r3 r4 r5 r6 r7 HARGS
                  cases hany:o.ar.any (fun a=>!ZBL regs a true false) with
                  | true=>
                    rw[hany] at HO;clear hany;go_wp2_with fail
                    go_ret;exact ⟨ZF (by rw[HO.out];simp),HW.out.be⟩
                  | false=>
                    rw[hany] at HO;clear hany;have HO2:Hid (opB regs sl st o=tailB sl st o):=by rw[Hid,HO.out];simp
                    clear HO;obtain ⟨b0,b1',b2',o0,o1,o2,o3,o4,o5,o6,r1,r2,r3,r4,r5,r6,r7⟩:=HW.out.cells;rw[hg] at r1 r2 r3 r4 r5 r6 r7
                    by_cases k1:o.k=21
                    · have HT:=Zh (show tailB sl st o=decide (o.im<sl) by simp[tailB,k1])
                      by_cases hlt:o.im<sl
                      all_goals
                        go_wp2_with fail
                        go_ret;exact ⟨ZF (by rw[HO2.out,HT.out];try simp[hlt]),HW.out.be⟩
                    · by_cases k2:o.k=23
                      · have HT:=Zh (show tailB sl st o=decide (o.im<st) by simp[tailB,k2])
                        by_cases hlt:o.im<st
                        all_goals
                          go_wp2_with fail
                          go_ret;exact ⟨ZF (by rw[HO2.out,HT.out];try simp[hlt]),HW.out.be⟩
                      · by_cases k3:o.k=29
                        · have HBU:=Zh (fun w=>ZF4 o.tx w)
                          obtain ⟨bn,an,hbv,ht⟩:∃(bn:Int) (an:Bool),ZDa o.tx=.tuple #[.int .i64 bn,.bool an,.bool (ZCE o.tx).isSome]∧tailB sl st o=(((o.ar.length:Int)==bn)&&(an || o.d == -1)):=by
                            unfold ZDa
                            cases hbl:ZCE o.tx with
                            | none=>exact ⟨0,false,rfl,by simp[tailB,k3,hbl]⟩
                            | some q=>exact ⟨q.1,q.2,rfl,by simp[tailB,k3,hbl]⟩
                          rw[hbv] at HBU;have HT:=Zh ht;clear ht hbv;go_wp2_with fail
                          refine (HBU.out _).mono ?_;rintro e w11 ⟨rfl,rfl⟩
                          by_cases e1:(o.ar.length:Int)=bn
                          · cases an
                            · by_cases e2:o.d=-1
                              all_goals
                                go_wp2_with fail
                                go_ret;exact ⟨ZF (by rw[HO2.out,HT.out];try simp[e1,e2]),HW.out.be⟩
                            · go_wp2_with fail
                              go_ret;exact ⟨ZF (by rw[HO2.out,HT.out];try simp[e1]),HW.out.be⟩
                          · go_wp2_with fail
                            go_ret;exact ⟨ZF (by rw[HO2.out,HT.out];try simp[e1]),HW.out.be⟩
                        · have HT:=Zh (show tailB sl st o=true by simp[tailB,k1,k2,k3])
                          go_wp2_with fail
                          go_ret;exact ⟨ZF (by rw[HO2.out,HT.out]),HW.out.be⟩
end Go.Proofs.YtggmkofbikafhaaGreatDoor
