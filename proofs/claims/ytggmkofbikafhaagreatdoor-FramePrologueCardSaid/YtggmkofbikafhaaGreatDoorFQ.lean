/- Walks and plain laws on the way to FramePrologue (FB, FP, FQ). Conditions: those that each theorem states. -/
import Derived.Laws.Externs
import Derived.Test.YtggmkofbikafhaaGreatDoorFO
import Derived.Test.YtggmkofbikafhaaGreatDoorFShelf
set_option linter.unusedVariables false
set_option linter.unusedSimpArgs false
set_option maxRecDepth 100000
set_option maxHeartbeats 40000000
namespace Go.Proofs.YtggmkofbikafhaaGreatDoor
open Go.RowKit
theorem infoSB:(Tryz.prog.info? 89).map (·.size)=some 2:=by kernel_rfl
theorem liesSB:liesAt Tryz.prog Tryz.prog.depth 91 (2 / Tryz.prog.cellsOf 91) 0 89 1=true:=by kernel_rfl
theorem infoU8:(Tryz.prog.info? 5).map (fun i=>(i.zero,i.size,i.bytes))=some (some (.int .u8 0),1,1):=by kernel_rfl
theorem ZDs (b:Nat) (w:World) (h0:w.cell? ⟨b,0,none⟩=some (.pointer (some ⟨b,0,none⟩))) :
  Calls Tryz.prog 99 #[.pointer (some ⟨b,0,none⟩)] w fun e w'=>e=.returned (.tuple #[])∧w'=w:=by
 obtain ⟨j,hj,_⟩:=Option.map_eq_some_iff.1 infoSB;go_enter Tryz.func99,Tryz.ntmps99
 go_wp2;rw[Lib.run_neq_ptr_same w _ Tryz.underlying87 hj];go_wp2
 go_end0
 exact ⟨rfl,rfl⟩
theorem ZDX (b:Nat) (w:World) (h0:w.cell? ⟨b,0,none⟩=some (.pointer none)) (hsh:w.shape? b=some (91,2)) (hfz:w.frozen? ⟨b,0,none⟩=false) :
  Calls Tryz.prog 99 #[.pointer (some ⟨b,0,none⟩)] w fun e w'=>e=.returned (.tuple #[])∧w'=w.setCell ⟨b,0,none⟩ (.pointer (some ⟨b,0,none⟩)):=by
 obtain ⟨j,hj,hjs⟩:=Option.map_eq_some_iff.1 infoSB;go_enter Tryz.func99,Tryz.ntmps99
 go_wp2;rw[Lib.run_to_unsafe w ⟨b,0,none⟩ Tryz.underlying87 Tryz.underlying248 hj (by rw[hjs];decide) hsh (Nat.zero_lt_succ 1)];simp only[Result.andThen];rw[Oper.upon_value];go_wp2;rw[run_callFunc_extern Tryz.func137 (by kernel_rfl) (by kernel_rfl) (by kernel_rfl) (e:=Extern.AbiNoEscape.same) (by kernel_rfl)];rw[Lib.run_noEscape];simp only[Result.andThen];rw[Oper.upon_value];go_wp2;rw[Lib.run_from_unsafe w ⟨b,0,none⟩ Tryz.underlying248 Tryz.underlying87 hj hsh liesSB];simp only[Result.andThen];rw[Oper.upon_value];go_wp2
 go_end0
 exact ⟨rfl,rfl⟩
theorem ZE4 (B b:Nat) (bs:List Value) (w:World) (h:Lib.IsBuilder 91 5 B b bs w) :
  Calls Tryz.prog 99 #[.pointer (some ⟨b,0,none⟩)] w fun e w'=>e=.returned (.tuple #[])∧(Lib.BuilderAt 91 5 B b (.pointer (some ⟨b,0,none⟩)) bs w'∧Below B w w'):=by
 rcases h with h|h
 ·refine (ZDX b w h.cell0 h.shape h.frozen0).mono ?_
  rintro e w' ⟨rfl,rfl⟩;exact ⟨rfl,h.used _,(Below.refl B w).setCell (p:=⟨b,0,none⟩) h.1 _⟩
 ·refine (ZDs b w h.cell0).mono ?_
  rintro e w' ⟨rfl,rfl⟩;exact ⟨rfl,h,Below.refl B _⟩
theorem write_any (B b:Nat) (bs:List Value) (s:ByteArray) (w:World) (h:Lib.IsBuilder 91 5 B b bs w) (hlen:bs.length+s.size≤140737488355328) (hBw:B≤w.heap.size) :
  Calls Tryz.prog 61 #[.pointer (some ⟨b,0,none⟩),.string s] w fun e w'=>e=.returned (.tuple #[.int .i64 s.size,.nilIface])∧(Lib.BuilderAt 91 5 B b (.pointer (some ⟨b,0,none⟩)) (bs++Lib.strCells s) w'∧Below B w w'):=by
 obtain ⟨i0,hi,hz0,hz1,hz2⟩:=info_parts infoU8;go_enter Tryz.func61,Tryz.ntmps61
 go_wp2_with (go_at_call 99;refine (ZE4 B b bs _ h).mono ?_)
 rintro e w1 ⟨rfl,h1,hb1⟩;obtain ⟨hB,v,hbk,hown,hne⟩:=h1;have c0:w1.cell? ⟨b,0,none⟩=some (.pointer (some ⟨b,0,none⟩)):=by rw[Lib.cell_of_heap hbk];rfl
 have c1:w1.cell? ⟨b,1,none⟩=some v:=by rw[Lib.cell_of_heap hbk];rfl
 go_wp2_with (at_builtin;refine Lib.wpList_append_own_string _ rfl _ _ 32 9 rfl B 5 i0 Tryz.underlying32 Tryz.underlying9 hi hz0 hz1 hz2 _ _ _ rfl hown s rfl ?c3 ?c4 ?c5 ?_)
 case c3=>unfold maxLen;omega
 case c4=>omega
 case c5=>have:=hb1.size;omega
 intro v' w2 hown' hgrow _;have hlt:b<w1.heap.size:=by
  rcases Nat.lt_or_ge b w1.heap.size with h' | h'
  ·exact h'
  ·simp[Array.getElem?_eq_none h'] at hbk
 have hb2:w2.heap[b]? = some (.cells #[.pointer (some ⟨b,0,none⟩),v] 91 (0,0)):=by
  rw[hgrow.block b hlt (fun e=>hne e.symm)];exact hbk
 have d0:w2.cell? ⟨b,0,none⟩=some (.pointer (some ⟨b,0,none⟩)):=by rw[Lib.cell_of_heap hb2];rfl
 have d1:w2.cell? ⟨b,1,none⟩=some v:=by rw[Lib.cell_of_heap hb2];rfl
 have f1:w2.frozen? ⟨b,1,none⟩=false:=Lib.frozen_of_heap hb2 1;obtain ⟨ao,n',cap,rfl⟩:∃ao n' cap,v'=.slice ao n' cap:=by
  rcases hown'.2 with ⟨hv,_⟩|⟨g,cap,cur,hv,_⟩
  ·exact ⟨_,_,_,hv⟩
  ·exact ⟨_,_,_,hv⟩
 go_wp2
 go_ret2
 refine ⟨rfl,?_,?_⟩
 ·exact Lib.BuilderAt.put (T:=91) (e:=5) hB hb2 (bs':=bs++Lib.strCells s) (by simpa[Lib.strCells_length] using hown') (by decide)
 ·exact (hb1.grown hgrow (by have:=hb1.size;omega) (fun k hk=>(hown.lt k hk).1)).setCell (p:=⟨b,1,none⟩) hB _
theorem ZEy (w:World):Lib.IsBuilder 91 5 w.heap.size w.heap.size [] (w.alloc (.cells #[.pointer none,.slice none 0 0] 91)):=
 Or.inl ⟨Nat.le_refl _,.slice none 0 0,heap_alloc_new w _,World.ownsRow_nil _ _ _ _,by simp[Value.ownBlock]⟩
def BL (w:World) (B b:Nat) (l:List UInt8):Prop:=Lib.IsBuilder 91 5 B b (Lib.byteCells l) w
theorem BL.below {w w':World} {B b:Nat} {l:List UInt8} (h:BL w B b l) (hb:Below w.heap.size w w'):BL w' B b l:=by
 rcases h with h|h
 all_goals
  obtain ⟨h1,v,h2,h3,h4⟩:=h;have hlt:b<w.heap.size:=by
   rcases Nat.lt_or_ge b w.heap.size with h' | h'
   ·exact h'
   ·simp[Array.getElem?_eq_none h'] at h2
 ·exact Or.inl ⟨h1,v,(hb.block b hlt).trans h2,ZB h3 (ZC (fun _=>False) hb) (fun _ _=>id),h4⟩
 ·exact Or.inr ⟨h1,v,(hb.block b hlt).trans h2,ZB h3 (ZC (fun _=>False) hb) (fun _ _=>id),h4⟩
theorem BL.le {w:World} {B b:Nat} {l:List UInt8} (h:BL w B b l):B≤b∧b<w.heap.size:=by
 rcases h with h|h
 all_goals
  obtain ⟨h1,v,h2,h3,h4⟩:=h;refine ⟨h1,?_⟩;rcases Nat.lt_or_ge b w.heap.size with h' | h'
  ·exact h'
  ·simp[Array.getElem?_eq_none h'] at h2
theorem ZD4 (B b:Nat) (l:List UInt8) (w:World) (h:BL w B b l) (h0:l≠[]) :
  Calls Tryz.prog 26 #[.pointer (some ⟨b,0,none⟩)] w fun e w'=>e=.returned (.string ⟨l.toArray⟩)∧Below B w w':=by
 obtain ⟨p,hB,v,hbk,hown,hne⟩:∃p,Lib.BuilderAt 91 5 B b p (Lib.byteCells l) w:=by
  rcases h with h|h
  ·exact ⟨_,h⟩
  ·exact ⟨_,h⟩
 have hl0:l.length≠0:=by simpa using h0
 rw[Lib.byteCells_length] at hown;obtain ⟨g,cap,cur,rfl,hbg,hg,hnc,hcm,hcs,-⟩:∃g cap cur,v=.slice (some ⟨g,0,none⟩) l.length cap∧B≤g∧w.heap[g]? = some (.cells cur 5 (0,0))∧l.length≤cap∧cap≤maxLen∧cur.size=cap*1∧cur.toList.take (l.length*1)=Lib.byteCells l:=by
  rcases hown.2 with ⟨_,hz⟩|⟨g,cap,cur,hv,r⟩
  ·exact absurd hz hl0
  ·exact ⟨g,cap,cur,hv,r⟩
 have c1:w.drew.cell? ⟨b,1,none⟩=some (.slice (some ⟨g,0,none⟩) l.length cap):=by
  have:w.drew.heap[b]? = some (.cells #[p,.slice (some ⟨g,0,none⟩) l.length cap] 91 (0,0)):=hbk;rw[Lib.cell_of_heap this];rfl
 have hSD:(Builtin.unsafeSliceData_ #[32] 166 #[.slice (some ⟨g,0,none⟩) l.length cap]).run Tryz.prog w.drew=.ok (.pointer (some ⟨g,0,none⟩)) w.drew:=
  Lib.run_unsafeSliceData_row _ _ _ _ _ _ (by omega)
 have hUS:(Builtin.unsafeString_ #[166,3] 9 #[.pointer (some ⟨g,0,none⟩),.int .i64 l.length]).run Tryz.prog w.drew=.ok (.string ⟨l.toArray⟩) (w.drew.freeze ⟨g,0,none⟩ l.length):=by
  refine Lib.run_unsafeString_row w.drew 166 3 9 5 Tryz.underlying166 (by kernel_rfl) g cur.size (by have hg':w.drew.heap[g]? = some (.cells cur 5 (0,0)):=hg;simp[World.shape?,hg']) l h0 (by omega) (by unfold maxLen at hcm;omega) ?_;intro j x hx;have:=hown.cells (g:=g) rfl j (.int .u8 x.toNat) (by simp[Lib.byteCells,hx]);exact this
 clear h;go_enter Tryz.func26,Tryz.ntmps26
 go_wp2;go_region
 all_goals (go_wp2;go_ret;exact ⟨rfl,Lib.below_freeze (Below.drew (Below.refl B w)) (p:=⟨g,0,none⟩) hbg _⟩)
def ZIp (B:Nat) (w:World):Prop:=∀W,Below B w W→Lib.TabIs Tryz.prog W "internal/strconv.uint64pow10" .u64 Lib.pow10Tab
theorem ZIp.below {B:Nat} {w w':World} (h:ZIp B w) (hb:Below B w w'):ZIp B w':=fun W hW=>h W (hb.trans hW)
theorem ZDu (l:List UInt8) (s:ByteArray):Lib.byteCells l++Lib.strCells (s++(⟨#[10]⟩:ByteArray))=Lib.byteCells (l++(s.data.toList++[10])):=by
 rw[Lib.strCells_eq,←Lib.byteCells_append]
 congr 2
theorem ZCy (n:Nat):Lib.itoa (n:Int)=Lib.decDigits n:=by
 unfold Lib.itoa;rw[if_neg (by omega),Int.toNat_natCast]
theorem below_grow (w:World) (k:Nat) (os:Array Obj):Below w.heap.size w (Sort.grow (w.drewN k) os):=
 ⟨rfl,rfl,rfl,by simp[Sort.grow],fun i hi=>by
  show (w.heap++os)[i]? = w.heap[i]?
  rw[Array.getElem?_append_left hi]⟩
theorem Zi (B b g o c:Nat) (l:List UInt8) (xs:List ByteArray) (w:World) (h:BL w B b l) (hc:∀(j:Nat) x,xs[j]? = some x→w.cell? ⟨g,o+j,none⟩=some (.string x)) (hg:g<w.heap.size) (hcap:xs.length≤c) (hN:xs.length≤100) (hj:(Lib.join (xs.map (·.data.toList)) [32]).length≤100000) (hl:l.length≤100000) :
  Calls Tryz.prog 23 #[.pointer (some ⟨b,0,none⟩),.slice (some ⟨g,o,none⟩) xs.length c] w fun e w'=>e=.returned (.tuple #[])∧BL w' B b (l++(Lib.join (xs.map (·.data.toList)) [32]++[10]))∧Below B w w':=by
 have HJ:Hid (∀W,Below w.heap.size w W→Calls Tryz.prog 62 #[.slice (some ⟨g,o,none⟩) xs.length c,.string { data:=#[32] }] W fun e w'=>e=.returned (.string ⟨(Lib.join (xs.map (·.data.toList)) [32]).toArray⟩)∧Below W.heap.size W w'):=fun W hW=>by
  have h1:({ data:=#[32] }:ByteArray).data.toList=[32]:=rfl;have h2:=Tryz.strings_Join g o c xs { data:=#[32] } W (fun j x hx=>(hW.cell (cell_lt (hc j x hx))).trans (hc j x hx)) (Nat.lt_of_lt_of_le hg hW.size) (by omega) hcap;rw[h1] at h2;exact h2 (by omega)
 obtain ⟨js,hjs⟩:∃js:ByteArray,(⟨(Lib.join (xs.map (·.data.toList)) [32]).toArray⟩:ByteArray)=js:=⟨_,rfl⟩
 have hjl:js.data.toList=Lib.join (xs.map (·.data.toList)) [32]:=by rw[←hjs]
 have hjz:js.size≤100000:=by
  show js.data.size≤_
  rw[←Array.length_toList,hjl]
  exact hj
 rw[hjs] at HJ
 rw[←hjl]
 have H:=Zh h;have had:∀W,(Op.stringOp .add js ⟨#[10]⟩).run Tryz.prog W=.ok (.string (js ++ { data:=#[10] })) W:=fun W=>run_string_add_sum W js ⟨#[10]⟩ (by have h9:({ data:=#[10] }:ByteArray).size=1:=rfl;omega);have HWR:Hid (∀W,Below w.heap.size w W→Calls Tryz.prog 61 #[.pointer (some ⟨b,0,none⟩),.string (js ++ { data:=#[10] })] W fun e w'=>e=.returned (.tuple #[.int .i64 (js++({ data:=#[10] }:ByteArray)).size,.nilIface])∧BL w' B b (l++(js.data.toList++[10]))∧Below B W w'):=fun W hW=>by
  have h9:({ data:=#[10] }:ByteArray).size=1:=rfl;have hB:Lib.IsBuilder 91 5 B b (Lib.byteCells l) W:=h.below hW;have hz:(Lib.byteCells l).length+(js++({ data:=#[10] }:ByteArray)).size≤140737488355328:=by
   rw[Lib.byteCells_length,ByteArray.size_append,h9];omega
  have hle:B≤W.heap.size:=by
   have h10:=h.le;have h11:=hW.size;omega
  obtain ⟨s10,hs10⟩:∃s10:ByteArray,js++({ data:=#[10] }:ByteArray)=s10:=⟨_,rfl⟩
  have hcl:Lib.byteCells l++Lib.strCells s10=Lib.byteCells (l++(js.data.toList++[10])):=by rw[←hs10];exact ZDu l js
  rw[hs10] at hz ⊢;refine (write_any B b (Lib.byteCells l) s10 W hB hz hle).mono ?_;rintro e w' ⟨h1,h2,h3⟩;rw[hcl] at h2;exact ⟨h1,Or.inr h2,h3⟩
 obtain ⟨nn,hnn⟩:∃nn,xs.length=nn:=⟨_,rfl⟩
 rw[hnn] at HJ ⊢;clear h hc hg hcap hN hj hjs hjl hnn;go_enter Tryz.func23,Tryz.ntmps23
 go_upto_region 0 with fail
 refine wp_region_held_drew (S:=(fun _=>True)) (by kernel_rfl) trivial (fun hHeld=>?_);refine FU 7 rfl ?_;iterate 4 (refine TN 7 rfl ?_;try simp only[AP,Nat.reduceAdd,Nat.reduceSub])
 refine RW 4 rfl fun K hK=>?_;go_simp;go_at_call 62;refine (HJ.out _ (ZAO (Below.refl _ _))).mono ?_;rintro e W2 ⟨rfl,hb2⟩;try go_simp
 refine hK.out _ _ trivial (fun hHeld=>?_);have HB2:=Zh (show Below w.heap.size w W2 from (ZAO (Below.refl _ _)).trans hb2);clear hb2 HJ;clear hK K;try simp only[AP]
 refine TW 5 rfl ?_;try simp only[AP]
 refine RW 6 rfl fun K hK=>?_;go_simp;have hw:=HWR.out W2 HB2.out;go_at_call 61;refine hw.mono ?_;rintro e W3 ⟨rfl,h3,hb3⟩;try go_simp
 refine hK.out _ _ trivial (fun hHeld=>?_);have HN:=Zh (show BL W3 B b (l++(js.data.toList++[10]))∧Below B w W3 from ⟨h3,(HB2.out.mono (by have:=H.out.le;omega)).trans hb3⟩);clear h3 hb3 hw;clear hK K;try simp only[AP]
 refine wpAnyH_done (by kernel_rfl) ?_ _;go_wp2_with fail
 go_end0
 exact ⟨rfl,HN.out.1,HN.out.2⟩
theorem ZKx (B b:Nat) (l op:List UInt8) (r place:Nat) (w:World) (h:BL w B b l) (ht:ZIp B w) (hr:r≤15) (hp:place≤32767) (hop:op.length≤10) (hl:l.length≤90000) :
  Calls Tryz.prog 25 #[.pointer (some ⟨b,0,none⟩),.string (str op),.int .i64 (r:Int),.int .i64 (place:Int)] w fun e w'=>e=.returned (.tuple #[])∧BL w' B b (l++(op++32::114::Lib.decDigits r++32::[114,49,51]++32::Lib.decDigits place++[10]))∧Below B w w':=by
 have hbb:=h.le;have HIT:Hid (∀(n:Nat) W,Below B w W→n≤16777216→Calls Tryz.prog 24 #[.int .i64 (n:Int)] W fun e w'=>e=.returned (.string (str (Lib.decDigits n)))∧Below W.heap.size W w'):=fun n W hW hn=>by
  refine (Tryz.strconv_Itoa (n:Int) (by omega) (by omega) W (ht W hW)).mono ?_;rintro e w' ⟨rfl,k,os,rfl⟩;exact ⟨by rw[ZCy];rfl,below_grow W k os⟩
 have hd1:(Lib.decDigits r).length≤12:=ZQ (k:=12) (by omega) (by decide);have hd2:(Lib.decDigits place).length≤12:=ZQ (k:=12) (by omega) (by decide);have H:=Zh h;have ad1:∀W,(Op.stringOp .add ⟨#[114]⟩ (str (Lib.decDigits r))).run Tryz.prog W=.ok (.string (str (114::Lib.decDigits r))) W:=ZAe [114] (Lib.decDigits r) (by simp;omega);have hpI:(place:Int)≤32767:=by omega
 clear h ht;go_enter Tryz.func25,Tryz.ntmps25
 go_wp2_with fail
 refine (HIT.out r w (Below.refl _ _) (by omega)).mono ?_;rintro e w1 ⟨rfl,hb1⟩;have HB1:=Zh hb1;clear hb1;go_wp2_with fail
 refine (HIT.out place w1 (HB1.out.mono (by omega)) (by omega)).mono ?_;rintro e w2 ⟨rfl,hb2⟩;have HB2:=Zh (show Below w.heap.size w w2 from HB1.out.trans (ZA hb2 HB1.out.size));clear hb2 HIT HB1;go_wp2_with fail
 have hal1:=ZV w2 (.cells #[.string (str op),.string (str (114::Lib.decDigits r)),.string { data:=#[114,49,51] },.string (str (Lib.decDigits place))] 9);have HX1:=Zh (Zi B b w2.heap.size 0 4 (l) [(str op),(str (114::Lib.decDigits r)),{ data:=#[114,49,51] },(str (Lib.decDigits place))] (w2.alloc (.cells #[.string (str op),.string (str (114::Lib.decDigits r)),.string { data:=#[114,49,51] },.string (str (Lib.decDigits place))] 9)) ((H.out.below HB2.out).below hal1) (fun j x hx=>by
  rw[Nat.zero_add,(Blk.new w2 _ _).cell]
  match j,hx with
  | 0,hx=>simp at hx;subst hx;rfl
  | 1,hx=>simp at hx;subst hx;rfl
  | 2,hx=>simp at hx;subst hx;rfl
  | 3,hx=>simp at hx;subst hx;rfl
  | j+4,hx=>simp at hx) (by simp[World.size_alloc]) (Nat.le_refl _) (by show 4≤100;omega) (by simp[Lib.join,List.intercalate,List.intersperse,ZU];omega) (by omega))
 have hjn:Lib.join (([(str op),(str (114::Lib.decDigits r)),{ data:=#[114,49,51] },(str (Lib.decDigits place))]:List ByteArray).map (·.data.toList)) [32]++[10]=op++32::114::Lib.decDigits r++32::[114,49,51]++32::Lib.decDigits place++[10]:=by
  simp[Lib.join,List.intercalate,List.intersperse,ZU]
 rw[hjn] at HX1;have HBX:=Zh (show Below B w (w2.alloc (.cells #[.string (str op),.string (str (114::Lib.decDigits r)),.string { data:=#[114,49,51] },.string (str (Lib.decDigits place))] 9)) from (HB2.out.mono (by omega)).trans (ZA hal1 (by have:=HB2.out.size;omega)));clear hal1 hjn;refine HX1.out.mono ?_;rintro e w3 ⟨rfl,h3,hb3⟩;have HN:=Zh (Za h3 (HBX.out.trans hb3));clear h3 hb3;go_wp2_with fail
 refine bodyPost_ret (results_none rfl _ _ _) rfl ?_;exact ⟨rfl,HN.out.1,HN.out.2⟩
theorem at25_far (B b:Nat) (l op:List UInt8) (r place:Nat) (w:World) (h:BL w B b l) (ht:ZIp B w) (hr:r≤15) (hp:32767<place) (hp2:place≤16777216) (hop:op.length≤10) (hl:l.length≤90000) :
  Calls Tryz.prog 25 #[.pointer (some ⟨b,0,none⟩),.string (str op),.int .i64 (r:Int),.int .i64 (place:Int)] w fun e w'=>e=.returned (.tuple #[])∧(∃m,BL w' B b (l++m)∧m.length≤200)∧Below B w w':=by
 have hbb:=h.le;have HIT:Hid (∀(n:Nat) W,Below B w W→n≤16777216→Calls Tryz.prog 24 #[.int .i64 (n:Int)] W fun e w'=>e=.returned (.string (str (Lib.decDigits n)))∧Below W.heap.size W w'):=fun n W hW hn=>by
  refine (Tryz.strconv_Itoa (n:Int) (by omega) (by omega) W (ht W hW)).mono ?_;rintro e w' ⟨rfl,k,os,rfl⟩;exact ⟨by rw[ZCy];rfl,below_grow W k os⟩
 have hd1:(Lib.decDigits r).length≤12:=ZQ (k:=12) (by omega) (by decide);have hd2:(Lib.decDigits place).length≤12:=ZQ (k:=12) (by omega) (by decide);have H:=Zh h;have ad1:∀W,(Op.stringOp .add ⟨#[114]⟩ (str (Lib.decDigits r))).run Tryz.prog W=.ok (.string (str (114::Lib.decDigits r))) W:=ZAe [114] (Lib.decDigits r) (by simp;omega);have hpI:decide ((place:Int)≤32767)=false:=decide_eq_false (by omega);clear h ht;go_enter Tryz.func25,Tryz.ntmps25
 go_wp2_with fail
 refine (HIT.out place w (Below.refl _ _) (by omega)).mono ?_;rintro e w1 ⟨rfl,hb1⟩;have HB1:=Zh hb1;clear hb1;go_wp2_with fail
 have hal1:=ZV w1 (.cells #[.string { data:=#[99,111,110,115,116,32,114,49,53] },.string (str (Lib.decDigits place))] 9);have hjl1:(Lib.join (([{ data:=#[99,111,110,115,116,32,114,49,53] },(str (Lib.decDigits place))]:List ByteArray).map (·.data.toList)) [32]).length≤60:=by
  simp[Lib.join,List.intercalate,List.intersperse,ZU];omega
 have HX1:=Zh (Zi B b w1.heap.size 0 2 l [{ data:=#[99,111,110,115,116,32,114,49,53] },(str (Lib.decDigits place))] (w1.alloc (.cells #[.string { data:=#[99,111,110,115,116,32,114,49,53] },.string (str (Lib.decDigits place))] 9)) ((H.out.below HB1.out).below hal1) (fun j x hx=>by
  rw[Nat.zero_add,(Blk.new w1 _ _).cell]
  match j,hx with
  | 0,hx=>simp at hx;subst hx;rfl
  | 1,hx=>simp at hx;subst hx;rfl
  | j+2,hx=>simp at hx) (by simp[World.size_alloc]) (Nat.le_refl _) (by show 2≤100;omega) (by omega) (by first|omega|(simp only[List.length_append];omega)))
 obtain ⟨m1,hm1⟩:∃m,Lib.join (([{ data:=#[99,111,110,115,116,32,114,49,53] },(str (Lib.decDigits place))]:List ByteArray).map (·.data.toList)) [32]++[10]=m:=⟨_,rfl⟩
 have hml1:m1.length≤61:=by rw[←hm1,List.length_append];simp only[List.length_singleton];omega
 rw[hm1] at HX1;have HAL1:=Zh hal1;clear hal1 hjl1 hm1;refine HX1.out.mono ?_;rintro e V1 ⟨rfl,h3,hb3⟩;have HN1:=Zh (show BL V1 B b (l++m1)∧Below B w V1 from ⟨h3,(HB1.out.mono (by omega)).trans ((HAL1.out.mono (by have:=HB1.out.size;omega)).trans hb3)⟩);clear h3 hb3 HX1 HAL1;go_wp2_with fail
 have hal2:=ZV V1 (.cells #[.string { data:=#[97,100,100,32,114,49,53,32,114,49,51,32,114,49,53] }] 9);have hjl2:(Lib.join (([{ data:=#[97,100,100,32,114,49,53,32,114,49,51,32,114,49,53] }]:List ByteArray).map (·.data.toList)) [32]).length≤60:=by
  simp[Lib.join,List.intercalate,List.intersperse,ZU]
 have HX2:=Zh (Zi B b V1.heap.size 0 1 (l++m1) [{ data:=#[97,100,100,32,114,49,53,32,114,49,51,32,114,49,53] }] (V1.alloc (.cells #[.string { data:=#[97,100,100,32,114,49,53,32,114,49,51,32,114,49,53] }] 9)) (HN1.out.1.below hal2) (fun j x hx=>by
  rw[Nat.zero_add,(Blk.new V1 _ _).cell]
  match j,hx with
  | 0,hx=>simp at hx;subst hx;rfl
  | j+1,hx=>simp at hx) (by simp[World.size_alloc]) (Nat.le_refl _) (by show 1≤100;omega) (by omega) (by first|omega|(simp only[List.length_append];omega)))
 obtain ⟨m2,hm2⟩:∃m,Lib.join (([{ data:=#[97,100,100,32,114,49,53,32,114,49,51,32,114,49,53] }]:List ByteArray).map (·.data.toList)) [32]++[10]=m:=⟨_,rfl⟩
 have hml2:m2.length≤61:=by rw[←hm2,List.length_append];simp only[List.length_singleton];omega
 rw[hm2] at HX2;have HAL2:=Zh hal2;clear hal2 hjl2 hm2;refine HX2.out.mono ?_;rintro e V2 ⟨rfl,h3,hb3⟩;have HN2:=Zh (show BL V2 B b ((l++m1)++m2)∧Below B w V2 from ⟨h3,(HN1.out.2).trans ((HAL2.out.mono (by have:=HN1.out.1.le;omega)).trans hb3)⟩);clear h3 hb3 HX2 HAL2;go_wp2_with fail
 refine (HIT.out r V2 HN2.out.2 (by omega)).mono ?_;rintro e w4 ⟨rfl,hb4⟩;have HB4:=Zh hb4;clear hb4;go_wp2_with fail
 have hal3:=ZV w4 (.cells #[.string (str op),.string (str (114::Lib.decDigits r)),.string { data:=#[114,49,53,32,48] }] 9);have hjl3:(Lib.join (([(str op),(str (114::Lib.decDigits r)),{ data:=#[114,49,53,32,48] }]:List ByteArray).map (·.data.toList)) [32]).length≤60:=by
  simp[Lib.join,List.intercalate,List.intersperse,ZU];omega
 have HX3:=Zh (Zi B b w4.heap.size 0 3 (l++m1++m2) [(str op),(str (114::Lib.decDigits r)),{ data:=#[114,49,53,32,48] }] (w4.alloc (.cells #[.string (str op),.string (str (114::Lib.decDigits r)),.string { data:=#[114,49,53,32,48] }] 9)) ((HN2.out.1.below HB4.out).below hal3) (fun j x hx=>by
  rw[Nat.zero_add,(Blk.new w4 _ _).cell]
  match j,hx with
  | 0,hx=>simp at hx;subst hx;rfl
  | 1,hx=>simp at hx;subst hx;rfl
  | 2,hx=>simp at hx;subst hx;rfl
  | j+3,hx=>simp at hx) (by simp[World.size_alloc]) (Nat.le_refl _) (by show 3≤100;omega) (by omega) (by first|omega|(simp only[List.length_append];omega)))
 obtain ⟨m3,hm3⟩:∃m,Lib.join (([(str op),(str (114::Lib.decDigits r)),{ data:=#[114,49,53,32,48] }]:List ByteArray).map (·.data.toList)) [32]++[10]=m:=⟨_,rfl⟩
 have hml3:m3.length≤61:=by rw[←hm3,List.length_append];simp only[List.length_singleton];omega
 rw[hm3] at HX3;have HAL3:=Zh hal3;clear hal3 hjl3 hm3;refine HX3.out.mono ?_;rintro e V3 ⟨rfl,h3,hb3⟩;have HN3:=Zh (show BL V3 B b ((l++m1++m2)++m3)∧Below B w V3 from ⟨h3,(HN2.out.2.trans (HB4.out.mono (by have:=HN2.out.1.le;omega))).trans ((HAL3.out.mono (by have:=HB4.out.size;have:=HN2.out.1.le;omega)).trans hb3)⟩);clear h3 hb3 HX3 HAL3;go_wp2_with fail
 go_end0
 refine ⟨rfl,⟨m1++m2++m3,?_,?_⟩,HN3.out.2⟩
 ·have:=HN3.out.1
  simpa only[List.append_assoc] using this
 ·simp only[List.length_append]
  omega
def atL (op:List UInt8) (r place:Nat):List UInt8:=op++32::114::Lib.decDigits r++32::[114,49,51]++32::Lib.decDigits place++[10]
theorem ZCH (B b:Nat) (l op:List UInt8) (r place:Nat) (w:World) (h:BL w B b l) (ht:ZIp B w) (hr:r≤15) (hp:place≤16777216) (hop:op.length≤10) (hl:l.length≤90000) :
  Calls Tryz.prog 25 #[.pointer (some ⟨b,0,none⟩),.string (str op),.int .i64 (r:Int),.int .i64 (place:Int)] w fun e w'=>e=.returned (.tuple #[])∧(∃m,BL w' B b (l++m)∧m.length≤200∧(place≤32767→m=atL op r place))∧Below B w w':=by
 rcases Nat.lt_or_ge 32767 place with hf|hn
 ·refine (at25_far B b l op r place w h ht hr hf hp hop hl).mono ?_
  rintro e w' ⟨h1,⟨m,h2,h3⟩,h4⟩;exact ⟨h1,⟨m,h2,h3,fun h=>by omega⟩,h4⟩
 ·refine (ZKx B b l op r place w h ht hr hn hop hl).mono ?_
  rintro e w' ⟨h1,h2,h3⟩;refine ⟨h1,⟨atL op r place,h2,?_,fun _=>rfl⟩,h3⟩;have hd1:(Lib.decDigits r).length≤12:=ZQ (k:=12) (by omega) (by decide);have hd2:(Lib.decDigits place).length≤12:=ZQ (k:=12) (by omega) (by decide);unfold atL;simp;omega
end Go.Proofs.YtggmkofbikafhaaGreatDoor
