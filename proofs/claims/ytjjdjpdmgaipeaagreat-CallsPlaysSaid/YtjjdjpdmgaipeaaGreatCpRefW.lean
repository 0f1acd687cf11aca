/- RefW, Text06, Made06, Made21, RenvW, RspPerm in one text. -/
import Derived.Test.YtjjdjpdmgaipeaaGreatProg
import Derived.Test.YtjjdjpdmgaipeaaGreatCpPag
import Derived.Test.YtjjdjpdmgaipeaaGreatCpBase
import Derived.Test.YtjjdjpdmgaipeaaGreatCpR20D
import Derived.Deep.DeepCutAuto
import Derived.Test.YtjjdjpdmgaipeaaGreatCpCor
import Derived.Test.YtjjdjpdmgaipeaaGreatCpRspW
import Derived.Deep.RegionHeld3
import Derived.Test.YtjjdjpdmgaipeaaGreatCpRspF
import Derived.StillTailTactics
import Derived.Test.YtjjdjpdmgaipeaaGreatCpZa
set_option linter.unusedVariables false
set_option linter.unusedSimpArgs false
set_option maxRecDepth 100000
set_option maxHeartbeats 16000000
open Go.Proofs.Tryz
namespace Go.Proofs.YtjjdjpdmgaipeaaGreat.Ins
open Go.RowKit Word
def rowV(op:Int):Value:=if usesV op=0 then .agg #[.bool true,.bool true,.bool true,.bool false] else .agg #[.bool (hasV op 1),.bool (hasV op 2),.bool (hasV op 4),.bool (hasV op 8)]
def isV(op:Int):Bool:=usesV op != 0
def UsesPost(op:Int)(w:World)(e:Ending)(w':World):Prop:=e=.returned (.tuple #[rowV op,.bool (isV op)])∧Below w.heap.size w w'
theorem uses_mk{op:Int}{w w':World}{a b c d i:Bool}(h:Value.agg #[.bool a,.bool b,.bool c,.bool d]=rowV op)(hi:i=isV op)(hb:Below w.heap.size w w'):UsesPost op w (.returned (.tuple #[.agg #[.bool a,.bool b,.bool c,.bool d],.bool i])) w':=⟨by rw[h,hi],hb⟩
theorem row_low{op:Int}(h:1≤op∧op≤14):rowV op=.agg #[.bool true,.bool true,.bool true,.bool false]∧isV op=true:=by
 have:usesV op=7:=by unfold usesV;rw[if_pos h]
 unfold rowV isV hasV;rw[this];exact⟨rfl,rfl⟩
theorem uses_at(op:Int)(h:op=17∨op=19∨op=22∨op=23∨op=24∨op=25∨op=26∨op=29∨op=30∨op=33∨op=34∨op=32∨op=41∨op=35∨op=36∨op=43∨op=44∨op=45∨op=46∨op=40∨op=50∨op=42)(w:World):
  Calls Tryz.prog 345 #[.int .u8 op] w (UsesPost op w):=by
 have HF:Hid (∀(a b c d i:Bool) w',Value.agg #[.bool a,.bool b,.bool c,.bool d]=rowV op→i=isV op→Below w.heap.size w w'→UsesPost op w (.returned (.tuple #[.agg #[.bool a,.bool b,.bool c,.bool d],.bool i])) w'):=Lh fun a b c d i w' h1 h2 h3=>uses_mk h1 h2 h3
 generalize hP:UsesPost op w=PQ at*;clear hP;rcases h with rfl|rfl|rfl|rfl|rfl|rfl|rfl|rfl|rfl|rfl|rfl|rfl|rfl|rfl|rfl|rfl|rfl|rfl|rfl|rfl|rfl|rfl
 all_goals
  go_enter func345,ntmps345;go_wp2
  first
   |exact bodyPost_ret (v:=.tuple #[.agg #[.bool true,.bool true,.bool false,.bool true],.bool true]) (by simp[results,Tryz.results345,go_sem];done) rfl (HF.out _ _ _ _ _ _ rfl rfl (Ba _))
   |exact bodyPost_ret (v:=.tuple #[.agg #[.bool true,.bool false,.bool false,.bool true],.bool true]) (by simp[results,Tryz.results345,go_sem];done) rfl (HF.out _ _ _ _ _ _ rfl rfl (Ba _))
   |exact bodyPost_ret (v:=.tuple #[.agg #[.bool false,.bool true,.bool true,.bool true],.bool true]) (by simp[results,Tryz.results345,go_sem];done) rfl (HF.out _ _ _ _ _ _ rfl rfl (Ba _))
   |exact bodyPost_ret (v:=.tuple #[.agg #[.bool false,.bool false,.bool false,.bool true],.bool true]) (by simp[results,Tryz.results345,go_sem];done) rfl (HF.out _ _ _ _ _ _ rfl rfl (Ba _))
   |exact bodyPost_ret (v:=.tuple #[.agg #[.bool false,.bool true,.bool false,.bool false],.bool true]) (by simp[results,Tryz.results345,go_sem];done) rfl (HF.out _ _ _ _ _ _ rfl rfl (Ba _))
theorem uses_else(op:Int)(o0:0≤op)(o1:op≤255)(h:¬(op=17∨op=19∨op=22∨op=23∨op=24∨op=25∨op=26∨op=29∨op=30∨op=33∨op=34∨op=32∨op=41∨op=35∨op=36∨op=43∨op=44∨op=45∨op=46∨op=40∨op=50∨op=42))(w:World):
  Calls Tryz.prog 345 #[.int .u8 op] w (UsesPost op w):=by
 have HF:Hid (∀(a b c d i:Bool) w',Value.agg #[.bool a,.bool b,.bool c,.bool d]=rowV op→i=isV op→Below w.heap.size w w'→UsesPost op w (.returned (.tuple #[.agg #[.bool a,.bool b,.bool c,.bool d],.bool i])) w'):=Lh fun a b c d i w' h1 h2 h3=>uses_mk h1 h2 h3
 generalize hP:UsesPost op w=PQ at*;clear hP;have f:∀k:Int,¬op=k→(op == k)=false:=fun k hk=>by simpa using hk
 have f17:=f 17 (by omega);have f19:=f 19 (by omega);have f22:=f 22 (by omega);have f23:=f 23 (by omega);have f24:=f 24 (by omega);have f25:=f 25 (by omega);have f26:=f 26 (by omega);have f29:=f 29 (by omega);have f30:=f 30 (by omega);have f33:=f 33 (by omega);have f34:=f 34 (by omega);have f32:=f 32 (by omega);have f41:=f 41 (by omega);have f35:=f 35 (by omega);have f36:=f 36 (by omega);have f43:=f 43 (by omega);have f44:=f 44 (by omega);have f45:=f 45 (by omega);have f46:=f 46 (by omega);have f40:=f 40 (by omega);have f50:=f 50 (by omega);have f42:=f 42 (by omega);have Hr:Hid (rowV op=.agg #[.bool true,.bool true,.bool true,.bool false]∧isV op=(decide (1≤op)&&decide (op≤14))):=Lh (by
  by_cases g:1≤op∧op≤14
  ·rw[(row_low g).1,(row_low g).2,decide_eq_true g.1,decide_eq_true g.2];exact⟨rfl,rfl⟩
  ·have:usesV op=0:=by unfold usesV;rw[if_neg g,if_neg (by omega),if_neg (by omega),if_neg (by omega),if_neg (by omega),if_neg (by omega)]
   unfold rowV isV;rw[this,if_pos rfl];refine⟨rfl, ?_⟩
   by_cases g1:1≤op
   ·rw[decide_eq_true g1,decide_eq_false (by omega)];rfl
   ·rw[decide_eq_false g1];rfl)
 clear f h;cases g1:decide (1≤op) with
 |false=>
  go_enter func345,ntmps345;go_wp2;exact bodyPost_ret (v:=.tuple #[.agg #[.bool true,.bool true,.bool true,.bool false],.bool false]) (by simp[results,Tryz.results345,go_sem];done) rfl (HF.out _ _ _ _ _ _ Hr.out.1.symm (by rw[Hr.out.2,g1];rfl) (Ba _))
 |true=>
  cases g2:decide (op≤14) with
  |false=>
   go_enter func345,ntmps345;go_wp2;exact bodyPost_ret (v:=.tuple #[.agg #[.bool true,.bool true,.bool true,.bool false],.bool false]) (by simp[results,Tryz.results345,go_sem];done) rfl (HF.out _ _ _ _ _ _ Hr.out.1.symm (by rw[Hr.out.2,g1,g2];rfl) (Ba _))
  |true=>
   go_enter func345,ntmps345;go_wp2;exact bodyPost_ret (v:=.tuple #[.agg #[.bool true,.bool true,.bool true,.bool false],.bool true]) (by simp[results,Tryz.results345,go_sem];done) rfl (HF.out _ _ _ _ _ _ Hr.out.1.symm (by rw[Hr.out.2,g1,g2];rfl) (Ba _))
theorem uses(op:Int)(o0:0≤op)(o1:op≤255)(w:World):Calls Tryz.prog 345 #[.int .u8 op] w (UsesPost op w):=
 if h:_ then uses_at op h w else uses_else op o0 o1 h w
theorem register(n:Int)(u:Bool)(n0:0≤n)(n1:n≤255)(w:World):Calls Tryz.prog 346 #[.int .u8 n,.bool u] w fun e w'=>e=.returned (.bool (fitV n u))∧w=w':=by
 unfold fitV;cases hn:(n == 0)<;>cases u
 all_goals
  go_enter func346,ntmps346;go_wp2;go_ret;exact⟨rfl,rfl⟩
end Go.Proofs.YtjjdjpdmgaipeaaGreat.Ins
namespace Go.Proofs.YtjjdjpdmgaipeaaGreat.Ins
open Go.RowKit Word
theorem cells5''(w:World)(a b c d e:Value)(t:TypeId)(i:Nat):(w.alloc (.cells #[a,b,c,d,e] t)).cell? ⟨w.heap.size,0+i,none⟩=[a,b,c,d,e][i]? :=by
 rw[World.cell?_alloc_mark];simp
theorem may(x:Ins)(hx:x.ok)(w:World):Calls Tryz.prog 316 #[x.val] w fun e w'=>e=.returned (.bool (mayV x))∧Below w.heap.size w w':=by
 obtain⟨op,d,a,b,imm⟩:=x;obtain⟨o0,o1,d0,d1,a0,a1,b0,b1,i0,i1⟩:=hx;simp only at o0 o1 d0 d1 a0 a1 b0 b1 i0 i1;have hE:mayV ⟨op,d,a,b,imm⟩=(isV op&&fitV d (hasV op 1)&&fitV a (hasV op 2)&&fitV b (hasV op 4)&&(hasV op 8||imm == 0)):=rfl;have hu:=uses op o0 o1;have hrow:isV op=true→rowV op=.agg #[.bool (hasV op 1),.bool (hasV op 2),.bool (hasV op 4),.bool (hasV op 8)]:=fun h=>by
  unfold rowV;unfold isV at h;rw[if_neg (by simpa using h)]
 have hrow0:isV op=false→rowV op=.agg #[.bool true,.bool true,.bool true,.bool false]:=fun h=>by
  unfold rowV;unfold isV at h;rw[if_pos (by simpa using h)]
 generalize mayV ⟨op,d,a,b,imm⟩=E at*;have HE:=Lh hE;have HU:Hid (∀w0,Calls Tryz.prog 345 #[.int .u8 op] w0 fun e w'=>e=.returned (.tuple #[rowV op,.bool (isV op)])∧Below w0.heap.size w0 w'):=Lh fun w0=>hu w0
 generalize isV op=is at*;generalize rowV op=row at*;have H1:=Lh (register d (hasV op 1) d0 d1);have H2:=Lh (register a (hasV op 2) a0 a1);have H3:=Lh (register b (hasV op 4) b0 b1);have hbW:Below w.heap.size w (w.alloc (.cells #[.int .u8 op,.int .u8 d,.int .u8 a,.int .u8 b,.int .u32 imm] 213)):=Ba _;have HB:=Lh hbW;have HX:Hid (∀w1,Below (w.heap.size+1) (w.alloc (.cells #[.int .u8 op,.int .u8 d,.int .u8 a,.int .u8 b,.int .u32 imm] 213)) w1→w1.cell? ⟨w.heap.size,1,none⟩=some (.int .u8 d)∧w1.cell? ⟨w.heap.size,2,none⟩=some (.int .u8 a)∧w1.cell? ⟨w.heap.size,3,none⟩=some (.int .u8 b)∧w1.cell? ⟨w.heap.size,4,none⟩=some (.int .u32 imm)):=Lh fun w1 hb=>by
  have hcs:=cells5'' w (.int .u8 op) (.int .u8 d) (.int .u8 a) (.int .u8 b) (.int .u32 imm) 213;have e:∀j,w1.cell? ⟨w.heap.size,j,none⟩=(w.alloc (.cells #[.int .u8 op,.int .u8 d,.int .u8 a,.int .u8 b,.int .u32 imm] 213)).cell? ⟨w.heap.size,j,none⟩:=fun j=>World.cell?_of_block (hb.block _ (by simp only;omega))
  exact⟨(e 1).trans (hcs 1),(e 2).trans (hcs 2),(e 3).trans (hcs 3),(e 4).trans (hcs 4)⟩
 have hmf:=hasV op 1;generalize hasV op 1=f1 at*;generalize hasV op 2=f2 at*;generalize hasV op 4=f4 at*;generalize hasV op 8=f8 at*;generalize fitV d f1=fd at*;generalize fitV a f2=fa at*;generalize fitV b f4=fb at*;clear hu hE hbW hmf;unfold val;simp only;go_enter func316,ntmps316;go_wp2_with fail;refine(HU.out _).mono ?_;rintro e w1 ⟨rfl,hb1⟩;have hq:=HX.out w1 (by simpa using hb1);have HB1:=Lh (bQ HB.out hb1);have hlt:w.heap.size<w1.heap.size:=by have:=hb1.size;simp at this;omega
 obtain⟨k1,k2,k3,k4⟩:=hq;clear hb1 HX HB HU;have HF:Hid (∀V,Below w1.heap.size w1 V→Below w.heap.size w V):=Lh fun V hV=>bQ HB1.out hV
 cases is with
 |false=>
  rw[hrow0 rfl];clear hrow hrow0;go_wp2;go_ret;exact⟨by rw[HE.out];rfl,HF.out _ (Ba _)⟩
 |true=>
  rw[hrow rfl];clear hrow hrow0;cases fd<;>cases fa<;>cases fb<;>cases f8<;>cases him:(imm == 0)
  all_goals
   go_wp2_with (go_at_call 346;first|((with_reducible refine(H1.out _).mono ?_);rintro e w2 ⟨rfl,rfl⟩)|((with_reducible refine(H2.out _).mono ?_);rintro e w2 ⟨rfl,rfl⟩)|((with_reducible refine(H3.out _).mono ?_);rintro e w2 ⟨rfl,rfl⟩));go_ret;exact⟨by rw[HE.out];first|rfl|(rw[him];rfl),HF.out _ (Ba _)⟩
end Go.Proofs.YtjjdjpdmgaipeaaGreat.Ins
namespace Go.Proofs.YtjjdjpdmgaipeaaGreat
section
open Go.RowKit
variable {P:Program} {ops:Array Oper} {Q:Exit→Act→World→Prop} {md:Region.Mode} {S:World→Prop} {last:Nat}
theorem E_two{i j:Nat}{oi oj:Oper}{fuel:Nat}{listed:Array Bool}{a:Act}{w:World}(hr:Region.ready md ops listed=[i,j])(hoi:ops[i]? =some oi)(hoj:ops[j]? =some oj)
  (h:∀K':Act→World→Prop,Shut (∀a w,(i≠last→S w)→((i≠last→S w)→AnyE P md ops Q S last fuel (listed.setIfInBounds i true) a w)→K' a w)→if Region.wanted oi (yielded ops a.tmps)=true then Oper.wp P oi a w K' Q else K' (a.put oi.dst undef) w)
  (h2:∀K':Act→World→Prop,Shut (∀a w,(j≠last→S w)→((j≠last→S w)→AnyE P md ops Q S last fuel (listed.setIfInBounds j true) a w)→K' a w)→if Region.wanted oj (yielded ops a.tmps)=true then Oper.wp P oj a w K' Q else K' (a.put oj.dst undef) w):
  AnyE P md ops Q S last (fuel+1) listed a w:=by
 refine⟨fun h0=>(by rw[h0] at hr;cases hr),fun k hk=> ?_⟩;rw[hr,List.mem_cons,List.mem_singleton] at hk;rcases hk with rfl|rfl
 ·exact wpOp_step hoi (fun K' hK=>h K' (fun a w hS hW=>hK a w ⟨hS,hW hS⟩))
 ·exact wpOp_step hoj (fun K' hK=>h2 K' (fun a w hS hW=>hK a w ⟨hS,hW hS⟩))
end
namespace Ins
open Go.RowKit Word
theorem strOfNums_app(xs ys:List Int):strOfNums (xs++ys)=strOfNums xs++strOfNums ys:=by
 apply ByteArray.ext
 apply Array.toList_inj.1
 rw[ByteArray.data_append,Array.toList_append,strOfNums_data,strOfNums_data,strOfNums_data,List.map_append]
theorem u8str(W:World)(g:Nat)(a b c d:Int)(h:W.heap[g]? =some (.cells #[.int .u8 a,.int .u8 b,.int .u8 c,.int .u8 d] 5 (0,0))):
  (convert 30 9 (.slice (some ⟨g,0,none⟩) 4 4)).run Tryz.prog W=.ok (.string (strOfNums [a,b,c,d])) W:=by
 refine run_convert_bytes_arg W 30 5 Tryz.underlying30 Tryz.underlying5 g 0 4 4 [a,b,c,d] rfl (fun i hi=> ?_) 9 Tryz.underlying9;unfold World.cell?;rw[h];have:i=0∨i=1∨i=2∨i=3:=by omega
 rcases this with rfl|rfl|rfl|rfl<;>rfl
theorem encode_yes(x:Ins)(hx:x.ok)(hm:mayV x=true)(w:World):Calls Tryz.prog 274 #[x.val] w fun e w'=>e=.returned (.tuple #[.string (encS x),.int .i64 0])∧Below w.heap.size w w':=by
 have hsm:=may_small hm hx;have hmay:=may x hx;have hS:encS x=strOfNums [x.op,x.d+16*x.a,x.b,0]++putS x.imm 4:=by
  unfold encS;rw[if_pos hm];unfold encL putS;rw[strOfNums_app];rfl
 rw[hS];clear hS;obtain⟨op,d,a,b,imm⟩:=x;obtain⟨o0,o1,d0,d1,a0,a1,b0,b1,i0,i1⟩:=hx;obtain⟨s1,s2,s3,s4,s5,s6⟩:=hsm;simp only at o0 o1 d0 d1 a0 a1 b0 b1 i0 i1 s1 s2 s3 s4 s5 s6;have hw1:IntKind.u8.wrap (16*a)=16*a:=by rw[IntKind.wrap_u8];omega
 have hw2:IntKind.u8.wrap (d+16*a)=d+16*a:=by rw[IntKind.wrap_u8];omega
 have hw3:16*a % 256=16*a:=by omega
 have hw4:(d+16*a) % 256=d+16*a:=by omega
 have hbW:Below w.heap.size w (w.alloc (.cells #[.int .u8 op,.int .u8 d,.int .u8 a,.int .u8 b,.int .u32 imm] 213)):=Ba _;have HB:=Lh hbW;have hcs:=cells5'' w (.int .u8 op) (.int .u8 d) (.int .u8 a) (.int .u8 b) (.int .u32 imm) 213;have HX:Hid (∀w1,Below (w.heap.size+1) (w.alloc (.cells #[.int .u8 op,.int .u8 d,.int .u8 a,.int .u8 b,.int .u32 imm] 213)) w1→w1.cell? ⟨w.heap.size,0,none⟩=some (.int .u8 op)∧w1.cell? ⟨w.heap.size,1,none⟩=some (.int .u8 d)∧w1.cell? ⟨w.heap.size,2,none⟩=some (.int .u8 a)∧w1.cell? ⟨w.heap.size,3,none⟩=some (.int .u8 b)∧w1.cell? ⟨w.heap.size,4,none⟩=some (.int .u32 imm)):=Lh fun w1 hb=>by
  have e:∀j,w1.cell? ⟨w.heap.size,j,none⟩=(w.alloc (.cells #[.int .u8 op,.int .u8 d,.int .u8 a,.int .u8 b,.int .u32 imm] 213)).cell? ⟨w.heap.size,j,none⟩:=fun j=>World.cell?_of_block (hb.block _ (by simp only;omega))
  exact⟨(e 0).trans (hcs 0),(e 1).trans (hcs 1),(e 2).trans (hcs 2),(e 3).trans (hcs 3),(e 4).trans (hcs 4)⟩
 have HM:Hid (∀W,Calls Tryz.prog 316 #[.agg #[.int .u8 op,.int .u8 d,.int .u8 a,.int .u8 b,.int .u32 imm]] W fun e w'=>e=.returned (.bool true)∧Below W.heap.size W w'):=Lh fun W=>by have h:=hmay W;rw[hm] at h;exact h
 have HBy:=Lh (WordRef.Bytes imm 4 (by omega) i0 i1);have HFin:Hid (∀w',Below w.heap.size w w'→(fun e w'=>e=Ending.returned (.tuple #[.string (strOfNums [op,d+16*a,b,0]++putS imm 4),.int .i64 0])∧Below w.heap.size w w') (.returned (.tuple #[.string (strOfNums [op,d+16*a,b,0]++putS imm 4),.int .i64 0])) w'):=Lh fun w' g=>⟨rfl,g⟩
 generalize (fun e w'=>e=Ending.returned (.tuple #[.string (strOfNums [op,d+16*a,b,0]++putS imm 4),.int .i64 0])∧Below w.heap.size w w')=PQ at*;clear hbW hcs hmay hm;unfold val;simp only;go_enter func274,ntmps274;go_wp2_with fail;refine(HM.out _).mono ?_;rintro e w1 ⟨rfl,hb1⟩;have hk:=HX.out w1 (by simpa using hb1);have HB1:=Lh (bQ HB.out hb1);have hlt:w.heap.size<w1.heap.size:=by have:=hb1.size;simp at this;omega
 have HS:Hid (∀V,Below w1.heap.size w1 V→V.cell? ⟨w.heap.size,0,none⟩=some (.int .u8 op)∧V.cell? ⟨w.heap.size,1,none⟩=some (.int .u8 d)∧V.cell? ⟨w.heap.size,2,none⟩=some (.int .u8 a)∧V.cell? ⟨w.heap.size,3,none⟩=some (.int .u8 b)∧V.cell? ⟨w.heap.size,4,none⟩=some (.int .u32 imm)):=Lh fun V hV=>by
  have e:∀j,V.cell? ⟨w.heap.size,j,none⟩=w1.cell? ⟨w.heap.size,j,none⟩:=fun j=>World.cell?_of_block (hV.block _ hlt)
  obtain⟨k0,k1,k2,k3,k4⟩:=hk;exact⟨(e 0).trans k0,(e 1).trans k1,(e 2).trans k2,(e 3).trans k3,(e 4).trans k4⟩
 clear hb1 HX HB HM hk hlt;go_wp2_with fail;refine wp_region_E (fun w'=>w'.cell? ⟨w.heap.size,0,none⟩=some (.int .u8 op)∧w'.cell? ⟨w.heap.size,1,none⟩=some (.int .u8 d)∧w'.cell? ⟨w.heap.size,2,none⟩=some (.int .u8 a)∧w'.cell? ⟨w.heap.size,3,none⟩=some (.int .u8 b)∧w'.cell? ⟨w.heap.size,4,none⟩=some (.int .u32 imm)) 17 (by kernel_rfl) ?_;have hB0:Below w1.heap.size w1 w1.drew:=(Below.refl _ w1).drew;have h0:=HS.out _ hB0;refine LT 0 h0 ?_;refine LT 1 h0 ?_;refine LT 2 h0 ?_;refine LT 3 h0 ?_;refine LT 4 h0 ?_;refine LT 5 h0 ?_;refine LT 6 h0 ?_;refine LT 7 h0 ?_;refine LT 8 h0 ?_;refine LT 9 h0 ?_;refine LT 12 h0 ?_;refine LT 13 h0 ?_;refine E_two (i:=10) (j:=14) (by kernel_rfl) rfl rfl (fun K hK=> ?_) (fun K hK=> ?_)
 ·go_simp;have hB1:=((Below.refl _ w1).alloc (Nat.le_refl _) (.cells #[.int .u8 op,.int .u8 (d+16*a),.int .u8 b,.int .u8 0] 5)).drew;have h1:=HS.out _ hB1;refine LV hK (fun _=>h1) ?_;clear hK K;have hX:(w1.alloc (.cells #[.int .u8 op,.int .u8 (d+16*a),.int .u8 b,.int .u8 0] 5)).drew.heap[w1.heap.size]? =some (.cells #[.int .u8 op,.int .u8 (d+16*a),.int .u8 b,.int .u8 0] 5 (0,0)):=heap_alloc_new w1 _;refine E_two (i:=11) (j:=14) (by kernel_rfl) rfl rfl (fun K hK=> ?_) (fun K hK=> ?_)
  ·have hcv:=u8str (w1.alloc (.cells #[.int .u8 op,.int .u8 (d+16*a),.int .u8 b,.int .u8 0] 5)).drew w1.heap.size op (d+16*a) b 0 hX;go_simp;refine LV hK (fun _=>h1) ?_;clear hK K;refine LU 14 fun K hK=> ?_
   go_simp;go_at_call 317;refine(HBy.out _).mono ?_;rintro e w2 ⟨rfl,hq⟩;have hB2:Below w1.heap.size w1 w2:=hB1.trans (hq.mono (by have:=hB1.size;first|exact this|simpa using this));have h2:=HS.out _ hB2;refine LV hK (fun _=>h2) ?_;clear hK K;refine LU 15 fun K hK=> ?_
   go_simp;refine LV hK (fun _=>h2) ?_;clear hK K;refine LU 16 fun K hK=> ?_
   go_simp;refine LV hK (fun _=>h2) ?_;clear hK K;refine LU 17 fun K hK=> ?_
   go_simp;refine LV hK (fun _=>h2) ?_;clear hK K;refine E_done (by kernel_rfl) ?_ _;have HBz:=Lh (HB1.out.trans (hB2.mono HB1.out.size));go_wp2
   first|go_ret2|skip
   exact HFin.out _ HBz.out
  ·go_simp;go_at_call 317;refine(HBy.out _).mono ?_;rintro e w2 ⟨rfl,hq⟩;have hB2:Below w1.heap.size w1 w2:=hB1.trans (hq.mono (by have:=hB1.size;first|exact this|simpa using this));have h2:=HS.out _ hB2;refine LV hK (fun _=>h2) ?_;clear hK K;have hX2:=(hq.block w1.heap.size (by simp)).trans hX;refine LU 11 fun K hK=> ?_
   have hcv:=u8str w2 w1.heap.size op (d+16*a) b 0 hX2;go_simp;refine LV hK (fun _=>h2) ?_;clear hK K;refine LU 15 fun K hK=> ?_
   go_simp;refine LV hK (fun _=>h2) ?_;clear hK K;refine LU 16 fun K hK=> ?_
   go_simp;refine LV hK (fun _=>h2) ?_;clear hK K;refine LU 17 fun K hK=> ?_
   go_simp;refine LV hK (fun _=>h2) ?_;clear hK K;refine E_done (by kernel_rfl) ?_ _;have HBz:=Lh (HB1.out.trans (hB2.mono HB1.out.size));go_wp2
   first|go_ret2|skip
   exact HFin.out _ HBz.out
 ·go_simp;go_at_call 317;refine(HBy.out _).mono ?_;rintro e w2 ⟨rfl,hq⟩;have hB1:Below w1.heap.size w1 w2:=hB0.trans (hq.mono (by have:=hB0.size;first|exact this|simpa using this));have h1:=HS.out _ hB1;refine LV hK (fun _=>h1) ?_;clear hK K;refine LU 10 fun K hK=> ?_
  go_simp;have hB2:=hB1.alloc (by have:=hB1.size;first|exact this|simpa using this) (.cells #[.int .u8 op,.int .u8 (d+16*a),.int .u8 b,.int .u8 0] 5);have h2:=HS.out _ hB2;refine LV hK (fun _=>h2) ?_;clear hK K;have hX:(w2.alloc (.cells #[.int .u8 op,.int .u8 (d+16*a),.int .u8 b,.int .u8 0] 5)).heap[w2.heap.size]? =some (.cells #[.int .u8 op,.int .u8 (d+16*a),.int .u8 b,.int .u8 0] 5 (0,0)):=heap_alloc_new w2 _;refine LU 11 fun K hK=> ?_
  have hcv:=u8str (w2.alloc (.cells #[.int .u8 op,.int .u8 (d+16*a),.int .u8 b,.int .u8 0] 5)) w2.heap.size op (d+16*a) b 0 hX;go_simp;refine LV hK (fun _=>h2) ?_;clear hK K;refine LU 15 fun K hK=> ?_
  go_simp;refine LV hK (fun _=>h2) ?_;clear hK K;refine LU 16 fun K hK=> ?_
  go_simp;refine LV hK (fun _=>h2) ?_;clear hK K;refine LU 17 fun K hK=> ?_
  go_simp;refine LV hK (fun _=>h2) ?_;clear hK K;refine E_done (by kernel_rfl) ?_ _;have HBz:=Lh (HB1.out.trans (hB2.mono HB1.out.size));go_wp2
  first|go_ret2|skip
  exact HFin.out _ HBz.out
theorem encode_no(x:Ins)(hx:x.ok)(hm:mayV x=false)(w:World):Calls Tryz.prog 274 #[x.val] w fun e w'=>e=.returned (.tuple #[.string ByteArray.empty,.int .i64 2])∧Below w.heap.size w w':=by
 have hmay:=may x hx;rw[hm] at hmay;obtain⟨op,d,a,b,imm⟩:=x;have hbW:Below w.heap.size w (w.alloc (.cells #[.int .u8 op,.int .u8 d,.int .u8 a,.int .u8 b,.int .u32 imm] 213)):=Ba _;have HB:=Lh hbW;have HM:=Lh hmay;clear hmay hm hx hbW;unfold val at HM⊢;simp only at HM⊢;go_enter func274,ntmps274;go_wp2_with fail;refine(HM.out _).mono ?_;rintro e w1 ⟨rfl,hb1⟩;have HB1:=Lh (bQ HB.out hb1);clear hb1;go_wp2;go_ret2;exact⟨rfl,HB1.out⟩
theorem encode(x:Ins)(hx:x.ok)(w:World):Calls Tryz.prog 274 #[x.val] w fun e w'=>e=.returned (.tuple #[.string (encS x),.int .i64 (encE x)])∧Below w.heap.size w w':=by
 cases hm:mayV x with
 |true=>
  have e:encE x=0:=by unfold encE;rw[if_pos hm]
  rw[e];exact encode_yes x hx hm w
 |false=>
  have e:encE x=2:=by unfold encE;rw[hm];rfl
  have e2:encS x=ByteArray.empty:=by unfold encS;rw[hm];rfl
  rw[e,e2];exact encode_no x hx hm w
end Ins
open Go.RowKit Word
namespace Cp
def z8:List Int:=List.replicate 8 0
theorem z8_len:z8.length=8:=rfl
def insB(x:Ins):List Int:=if Ins.mayV x then Ins.encL x else z8
def textL(f:Nat→Ins):Nat→List Int
 |0=>[]
 |k+1=>textL f k++insB (f k)
theorem textL_len(f:Nat→Ins)(k:Nat):(textL f k).length=8*k:=by
 induction k with
 |zero=>rfl
 |succ k ih=>
  unfold textL;rw[List.length_append,ih];unfold insB
  split
  ·rw[Ins.encL_len];omega
  ·rw[z8_len];omega
theorem szN(xs:List Int):(strOfNums xs).size=xs.length:=by
 show(strOfNums xs).data.size=_
 rw[←Array.length_toList,strOfNums_data,List.length_map]
structure InsAt(w:World)(b off i:Nat)(x:Ins):Prop where
 c0:w.cell? ⟨b,off+i*5,none⟩=some (.int .u8 x.op)
 c1:w.cell? ⟨b,off+i*5+1,none⟩=some (.int .u8 x.d)
 c2:w.cell? ⟨b,off+i*5+2,none⟩=some (.int .u8 x.a)
 c3:w.cell? ⟨b,off+i*5+3,none⟩=some (.int .u8 x.b)
 c4:w.cell? ⟨b,off+i*5+4,none⟩=some (.int .u32 x.imm)
theorem InsAt.below{w w':World}{b off i:Nat}{x:Ins}{B:Nat}(h:InsAt w b off i x)(hb:Below B w w')(hB:b<B):InsAt w' b off i x:=by
 have e:∀j,w'.cell? ⟨b,j,none⟩=w.cell? ⟨b,j,none⟩:=fun j=>World.cell?_of_block (hb.block _ hB)
 exact⟨(e _).trans h.c0,(e _).trans h.c1,(e _).trans h.c2,(e _).trans h.c3,(e _).trans h.c4⟩
theorem InsAt.lt{w:World}{b off i:Nat}{x:Ins}(h:InsAt w b off i x):b<w.heap.size:=by
 have:=h.c0;unfold World.cell? at this;cases hg:w.heap[b]? with
 |none=>rw[hg] at this;cases this
 |some _=>exact lQ hg
def Code(w:World)(a:Option Addr)(n:Nat)(f:Nat→Ins):Prop:=0<n→∃b off,a=some ⟨b,off,none⟩∧∀i,i<n→InsAt w b off i (f i)
theorem Code.below{w w':World}{a:Option Addr}{n:Nat}{f:Nat→Ins}(h:Code w a n f)(hb:Below w.heap.size w w'):Code w' a n f:=fun hn=>by
 obtain⟨b,off,e,hc⟩:=h hn;exact⟨b,off,e,fun i hi=>(hc i hi).below hb (hc i hi).lt⟩
def txRel(w:World)(f:Nat→Ins)(n:Nat)(vs vi:Value)(wr:World):Prop:=
 ∃k:Nat,k≤n∧vi=.int .i64 k∧vs=.string (strOfNums (textL f k))∧Below w.heap.size w wr
theorem zero8(W:World)(b:Nat)(h:W.heap[b]? =some (.cells (Sp.fillL [] 8).toArray 5 (0,0))):
  (convert 30 9 (.slice (some ⟨b,0,none⟩) 8 8)).run Tryz.prog W=.ok (.string (strOfNums (z8))) W:=by
 refine run_convert_bytes_arg W 30 5 Tryz.underlying30 Tryz.underlying5 b 0 8 8 (z8) rfl (fun i hi=> ?_) 9 Tryz.underlying9;unfold World.cell?;rw[h,Sp.fillL_zero];have:i=0∨i=1∨i=2∨i=3∨i=4∨i=5∨i=6∨i=7:=by omega
 rcases this with rfl|rfl|rfl|rfl|rfl|rfl|rfl|rfl<;>rfl
theorem text(w:World)(a:Option Addr)(n cap:Nat)(f:Nat→Ins)(hc:Code w a n f)(hok:∀i,i<n→(f i).ok)(hn:n≤1000):
  Calls Tryz.prog 181 #[.slice a n cap] w fun e w'=>e=.returned (.string (strOfNums (textL f n)))∧Below w.heap.size w w':=by
 have HC:=Lh hc;have HO:=Lh hok;clear hc hok;go_enter func181,ntmps181;go_wp2;go_loopw [3,4] (fun vs vi wr=>txRel w f n vs vi wr) (fun _ vi _=>n - (intOf vi).toNat)
 case atStart=>exact⟨0,Nat.zero_le _,by go_num,rfl,Below.refl _ _⟩
 case round=>
  obtain⟨k,hk,rfl,rfl,hb⟩:=hrel
  by_cases hk2:k<n
  ·obtain⟨b,off,rfl,hcl⟩:=HC.out (by omega);have hia:=(hcl k hk2).below hb (hcl k hk2).lt;have hxo:=HO.out k hk2;have he:=Ins.encode (f k) hxo wr;have hT:textL f (k+1)=textL f k++insB (f k):=rfl;generalize f k=x at*;obtain⟨c0,c1,c2,c3,c4⟩:=hia;have HE:=Lh he;have HB:=Lh hb;have HT:=Lh hT;clear hcl he hb hT hxo;obtain⟨op,d,a,b',imm⟩:=x;simp only at c0 c1 c2 c3 c4;cases hm:Ins.mayV ⟨op,d,a,b',imm⟩ with
   |true=>
    have e1:Ins.encE ⟨op,d,a,b',imm⟩=0:=by unfold Ins.encE;rw[hm];rfl
    have e2:Ins.encS ⟨op,d,a,b',imm⟩=strOfNums (Ins.encL ⟨op,d,a,b',imm⟩):=by unfold Ins.encS;rw[if_pos hm]
    have e3:insB ⟨op,d,a,b',imm⟩=Ins.encL ⟨op,d,a,b',imm⟩:=by unfold insB;rw[if_pos hm]
    rw[e3] at HT;rw[e1,e2] at HE;clear e1 e2 e3 hm;unfold Ins.val at HE;simp only at HE;go_wp2_with fail;refine HE.out.mono ?_;rintro e w1 ⟨rfl,hb1⟩;have HB1:=Lh (HB.out.trans (hb1.mono HB.out.size));clear hb1;have hz1:((strOfNums (textL f k)).size:Int)≤8388608:=by rw[szN,textL_len];omega
    have hz2:((strOfNums (Ins.encL ⟨op,d,a,b',imm⟩)).size:Int)≤8388608:=by rw[szN,Ins.encL_len];omega
    go_wp2;refine⟨⟨k+1,by omega,by go_num, ?_,HB1.out⟩,by simp[intOf];omega⟩;rw[HT.out,Ins.strOfNums_app]
   |false=>
    have e1:Ins.encE ⟨op,d,a,b',imm⟩=2:=by unfold Ins.encE;rw[hm];rfl
    have e3:insB ⟨op,d,a,b',imm⟩=z8:=by unfold insB;rw[hm];rfl
    rw[e3] at HT;rw[e1] at HE;clear e1 e3 hm;unfold Ins.val at HE;simp only at HE;go_wp2_with fail;refine HE.out.mono ?_;rintro e w1 ⟨rfl,hb1⟩;have HB1:=Lh (HB.out.trans (hb1.mono HB.out.size));clear hb1;have hmk:(Instr.makeSlice 30 (.int .i64 8) (.int .i64 8)).run Tryz.prog w1=.ok (.slice (some ⟨w1.heap.size,0,none⟩) 8 8) (w1.alloc (.cells (Sp.fillL [] 8).toArray 5)):=Sp.run_made 8 (by omega) w1;have hz1:((strOfNums (textL f k)).size:Int)≤8388608:=by rw[szN,textL_len];omega
    have hz2:((strOfNums (z8)).size:Int)≤8388608:=by rw[szN,z8_len];omega
    have hcv:=zero8 (w1.alloc (.cells (Sp.fillL [] 8).toArray 5)) w1.heap.size (heap_alloc_new w1 _);go_wp2;refine⟨⟨k+1,by omega,by go_num, ?_,HB1.out.alloc HB1.out.size _⟩,by simp[intOf];omega⟩;rw[HT.out,Ins.strOfNums_app]
  ·obtain rfl:k=n:=by omega
   have HB:=Lh hb;clear hb;go_wp2;go_ret;exact⟨rfl,HB.out⟩
end Cp
open Go.RowKit Word
namespace Cp
def RowN(k:IntKind)(w:World)(a:Option Addr)(n:Nat)(f:Nat→Int):Prop:=0<n→∃b off,a=some ⟨b,off,none⟩∧b<w.heap.size∧∀i,i<n→w.cell? ⟨b,off+i,none⟩=some (.int k (f i))
structure St where
 ra:Option Addr
 rn:Nat
 rcap:Nat
 rf:Nat→Int
 pc:Int
 pa:Option Addr
 pn:Nat
 pcap:Nat
 pf:Nat→Int
 at':Int
 ca:Option Addr
 cn:Nat
 ccap:Nat
 cf:Nat→Ins
 wh:Int
 text:ByteArray
def St.cells(x:St):Array Value:= #[.slice x.ra x.rn x.rcap,.int .u32 x.pc,.slice x.pa x.pn x.pcap,.int .u16 x.at',.slice x.ca x.cn x.ccap,.int .u16 x.wh,.string x.text]
structure St.ok(w:World)(x:St):Prop where
 rrow:RowN .u32 w x.ra x.rn x.rf
 rbd:∀i,i<x.rn→0≤x.rf i∧x.rf i≤4294967295
 rlen:x.rn≤9223372036854775807
 p0:0≤x.pc
 p1:x.pc≤4294967295
 prow:RowN .u8 w x.pa x.pn x.pf
 pbd:∀i,i<x.pn→0≤x.pf i∧x.pf i≤255
 plen:x.pn≤16
 a0:0≤x.at'
 a1:x.at'≤65535
 crow:Code w x.ca x.cn x.cf
 cbd:∀i,i<x.cn→(x.cf i).ok
 clen:x.cn≤1000
 w0:0≤x.wh
 w1:x.wh≤65535
 tlen:x.text.size≤65536
def St.regs(x:St):List Int:=regsK x.rf (min x.rn 16)
def St.pgs(x:St):List Pg:=madeA x.pf x.pn x.at' (strOfNums (textL x.cf x.cn)) x.wh x.text
def MadePost(w:World)(x:St)(e:Ending)(w':World):Prop:=
 ∃(cb sb mb:Nat) (A:List Pg) (db rb:Nat) (lv:Value) (R:List Rp),e=.returned (.tuple #[.pointer (some ⟨cb,0,none⟩),.pointer (some ⟨sb,0,none⟩),.pointer (some ⟨db,0,none⟩),.pointer (some ⟨rb,0,none⟩),.bool true])∧
  Duo w w' cb sb mb A x.regs x.pc db rb lv R x.regs x.pc∧cores A=cores (rpgs R)∧cores A=cores x.pgs
structure StBox(w:World)(b:Nat)(x:St):Prop where
 blk:w.heap[b]? =some (.cells x.cells 34 (0,0))
theorem StBox.cells{w:World}{b:Nat}{x:St}(h:StBox w b x):w.cell? ⟨b,0,none⟩=some (.slice x.ra x.rn x.rcap)∧w.cell? ⟨b,1,none⟩=some (.int .u32 x.pc)∧w.cell? ⟨b,2,none⟩=some (.slice x.pa x.pn x.pcap)∧w.cell? ⟨b,3,none⟩=some (.int .u16 x.at')∧w.cell? ⟨b,4,none⟩=some (.slice x.ca x.cn x.ccap)∧w.cell? ⟨b,5,none⟩=some (.int .u16 x.wh)∧w.cell? ⟨b,6,none⟩=some (.string x.text):=by
 unfold World.cell?;rw[h.blk];exact⟨rfl,rfl,rfl,rfl,rfl,rfl,rfl⟩
theorem StBox.below{w w':World}{b:Nat}{x:St}{B:Nat}(h:StBox w b x)(hb:Below B w w')(hB:b<B):StBox w' b x:=⟨(hb.block _ hB).trans h.blk⟩
def m1Rel(w0:World)(x:St)(cb sb mb db rb:Nat)(vi:Value)(wr:World):Prop:=
 ∃k:Nat,k≤x.rn∧k≤16∧vi=.int .i64 k∧Duo w0 wr cb sb mb [] (regsK x.rf k) x.pc db rb (.slice none 0 0) [] (regsK x.rf k) x.pc
def m2Rel(w0:World)(x:St)(cb sb mb db rb:Nat)(vi:Value)(wr:World):Prop:=
 ∃(k:Nat) (A:List Pg) (lv:Value) (R:List Rp),k≤x.pn∧vi=.int .i64 k∧Duo w0 wr cb sb mb A x.regs x.pc db rb lv R x.regs x.pc∧cores A=cores (rpgs R)∧cores A=cores (pgsK x.pf k)
theorem made(w:World)(x:St)(hx:x.ok w):Calls Tryz.prog 74 #[.agg x.cells] w (MadePost w x):=by
 have HFin:Hid (∀(cb sb mb:Nat) (A:List Pg) (db rb:Nat) (lv:Value) (R:List Rp) w',Duo w w' cb sb mb A x.regs x.pc db rb lv R x.regs x.pc→cores A=cores (rpgs R)→cores A=cores x.pgs→MadePost w x (.returned (.tuple #[.pointer (some ⟨cb,0,none⟩),.pointer (some ⟨sb,0,none⟩),.pointer (some ⟨db,0,none⟩),.pointer (some ⟨rb,0,none⟩),.bool true])) w'):=
  Lh fun cb sb mb A db rb lv R w' h1 h2 h3=>⟨cb,sb,mb,A,db,rb,lv,R,rfl,h1,h2,h3⟩
 generalize MadePost w x=PQ at*;have HX:=Lh hx;have hp0:=hx.p0;have hp1:=hx.p1;generalize hW:w.alloc (.cells x.cells 34)=W;have hb:Below w.heap.size w W:=by rw[←hW];exact Ba _
 have hbx:StBox W w.heap.size x:=by rw[←hW];exact⟨heap_alloc_new w _⟩
 have hsz:W.heap.size=w.heap.size+1:=by rw[←hW];simp
 have HB:=Lh hb;have HBx:=Lh hbx;obtain⟨b0,b1,b2,b3,b4,b5,b6⟩:=hbx.cells;clear hb hbx hx;unfold St.cells at hW⊢;go_enter func74,ntmps74;go_wp2_with fail;refine(new x.pc hp0 hp1 W).mono ?_;rintro e w1 ⟨rfl,hc1,hb1⟩;have hz1:=hb1.size;have HC1:=Lh hc1;have hlt1:=hc1.lt;have HB1:=Lh hb1;have HBx1:=Lh (HBx.out.below hb1 (by omega));clear hc1 hb1 b0 b1 b2 b3 b4 b5 b6;go_wp2_with fail;refine(Sp.new w1).mono ?_;rintro e w2 ⟨rfl,hs2,hb2,hz2⟩;have hz2':=hb2.size;have HS2:=Lh hs2;have HB2:=Lh (HB1.out.trans (hb2.mono HB1.out.size));have HC2:=Lh (HC1.out.below hb2);have hbx2:=HBx1.out.below hb2 (by omega);obtain⟨b0,b1,b2,b3,b4,b5,b6⟩:=hbx2.cells;have HBx2:=Lh hbx2;clear hs2 hb2 hbx2 HBx1 HC1 HB1;go_wp2;have hD:Duo W ((w2.alloc (.cells #[.int .u32 0,.int .u32 0,.int .u32 0,.int .u32 0,.int .u32 0,.int .u32 0,.int .u32 0,.int .u32 0,.int .u32 0,.int .u32 0,.int .u32 0,.int .u32 0,.int .u32 0,.int .u32 0,.int .u32 0,.int .u32 0,.int .u32 x.pc] 153)).alloc (.cells #[.slice none 0 0] 281))
   (w.heap.size+1) (w1.heap.size+1) w1.heap.size [] (List.replicate 16 0) x.pc (w1.heap.size+2) (w1.heap.size+2+1) (.slice none 0 0) [] (List.replicate 16 0) x.pc:=by
  have hb4:Below w2.heap.size w2 ((w2.alloc (.cells #[.int .u32 0,.int .u32 0,.int .u32 0,.int .u32 0,.int .u32 0,.int .u32 0,.int .u32 0,.int .u32 0,.int .u32 0,.int .u32 0,.int .u32 0,.int .u32 0,.int .u32 0,.int .u32 0,.int .u32 0,.int .u32 0,.int .u32 x.pc] 153)).alloc (.cells #[.slice none 0 0] 281)):=(Ba _).alloc (by simp) _;have hl:=HS2.out.lt (.inl rfl);have hc1:=HC2.out.lt;have hd:Cpu 153 ((w2.alloc (.cells #[.int .u32 0,.int .u32 0,.int .u32 0,.int .u32 0,.int .u32 0,.int .u32 0,.int .u32 0,.int .u32 0,.int .u32 0,.int .u32 0,.int .u32 0,.int .u32 0,.int .u32 0,.int .u32 0,.int .u32 0,.int .u32 0,.int .u32 x.pc] 153)).alloc (.cells #[.slice none 0 0] 281)) (w1.heap.size+2) (List.replicate 16 0) x.pc:=by
   refine⟨?_,⟨rfl,fun x hx=> ?_⟩,hp0,hp1⟩
   ·rw[←hz2,Below.heap_alloc _ _ _ (by simp)];exact heap_alloc_new w2 _
   ·have:=List.eq_of_mem_replicate hx;omega
  have hr:=heap_alloc_new (w2.alloc (.cells #[.int .u32 0,.int .u32 0,.int .u32 0,.int .u32 0,.int .u32 0,.int .u32 0,.int .u32 0,.int .u32 0,.int .u32 0,.int .u32 0,.int .u32 0,.int .u32 0,.int .u32 0,.int .u32 0,.int .u32 0,.int .u32 0,.int .u32 x.pc] 153)) (.cells #[.slice none 0 0] 281);rw[show(w2.alloc (.cells #[.int .u32 0,.int .u32 0,.int .u32 0,.int .u32 0,.int .u32 0,.int .u32 0,.int .u32 0,.int .u32 0,.int .u32 0,.int .u32 0,.int .u32 0,.int .u32 0,.int .u32 0,.int .u32 0,.int .u32 0,.int .u32 0,.int .u32 x.pc] 153)).heap.size=w1.heap.size+2+1 by simp[hz2]] at hr;have fa:∀k,Spc.foot (w1.heap.size+1) w1.heap.size [] k→k=w1.heap.size+1∨k=w1.heap.size:=fun k hk=>by
   rcases hk with g|g|⟨p,g,_⟩
   ·exact .inl g
   ·exact .inr g
   ·cases g
  have fr:∀k,Rsp.foot (w1.heap.size+2+1) (.slice none 0 0) [] k→k=w1.heap.size+2+1:=fun k hk=>by
   rcases hk with g|g|⟨q,g,_⟩
   ·exact g
   ·cases g
   ·cases g
  have hcp:=HC2.out.below hb4;rw[hsz] at hcp;refine⟨hcp,hd,⟨HS2.out.below hb4 fun _ hk=>HS2.out.lt hk,rsp_nil hr,fun k hk g=> ?_⟩,HB2.out.trans (hb4.mono HB2.out.size),by omega,by omega,fun k hk=> ?_,fun k hk=> ?_,by omega,fun g=> ?_,fun g=> ?_,fun g=> ?_,fun g=> ?_⟩
  ·have:=fa k hk;have:=fr k g;omega
  ·have:=fa k hk;omega
  ·have:=fr k hk;omega
  ·have:=fa _ g;omega
  ·have:=fr _ g;omega
  ·have:=fa _ g;omega
  ·have:=fr _ g;omega
 rw[←regsK_zero x.rf] at hD;have HD:=Lh hD;have hwl:w.heap.size<W.heap.size:=by omega
 clear hD b0 b1 b2 b3 b4 b5 b6 HBx2 HC2 HB2 HS2 hz2 hz2' hz1 hlt1 hsz hW;have HRow:Hid (∀wr,Below W.heap.size W wr→RowN .u32 wr x.ra x.rn x.rf∧RowN .u8 wr x.pa x.pn x.pf∧Code wr x.ca x.cn x.cf∧StBox wr w.heap.size x):=Lh fun wr hb=>by
  have hbw:=HB.out.trans (hb.mono HB.out.size);refine⟨fun hn=> ?_,fun hn=> ?_,HX.out.crow.below hbw,HBx.out.below hb hwl⟩
  ·obtain⟨b,off,e,hbl,hc⟩:=HX.out.rrow hn;exact⟨b,off,e,Nat.lt_of_lt_of_le hbl hbw.size,fun i hi=>(World.cell?_of_block (w:=w) (hbw.block b hbl)).trans (hc i hi)⟩
  ·obtain⟨b,off,e,hbl,hc⟩:=HX.out.prow hn;exact⟨b,off,e,Nat.lt_of_lt_of_le hbl hbw.size,fun i hi=>(World.cell?_of_block (w:=w) (hbw.block b hbl)).trans (hc i hi)⟩
 generalize w.heap.size+1=cb at*;generalize w1.heap.size+1=sb at*;generalize w1.heap.size+2+1=rb at*;generalize w1.heap.size+2=db at*;generalize w1.heap.size=mb at*;go_loopw [11] (fun vi wr=>m1Rel W x cb sb mb db rb vi wr) (fun vi _=>16 - (intOf vi).toNat)
 case atStart=>exact⟨0,Nat.zero_le _,by omega,by go_num,HD.out⟩
 case round=>
  clear HD;obtain⟨k,hk1,hk2,rfl,hd⟩:=hrel;obtain⟨hrr,_,_,hbx⟩:=HRow.out wr hd.bel;obtain⟨b0,b1,b2,b3,b4,b5,b6⟩:=hbx.cells;have hrl:=HX.out.rlen;have HDk:=Lh hd
  by_cases hk34:k<x.rn∧k<16
  ·obtain⟨hk3,hk4⟩:=hk34
   ·have hv:=HX.out.rbd k hk3;obtain⟨b,off,hra,hbl,hcl⟩:=hrr (by omega);have hcv:=hcl k hk3;rw[hra] at b0;have hks:=regsK_succ x.rf k hk4;have HR2:Hid (∀w4,Duo W w4 cb sb mb [] (regsK x.rf (k+1)) x.pc db rb (.slice none 0 0) [] (regsK x.rf k) x.pc→w4.cell? ⟨w.heap.size,0,none⟩=some (.slice (some ⟨b,off,none⟩) x.rn x.rcap)∧w4.cell? ⟨b,off+k,none⟩=some (.int .u32 (x.rf k))):=Lh fun w4 h4=>by
     obtain⟨hrr4,_,_,hbx4⟩:=HRow.out w4 h4.bel;obtain⟨b',off',hra',_,hcl'⟩:=hrr4 (by omega);rw[hra] at hra';cases hra';exact⟨hra▸hbx4.cells.1,hcl' k hk3⟩
    have Hks:=Lh hks;have Hv:=Lh hv;clear hd hrr hbx hcl hks hv hra;generalize x.rf k=v at*;go_wp2_with fail;refine(setReg_ok HDk.out.cp k hk4 v Hv.out.1 Hv.out.2).mono ?_;rintro e w4 ⟨rfl,hc4,hm4⟩;rw[Hks.out] at hc4;have hd4:=HDk.out.setC hc4 hm4;obtain⟨e0,e1⟩:=HR2.out w4 hd4;have HD4:=Lh hd4;clear hc4 hm4 hd4 HDk b0 b1 b2 b3 b4 b5 b6 hcv
    by_cases hk0:k=0
    ·subst hk0;go_wp2;refine⟨⟨1,by omega,by omega,by go_num, ?_⟩,by simp[intOf]⟩;exact HD4.out
    ·have hk5:decide (0<(k:Int))=true:=decide_eq_true (by omega);have hk6:(k:Int)<16:=by omega
     have g1:=HD4.out.dp.cellReg k hk4;have g2:=HD4.out.dp.thaw k;have HS4:=Lh (HD4.out.dp.setReg k hk4 v Hv.out.1 Hv.out.2);rw[←putG_nat _ _ _ hk0,Hks.out] at HS4;go_wp2_with fail;go_region
     all_goals
      go_wp2;refine⟨⟨k+1,by omega,by omega,by go_num, ?_⟩,by simp[intOf];omega⟩;exact(HD4.out.setD HS4.out (Mod.setCell (F:=fun j=>j=db) (Mod.refl _ _) _ (.inl rfl) _)).below (Br.drew)
  ·have hkm:k=min x.rn 16:=by omega
   have hreg:regsK x.rf k=x.regs:=by unfold St.regs;rw[hkm]
   have hor:¬(k<x.rn)∨((k:Int)<x.rn∧¬((k:Int)<16)):=by omega
   rw[hreg] at hd;have HD:=Lh hd;clear hd hrr hbx HDk hreg hkm hk34 hk1 hk2;rcases hor with hg|⟨hg,hg2⟩
   all_goals
    go_wp2_with fail;go_loopw [12] (fun vi wr=>m2Rel W x cb sb mb db rb vi wr) (fun vi _=>x.pn - (intOf vi).toNat)
    case atStart=>exact⟨0,[],_,[],Nat.zero_le _,by go_num,HD.out,rfl,rfl⟩
    case round=>
     clear HD b0 b1 b2 b3 b4 b5 b6;obtain⟨j,A,lv,R,hj,rfl,hd,he,hk⟩:=hrel;obtain⟨_,hpr,hcr,hbx⟩:=HRow.out _ hd.bel;obtain⟨b0,b1,b2,b3,b4,b5,b6⟩:=hbx.cells;have HDk:=Lh hd;have HCr:=Lh hcr;have HE:=Lh he;have HK:=Lh hk;have hpn:=HX.out.plen;clear hd he hk hbx hcr
     by_cases hj2:j<x.pn
     ·have hv:=HX.out.pbd j hj2;obtain⟨b,off,hpa,hbl,hcl⟩:=hpr (by omega);have hcv:=hcl j hj2;rw[hpa] at b2;have HR2:Hid (∀w4 A4 lv4 R4,Duo W w4 cb sb mb A4 x.regs x.pc db rb lv4 R4 x.regs x.pc→w4.cell? ⟨w.heap.size,2,none⟩=some (.slice (some ⟨b,off,none⟩) x.pn x.pcap)∧w4.cell? ⟨b,off+j,none⟩=some (.int .u8 (x.pf j))):=Lh fun w4 A4 lv4 R4 h4=>by
       obtain⟨_,hpr4,_,hbx4⟩:=HRow.out w4 h4.bel;obtain⟨b',off',hpa',_,hcl'⟩:=hpr4 (by omega);rw[hpa] at hpa';cases hpa';exact⟨hpa▸hbx4.cells.2.2.1,hcl' j hj2⟩
      have hw1:IntKind.u32.wrap (j:Int)=j:=by rw[IntKind.wrap_u32'];omega
      have hw2:IntKind.u32.wrap ((j:Int)*256)=j*256:=by rw[IntKind.wrap_u32'];omega
      have hw3:(j:Int) % 4294967296=j:=by omega
      have hw4:(j:Int)*256 % 4294967296=j*256:=by omega
      have HPs:Hid (pgsK x.pf (j+1)=if x.pf j<8 then Sp.mapA (pgsK x.pf j) (j*256) 0 (x.pf j) else pgsK x.pf j):=Lh rfl;have HFree:Hid (x.pf j<8→Sp.mapE (pgsK x.pf j) (j*256) (x.pf j)=0):=Lh fun h8=>pgsK_free x.pf j (by omega) hv.1 h8
      have Hv:=Lh hv;clear hcl hv hpa hpr;generalize x.pf j=v at*
      by_cases hv8:v<8
      ·have hE1:Sp.mapE A (j*256) v=0:=by rw[Cor.mapE HK.out];exact HFree.out hv8
       have hE2:Sp.mapE (rpgs R) (j*256) v=0:=by rw[←Cor.mapE HE.out];exact hE1
       go_wp2_with fail;refine(Sp.s_map HDk.out.pair.sp (j*256) v (by omega) (by omega) Hv.out.1 Hv.out.2).mono ?_;rintro e w4 ⟨blk,rfl,hs4⟩;rw[hE1];have hd4:=HDk.out.left hs4;obtain⟨e0,e1⟩:=HR2.out w4 _ _ _ hd4;have HD4:=Lh hd4;clear hs4 hd4 HDk b0 b1 b2 b3 b4 b5 b6 hcv;go_wp2_with fail;refine(Rs.map_any HD4.out.pair.rp (j*256) v (by omega) (by omega) Hv.out.1 Hv.out.2).mono ?_;rintro e w5 ⟨lv5,R5,blk5,rfl,hR5,hs5⟩;rw[hE2];have HD5:=Lh (HD4.out.right hs5);have HR5:=Lh hR5;clear hs5 HD4 e0 e1 hR5;go_wp2;refine⟨⟨j+1,_,lv5,R5,by omega,by go_num,HD5.out, ?_, ?_⟩,by simp[intOf];omega⟩
       ·rw[HR5.out];exact Cor.mapA HE.out _ _ _ _
       ·rw[HPs.out,if_pos hv8];exact Cor.mapA HK.out _ _ _ _
      ·have hv9:decide (v<8)=false:=decide_eq_false hv8;go_wp2;refine⟨⟨j+1,A,lv,R,by omega,by go_num,HDk.out,HE.out, ?_⟩,by simp[intOf];omega⟩;rw[HPs.out,if_neg hv8];exact HK.out
     ·obtain rfl:j=x.pn:=by omega
      have ha0:=HX.out.a0;have ha1:=HX.out.a1;have hw0:=HX.out.w0;have hw1:=HX.out.w1;have hm1:(x.at').tmod 4096=x.at' % 4096:=Int.tmod_eq_emod_of_nonneg ha0;have hm2:(x.wh).tmod 4096=x.wh % 4096:=Int.tmod_eq_emod_of_nonneg hw0;have hm3:x.at' % 4294967296=x.at':=by omega
      have hm4:x.wh % 4294967296=x.wh:=by omega
      go_wp2_with fail;go_region;go_wp2_with fail;have HT:Hid (∀V A5 lv5 R5,Duo W V cb sb mb A5 x.regs x.pc db rb lv5 R5 x.regs x.pc→V.cell? ⟨w.heap.size,6,none⟩=some (.string x.text)):=Lh fun V A5 lv5 R5 h5=>by
       obtain⟨_,_,_,hbx5⟩:=HRow.out V h5.bel;exact hbx5.cells.2.2.2.2.2.2
      refine(text _ x.ca x.cn x.ccap x.cf (HCr.out.below Br.drew) HX.out.cbd HX.out.clen).mono ?_;rintro e w5 ⟨rfl,hb5⟩;have hSsz:(strOfNums (textL x.cf x.cn)).size≤140737488355328:=by rw[szN,textL_len];have:=HX.out.clen;omega
      have hTsz:x.text.size≤140737488355328:=by have:=HX.out.tlen;omega
      have HPg:Hid (x.pgs=Sp.putA (Sp.putA (pgsK x.pf x.pn) (x.at' % 4096) 0 (strOfNums (textL x.cf x.cn))) (x.wh % 4096) 0 x.text):=Lh rfl;have hA0:0≤x.at' % 4096:=by omega
      have hA1:x.at' % 4096≤4294967295:=by omega
      have hA2:0≤x.wh % 4096:=by omega
      have hA3:x.wh % 4096≤4294967295:=by omega
      have hd5:=(HDk.out.below Br.drew).below hb5;have HD5:=Lh hd5;have hd6:=hd5.below Br.drew;have HD6:=Lh hd6;have t5:=HT.out _ _ _ _ hd5;have t6:=HT.out _ _ _ _ hd6;clear hd5 hd6 hb5 HDk b0 b1 b2 b3 b4 b5 b6 HCr hm1 hm2 hm3 hm4;generalize strOfNums (textL x.cf x.cn)=S at*;generalize x.at' % 4096=AT at*;generalize x.wh % 4096=WH at*;go_wp2_with fail;go_region_held3 (fun w'=>w'.cell? ⟨w.heap.size,6,none⟩=some (.string x.text))
       (first
        |exact t5
        |exact t6
        |exact t7
        |exact t8
        |exact t9
        |exact t10)
       (first
        |(
          go_at_call 132
          (with_reducible refine(Sp.s_set HD6.out.pair.sp AT S hA0 hA1 hSsz).mono ?_)
          rintro e w7 ⟨rfl,hs7⟩;have hd7:=HD6.out.left hs7;have t7:=HT.out _ _ _ _ hd7)
        |(
          go_at_call 182
          (with_reducible refine(Rs.put_in hd7.pair.rp AT 0 S hA0 hA1 hSsz (by omega) (by omega)).mono ?_)
          rintro e w8 ⟨R8,rfl,hR8,hs8⟩;rw[←Cor.fitsE HE.out];have he8:=Cor.putA HE.out AT 0 S;rw[←hR8] at he8;have hk8:=Cor.putA HK.out AT 0 S;have hd8:=hd7.right hs8;have t8:=HT.out _ _ _ _ hd8)
        |(
          go_at_call 132
          (with_reducible refine(Sp.s_set hd8.pair.sp WH x.text hA2 hA3 hTsz).mono ?_)
          rintro e w9 ⟨rfl,hs9⟩;have hd9:=hd8.left hs9;have t9:=HT.out _ _ _ _ hd9)
        |(
          go_at_call 182
          (with_reducible refine(Rs.put_in hd9.pair.rp WH 0 x.text hA2 hA3 hTsz (by omega) (by omega)).mono ?_)
          rintro e w10 ⟨R10,rfl,hR10,hs10⟩;rw[←Cor.fitsE he8];have he10:=Cor.putA he8 WH 0 x.text;rw[←hR10] at he10;have hk10:=Cor.putA hk8 WH 0 x.text;have hd10:=hd9.right hs10;have t10:=HT.out _ _ _ _ hd10))
      all_goals
       have HD10:=Lh (hd10.weaken HB.out);have HE10:=Lh he10;rw[←HPg.out] at hk10;have HK10:=Lh hk10;clear hd10 he10 hk10 hd9 hd8 hd7 t5 t6 t7 t8 t9 t10 he8 hk8 hR8 hR10 hs7 hs8 hs9 hs10;go_wp2;refine bodyPost_ret (v:=.tuple #[.pointer (some ⟨cb,0,none⟩),.pointer (some ⟨sb,0,none⟩),.pointer (some ⟨db,0,none⟩),.pointer (some ⟨rb,0,none⟩),.bool true]) (by simp[results,Tryz.results74]) rfl ?_;exact HFin.out cb sb mb _ db rb _ R10 _ HD10.out HE10.out HK10.out
end Cp
open Go.RowKit Word
structure RvStep(w w':World)(b:RAt)(R:List Rp)(F:En)(b':RAt)(R':List Rp)(F':En):Prop where
 ren:Renv w' b' R' F'
 same:b'.eb=b.eb
 mod:Mod (b.foot R) w w'
 foot:∀k,b'.foot R' k→b.foot R k∨w.heap.size≤k
structure EPair(w0 w:World)(a:EAt)(E:En)(b:RAt)(R:List Rp)(F:En):Prop where
 env:Env w a E
 ren:Renv w b R F
 apart:∀k,a.foot E.A k→¬b.foot R k
 bel:Below w0.heap.size w0 w
 a0:∀k,a.foot E.A k→w0.heap.size≤k
 b0:∀k,b.foot R k→w0.heap.size≤k
namespace EPair
variable {w0 w w':World} {a a':EAt} {E E':En} {b b':RAt} {R R':List Rp} {F F':En}
theorem below(h:EPair w0 w a E b R F)(hb:Below w.heap.size w w'):EPair w0 w' a E b R F:= {h with env:=h.env.below hb,ren:=h.ren.below hb,bel:=h.bel.trans (hb.mono h.bel.size)}
end EPair
namespace Cp
theorem regsK_regs(r:List Int)(hl:r.length=16)(h0:rg r 0=0):regsK (fun i=>rg r i) 16=r:=by
 apply List.ext_getElem?
 intro n;unfold regsK
 by_cases hn:n<16
 ·simp only[List.getElem?_map,List.getElem?_range hn,Option.map_some];have hr:r[n]? =some (rg r n):=by
   unfold rg;rw[Int.toNat_natCast,List.getD,Zg (by omega)];rfl
  rw[hr]
  by_cases g:0<n
  ·rw[if_pos ⟨g,hn⟩]
  ·obtain rfl:n=0:=by omega
   rw[if_neg (by omega)];exact congrArg some h0.symm
 ·rw[List.getElem?_eq_none (by simp;omega),List.getElem?_eq_none (by omega)]
def m21Rel(w4:World)(a:EAt)(E:En)(xs:Nat→Int)(vi:Value)(wr:World):Prop:=
 ∃i:Nat,1≤i∧i≤16∧vi=.int .i64 i∧EStep w4 wr a E a {E with r:=regsK xs i}
def St.env(num:Int)(x:St):En:=⟨num,2,0,0,ByteArray.empty,[],x.pgs,x.regs,x.pc⟩
end Cp
open Go.RowKit Word
namespace RvStep
variable {w w' w'':World} {a a' a'':RAt} {R R' R'':List Rp} {E E' E'':En}
theorem refl(h:Renv w a R E):RvStep w w a R E a R E:=⟨h,rfl,Mod.refl _ _,fun _ g=>.inl g⟩
theorem of_below(h:Renv w a R E)(hb:Below w.heap.size w w'):RvStep w w' a R E a R E:=⟨h.below hb,rfl,Mod.of_below hb _,fun _ g=>.inl g⟩
theorem trans(h:RvStep w w' a R E a' R' E')(k:RvStep w' w'' a' R' E' a'' R'' E''):RvStep w w'' a R E a'' R'' E'':=
 ⟨k.ren,k.same.trans h.same,h.mod.trans k.mod fun i _ g=>h.foot i g,fun i g=>by
  rcases k.foot i g with q|q
  ·exact h.foot i q
  ·exact .inr (Nat.le_trans h.mod.size q)⟩
theorem setState(h:Renv w a R E)(k c y:Int):RvStep w (((w.setCell ⟨a.eb,3,none⟩ (.int .u8 k)).setCell ⟨a.eb,4,none⟩ (.int .u32 c)).setCell ⟨a.eb,5,none⟩ (.int .i64 y)) a R E a R {E with kind:=k,code:=c,why:=y}:=by
 have hm:Mod (fun i=>i=a.eb) w (((w.setCell ⟨a.eb,3,none⟩ (.int .u8 k)).setCell ⟨a.eb,4,none⟩ (.int .u32 c)).setCell ⟨a.eb,5,none⟩ (.int .i64 y)):=Mod.setCell (F:=fun i=>i=a.eb) (Mod.setCell (F:=fun i=>i=a.eb) (Mod.setCell (F:=fun i=>i=a.eb) (Mod.refl _ _) ⟨a.eb,3,none⟩ (.inl rfl) _) ⟨a.eb,4,none⟩ (.inl rfl) _) ⟨a.eb,5,none⟩ (.inl rfl) _;have b1:=heap_setCell_same w a.eb 3 _ _ (.int .u8 k) h.blk;have b2:=heap_setCell_same _ a.eb 4 _ _ (.int .u32 c) b1;have b3:=heap_setCell_same _ a.eb 5 _ _ (.int .i64 y) b2;refine⟨{blk:=b3,cp:=h.cp.keep hm (fun g=>h.ec g.symm),rp:=h.rp.keep hm (fun i hi g=>h.es (g▸hi)),eq:=h.eq,ls:=h.ls.keep hm (fun g hg=>(h.le g hg).1) (fun g hg e=>(h.le g hg).2.1 e),ec:=h.ec,es:=h.es,cs:=h.cs,le:=fun g hg=>⟨Nat.lt_of_lt_of_le (h.le g hg).1 hm.size,(h.le g hg).2⟩,ok:=⟨h.ok.up,h.ok.may,h.ok.has,h.ok.text⟩},rfl,hm.mono fun i _ g=>.inl g,fun i g=>.inl g⟩
theorem setText(h:Renv w a R E)(s:ByteArray)(hs:s.size≤4096):RvStep w (w.setCell ⟨a.eb,7,none⟩ (.string s)) a R E a R {E with text:=s}:=by
 have hm:Mod (fun i=>i=a.eb) w (w.setCell ⟨a.eb,7,none⟩ (.string s)):=Mod.setCell (F:=fun i=>i=a.eb) (Mod.refl _ _) ⟨a.eb,7,none⟩ (.inl rfl) _;have b1:=heap_setCell_same w a.eb 7 _ _ (.string s) h.blk;refine⟨{blk:=b1,cp:=h.cp.keep hm (fun g=>h.ec g.symm),rp:=h.rp.keep hm (fun i hi g=>h.es (g▸hi)),eq:=h.eq,ls:=h.ls.keep hm (fun g hg=>(h.le g hg).1) (fun g hg e=>(h.le g hg).2.1 e),ec:=h.ec,es:=h.es,cs:=h.cs,le:=fun g hg=>⟨Nat.lt_of_lt_of_le (h.le g hg).1 hm.size,(h.le g hg).2⟩,ok:=⟨h.ok.up,h.ok.may,h.ok.has,hs⟩},rfl,hm.mono fun i _ g=>.inl g,fun i g=>.inl g⟩
theorem space{lv':Value}{r:List Int}{pc:Int}{A:List Pg}(h:Renv w a R E)(hc:Cpu 153 w' a.cb r pc)(hs:Rsp w' a.rb lv' R')(hm:Mod (fun k=>k=a.cb∨Rsp.foot a.rb a.lv R k) w w')(hf:∀k,Rsp.foot a.rb lv' R' k→Rsp.foot a.rb a.lv R k∨w.heap.size≤k)(hA:rpgs R'=A)(hok:∀x,x∈E.own→(atAddr A x).isSome=true):
  RvStep w w' a R E {a with lv:=lv'} R' {E with A:=A,r:=r,pc:=pc}:=by
 have hn:∀k,k<w.heap.size→¬Rsp.foot a.rb a.lv R k→¬Rsp.foot a.rb lv' R' k:=fun k hk g q=>(hf k q).elim g fun z=>by omega
 refine⟨{blk:=(hm.block _ (lQ h.blk) ?_).trans h.blk,cp:=hc,rp:=hs,eq:=hA,ls:=h.ls.keep hm (fun g hg=>(h.le g hg).1) ?_,ec:=h.ec,es:=hn _ (lQ h.blk) h.es,cs:=hn _ h.cp.lt h.cs,le:=fun g hg=>⟨Nat.lt_of_lt_of_le (h.le g hg).1 hm.size,(h.le g hg).2.1,(h.le g hg).2.2.1,hn _ (h.le g hg).1 (h.le g hg).2.2.2⟩,ok:=⟨h.ok.up,h.ok.may,hok,h.ok.text⟩},rfl,hm.mono fun i _ g=> ?_,fun i g=> ?_⟩
 ·rintro(g|g)
  ·exact h.ec g
  ·exact h.es g
 ·rintro g hg (q|q)
  ·exact(h.le g hg).2.2.1 q
  ·exact(h.le g hg).2.2.2 q
 ·exact g.elim (fun q=>.inr (.inl q)) fun q=>.inr (.inr (.inl q))
 ·rcases g with q|q|q|q
  ·exact .inl (.inl q)
  ·exact .inl (.inr (.inl q))
  ·exact(hf i q).imp (fun z=>.inr (.inr (.inl z))) id
  ·exact .inl (.inr (.inr (.inr q)))
theorem regs{r:List Int}(h:Renv w a R E)(hc:Cpu 153 w' a.cb r E.pc)(hm:Mod (fun k=>k=a.cb) w w'):RvStep w w' a R E a R {E with r:=r}:=
 space (A:=E.A) (pc:=E.pc) h hc (h.rp.keep hm fun k hk g=>h.cs (g▸hk)) (hm.mono fun _ _ g=>.inl g) (fun k g=>.inl g) h.eq h.ok.has
theorem list{v:Value}{own:List Int}(h:Renv w a R E)(hl:Sl.Lst w' v own)(hb:Below w.heap.size w w')(hv:∀b,v.ownBlock=some b→w.heap.size≤b∧b<w'.heap.size)(hok:({E with own:=own}:En).Ok):
  RvStep w (w'.setCell ⟨a.eb,6,none⟩ v) a R E {a with ow:=v} R {E with own:=own}:=by
 have hz:=hb.size;have h':=h.below hb;have b1:=heap_setCell_same w' a.eb 6 _ _ v h'.blk;have hm2:Mod (fun i=>i=a.eb) w (w'.setCell ⟨a.eb,6,none⟩ v):=Mod.setCell (F:=fun i=>i=a.eb) (Mod.of_below hb _) ⟨a.eb,6,none⟩ (.inl rfl) _;have hs2:(w'.setCell ⟨a.eb,6,none⟩ v).heap.size=w'.heap.size:=by simp[World.setCell]
 have hnew:∀ {g},v.ownBlock=some g→g≠a.eb∧g≠a.cb∧¬Rsp.foot a.rb a.lv R g:=fun hg=>by
  have q:=(hv _ hg).1;refine⟨fun e=> ?_,fun e=> ?_,fun e=> ?_⟩
  ·have:=lQ h.blk;omega
  ·have:=h.cp.lt;omega
  ·have:=h.rp.lt e;omega
 refine⟨{blk:=b1,cp:=h.cp.keep hm2 (fun g=>h.ec g.symm),rp:=h.rp.keep hm2 (fun i hi g=>h.es (g▸hi)),eq:=h.eq,ls:=hl.frame fun g hg=>Below.heap_setCell _ _ _ _ (hnew hg).1,ec:=h.ec,es:=h.es,cs:=h.cs,le:=fun g hg=>⟨by rw[hs2];exact(hv g hg).2,hnew hg⟩,ok:=hok},rfl,hm2.mono fun i _ g=>.inl g,fun i g=> ?_⟩;rcases g with q|q|q|q
 ·exact .inl (.inl q)
 ·exact .inl (.inr (.inl q))
 ·exact .inl (.inr (.inr (.inl q)))
 ·exact .inr (hv i q).1
end RvStep
open Go.RowKit Word
namespace Rv
section
variable {w:World} {a:RAt} {R:List Rp} {E:En}
theorem cells(h:Renv w a R E):w.cell? ⟨a.eb,0,none⟩=some (.int .i64 E.num)∧w.cell? ⟨a.eb,1,none⟩=some (.pointer (some ⟨a.rb,0,none⟩))∧w.cell? ⟨a.eb,2,none⟩=some (.pointer (some ⟨a.cb,0,none⟩))∧w.cell? ⟨a.eb,3,none⟩=some (.int .u8 E.kind)∧w.cell? ⟨a.eb,4,none⟩=some (.int .u32 E.code)∧w.cell? ⟨a.eb,5,none⟩=some (.int .i64 E.why)∧w.cell? ⟨a.eb,6,none⟩=some a.ow∧w.cell? ⟨a.eb,7,none⟩=some (.string E.text):=
 ⟨h.cell 0 _ rfl,h.cell 1 _ rfl,h.cell 2 _ rfl,h.cell 3 _ rfl,h.cell 4 _ rfl,h.cell 5 _ rfl,h.cell 6 _ rfl,h.cell 7 _ rfl⟩
theorem ready(h:Renv w a R E):Calls Tryz.prog 204 #[.pointer (some ⟨a.eb,0,none⟩)] w fun e w'=>e=.returned (.bool (E.kind == 2))∧w=w':=by
 obtain⟨_,_,_,c3,_⟩:=cells h;clear h;go_enter func204,ntmps204;go_wp2;go_ret;exact⟨rfl,rfl⟩
theorem exit(h:Renv w a R E)(c:Int):Calls Tryz.prog 105 #[.pointer (some ⟨a.eb,0,none⟩),.int .u32 c] w fun e w'=>e=.returned (.int .i64 E.redE)∧RvStep w w' a R E a R (E.exit c):=by
 have HR:=Lh (ready h)
 by_cases hk:E.kind=2
 ·have e:E.redE=0:=by unfold En.redE;rw[if_neg (by omega)]
  have e2:E.exit c= {E with kind:=3,code:=c,why:=0}:=by unfold En.exit;rw[if_neg (by omega)]
  have HS:=Lh (RvStep.setState h 3 c 0);obtain⟨_,_,_,c4,c5,c6,_⟩:=cells h;have f4:=h.free 3;have f5:=h.free 4;have f6:=h.free 5;rw[show(E.kind == 2)=true from beq_iff_eq.2 hk] at HR;rw[e,e2];clear e e2 hk h;go_enter func105,ntmps105;go_wp2_with fail;refine HR.out.mono ?_;rintro e w2 ⟨rfl,rfl⟩;go_wp2;go_ret;exact⟨rfl,HS.out⟩
 ·have e:E.redE=3:=by unfold En.redE;rw[if_pos hk]
  have e2:E.exit c=E:=by unfold En.exit;rw[if_pos hk]
  have HS:=Lh (RvStep.refl h);rw[show(E.kind == 2)=false from beq_eq_false_iff_ne.2 hk] at HR;rw[e,e2];clear e e2 hk h;go_enter func105,ntmps105;go_wp2_with fail;refine HR.out.mono ?_;rintro e w2 ⟨rfl,rfl⟩;go_wp2;go_ret;exact⟨rfl,HS.out⟩
theorem put(h:Renv w a R E)(s:ByteArray)(hs:s.size≤140737488355328):Calls Tryz.prog 219 #[.pointer (some ⟨a.eb,0,none⟩),.string s] w fun e w'=>e=.returned (.int .i64 (E.putE s))∧RvStep w w' a R E a R (E.put s):=by
 have HR:=Lh (ready h);obtain⟨_,_,_,_,_,_,_,c7⟩:=cells h;have ht:=h.ok.text
 by_cases hk:E.kind=2
 ·rw[show(E.kind == 2)=true from beq_iff_eq.2 hk] at HR
  by_cases hl:4096<E.text.size+s.size
  ·have e2:E.putE s=4:=by unfold En.putE;rw[if_neg (by omega),if_pos hl]
   have e3:E.put s=E:=by unfold En.put;rw[e2,if_pos (by omega)]
   have HS:=Lh (RvStep.refl h);rw[e2,e3];have hlb:(4096:Int)<E.text.size+s.size:=by omega
   clear e2 e3 hk h;go_enter func219,ntmps219;go_wp2_with fail;refine HR.out.mono ?_;rintro e w2 ⟨rfl,rfl⟩;go_wp2;go_ret;exact⟨rfl,HS.out⟩
  ·have e2:E.putE s=0:=by unfold En.putE;rw[if_neg (by omega),if_neg hl]
   have e3:E.put s= {E with text:=E.text++s}:=by unfold En.put;rw[e2,if_neg (by omega)]
   have HS:=Lh (RvStep.setText h (E.text++s) (by rw[ByteArray.size_append];omega));have f7:=h.free 7;rw[e2,e3];have hlb:¬(4096:Int)<E.text.size+s.size:=by omega
   clear e2 e3 hk h;go_enter func219,ntmps219;go_wp2_with fail;refine HR.out.mono ?_;rintro e w2 ⟨rfl,rfl⟩;go_wp2;go_ret;exact⟨rfl,HS.out⟩
 ·have e2:E.putE s=3:=by unfold En.putE;rw[if_pos hk]
  have e3:E.put s=E:=by unfold En.put;rw[e2,if_pos (by omega)]
  have HS:=Lh (RvStep.refl h);rw[show(E.kind == 2)=false from beq_eq_false_iff_ne.2 hk] at HR;rw[e2,e3];clear e2 e3 hk h;go_enter func219,ntmps219;go_wp2_with fail;refine HR.out.mono ?_;rintro e w2 ⟨rfl,rfl⟩;go_wp2;go_ret;exact⟨rfl,HS.out⟩
theorem arg(h:Renv w a R E)(n:Int)(n0: -9223372036854775808≤n)(n1:n≤9223372036854775807):Calls Tryz.prog 31 #[.pointer (some ⟨a.eb,0,none⟩),.int .i64 n] w fun e w'=>e=.returned (.int .u32 (E.arg n))∧w=w':=by
 obtain⟨_,_,c2,_⟩:=cells h
 by_cases g:0≤n∧n<16
 ·have e:E.arg n=Cp.rg E.r n:=by unfold En.arg;rw[if_pos g]
  obtain⟨m,rfl⟩:=Int.eq_ofNat_of_zero_le g.1;have hc:=h.cp.cellReg m (by omega);have g1:¬((m:Int)<0):=by omega
  have g2:(m:Int)<16:=g.2;rw[e];generalize Cp.rg E.r m=v at*;clear e h g;go_enter func31,ntmps31;go_wp2;go_ret;exact⟨rfl,rfl⟩
 ·have e:E.arg n=0:=by unfold En.arg;rw[if_neg g]
  rw[e];clear e h
  by_cases g1:n<0
  ·clear g;go_enter func31,ntmps31;go_wp2;go_ret;exact⟨rfl,rfl⟩
  ·have g2:16≤n:=by omega
   clear g;go_enter func31,ntmps31;go_wp2;go_ret;exact⟨rfl,rfl⟩
theorem answer(h:Renv w a R E)(v y:Int)(v0:0≤v)(v1:v≤4294967295)(y0:0≤y)(y1:y≤4294967295):Calls Tryz.prog 112 #[.pointer (some ⟨a.eb,0,none⟩),.int .u32 v,.int .u32 y] w fun e w'=>e=.returned (.tuple #[])∧RvStep w w' a R E a R (E.answer v y):=by
 obtain⟨_,_,c2,_⟩:=cells h;have d1:=h.cp.cellReg 1 (by omega);have d2:=h.cp.cellReg 2 (by omega);have f1:=h.cp.thaw 1;have f2:=h.cp.thaw 2;have HF:Hid (RvStep w ((w.setCell ⟨a.cb,1,none⟩ (.int .u32 v)).setCell ⟨a.cb,2,none⟩ (.int .u32 y)) a R E a R (E.answer v y)):=Lh (by
  refine RvStep.regs h ?_ (Mod.setCell (F:=fun k=>k=a.cb) (Mod.setCell (F:=fun k=>k=a.cb) (Mod.refl _ _) ⟨a.cb,1,none⟩ (.inl rfl) _) ⟨a.cb,2,none⟩ (.inl rfl) _);exact(h.cp.setReg 1 (by omega) v v0 v1).setReg 2 (by omega) y y0 y1)
 clear h;go_enter func112,ntmps112;go_wp2;go_end0;exact⟨rfl,HF.out⟩
end
end Rv
open Go.RowKit Word Pag
namespace En
theorem ins_after{x:Int}:∀ {l m:List Int},(∃z,z∈l∧x<z)→ins x (l++m)=ins x l++m
 | [],_,h=>by obtain⟨z,hz,_⟩:=h;cases hz
 |y::l,m,h=>by
  rw[List.cons_append];unfold ins
  by_cases g:x<y
  ·rw[if_pos g,if_pos g];rfl
  ·rw[if_neg g,if_neg g,List.cons_append,ins_after (l:=l) (by
    obtain⟨z,hz,hx⟩:=h;rcases List.mem_cons.1 hz with rfl|hz
    ·exact absurd hx g
    ·exact⟨z,hz,hx⟩)]
theorem ins_ahead{x:Int}:∀ {l m:List Int},(∀z,z∈l→¬x<z)→ins x (l++m)=l++ins x m
 | [],_,_=>rfl
 |y::l,m,h=>by
  rw[List.cons_append]
  show(if x<y then _ else _)=_
  rw[if_neg (h y (List.mem_cons_self ..)),ins_ahead (l:=l) fun z hz=>h z (List.mem_cons_of_mem _ hz)];rfl
end En
namespace Rv
theorem app_next{w3 wr w':World}{vl v':Value}{built:List Int}{y:Int}(hb:∀b,vl.ownBlock=some b→w3.heap.size≤b∧b<wr.heap.size)(hB:Below w3.heap.size w3 wr)(o:Obj)
  (h1:SlV w' 22 1 v' (built.length+1) (built.map encU++[.int .u32 y])) (h2:Mod (fun k=>vl.ownBlock=some k) (wr.alloc o) w') (h3:v'.ownBlock=vl.ownBlock∨∃k,v'.ownBlock=some k∧(wr.alloc o).heap.size≤k):
  Sl.Lst w' v' (built++[y])∧(∀b,v'.ownBlock=some b→w3.heap.size≤b∧b<w'.heap.size)∧Below w3.heap.size w3 w':=by
 have hz:=hB.size;have hz2:(wr.alloc o).heap.size=wr.heap.size+1:=by simp
 refine⟨?_,fun b hb'=>⟨?_, ?_⟩, ?_⟩
 ·unfold Sl.Lst;rw[List.length_append,List.map_append];exact h1
 ·rcases h3 with g|⟨k,g1,g2⟩
  ·exact(hb b (g▸hb')).1
  ·rw[g1] at hb'
   injection hb' with hb'
   omega
 ·obtain⟨g,q1,q2⟩:=SlV.lt h1 (by omega);rw[q1] at hb'
  injection hb' with hb'
  omega
 ·exact Mod.below (hB.alloc hz o) h2 (by omega) fun i _ hi=>(hb i hi).1
def pgRel(w3:World)(own:List Int)(x:Int)(n:Nat)(vl vd vi:Value)(wr:World):Prop:=
 ∃(i:Nat) (d:Bool) (built:List Int),i≤n∧vi=.int .i64 i∧vd=.bool d∧Sl.Lst wr vl built∧(∀b,vl.ownBlock=some b→w3.heap.size≤b∧b<wr.heap.size)∧Below w3.heap.size w3 wr∧
  (d=true→built=En.ins x (own.take i)∧∃z,z∈own.take i∧x<z)∧(d=false→built=own.take i∧∀z,z∈own.take i→¬x<z)
def drRel(w3:World)(own:List Int)(x:Int)(n:Nat)(vl vi:Value)(wr:World):Prop:=
 ∃(i:Nat),i≤n∧vi=.int .i64 i∧Sl.Lst wr vl ((own.take i).filter fun y=>y != x)∧(∀b,vl.ownBlock=some b→w3.heap.size≤b∧b<wr.heap.size)∧Below w3.heap.size w3 wr
theorem len_ins(x:Int):∀l:List Int,(En.ins x l).length=l.length+1
 | []=>rfl
 |y::l=>by
  unfold En.ins
  split
  ·rfl
  ·rw[List.length_cons,len_ins x l];rfl
section
variable {w:World} {a:RAt} {R:List Rp} {E:En}
theorem mayR(x:Int)(x0:0≤x)(x1:x≤4294967295)(w:World):Calls Tryz.prog 286 #[.int .u32 x] w fun e w'=>e=.returned (.bool (En.mayP x))∧w=w':=by
 have HM:=Lh (Rs.may x x0 x1 w);cases hm:Sp.mayB x with
 |false=>
  have e:En.mayP x=false:=by
   unfold En.mayP;unfold Sp.mayB at hm;cases g:(x % 256 == 0) with
   |false=>rfl
   |true=>rw[g,Bool.true_and] at hm;rw[hm,Bool.and_false]
  rw[hm] at HM;rw[e];clear e hm;go_enter func286,ntmps286;go_wp2_with fail;refine HM.out.mono ?_;rintro e w2 ⟨rfl,rfl⟩;go_wp2;go_ret;exact⟨rfl,rfl⟩
 |true=>
  have e:En.mayP x=decide (256≤x):=by
   unfold En.mayP;unfold Sp.mayB at hm;rw[Bool.and_eq_true] at hm;rw[hm.1,hm.2,Bool.true_and,Bool.and_true]
  rw[hm] at HM;rw[e];clear e hm;go_enter func286,ntmps286;go_wp2_with fail;refine HM.out.mono ?_;rintro e w2 ⟨rfl,rfl⟩;go_wp2;go_ret;exact⟨rfl,rfl⟩
theorem page(h:Renv w a R E)(x:Int)(x0:0≤x)(x1:x≤4294967295):Calls Tryz.prog 208 #[.pointer (some ⟨a.eb,0,none⟩),.int .u32 x] w fun e w'=>∃blk b' R',e=.returned (.int .i64 (E.pageE x))∧RvStep w w' a R E b' R' (E.page x blk):=by
 have HR:=Lh (ready h);have HM:=Lh (mayR x x0 x1 w);have HS:=Lh (RvStep.refl h)
 by_cases hk:E.kind=2
 ·rw[show(E.kind == 2)=true from beq_iff_eq.2 hk] at HR;cases hp:En.mayP x with
  |false=>
   have hm:E.mayE x=2:=by unfold En.mayE;rw[if_neg (by omega),if_pos hp]
   have hpe:E.pageE x=2:=by unfold En.pageE;rw[hm,if_pos (by omega)]
   have e2:∀blk,E.page x blk=E:=fun blk=>by unfold En.page;rw[hpe,if_pos (by omega)]
   simp only[e2];rw[hpe];rw[hp] at HM;clear e2 hpe hm hp hk h;go_enter func208,ntmps208;go_wp2_with fail;refine HR.out.mono ?_;rintro e w2 ⟨rfl,rfl⟩;go_wp2_with fail;refine HM.out.mono ?_;rintro e w2 ⟨rfl,rfl⟩;go_wp2;go_ret;exact⟨0,_,_,rfl,HS.out⟩
  |true=>
   have hm:E.mayE x=0:=by unfold En.mayE;rw[if_neg (by omega),if_neg (by rw[hp];exact fun e=>(nomatch e))]
   have hpe:E.pageE x=Sp.mapE E.A x 3:=by unfold En.pageE;rw[hm,if_neg (by omega)]
   rw[hp] at HM;have HMap:=Lh (Rs.map_any h.rp x 3 x0 x1 (by omega) (by omega));rw[h.eq] at HMap;obtain⟨_,c1,_⟩:=cells h;have HOk:=Lh h.ok
   by_cases he:Sp.mapE E.A x 3=0
   ·have e2:∀blk,E.page x blk= {E with A:=Sp.mapA E.A x blk 3,own:=En.ins x E.own}:=fun blk=>by unfold En.page;rw[hpe,if_neg (by omega)]
    have HO:Hid (∀blk,x∉E.own∧({E with A:=Sp.mapA E.A x blk 3,own:=En.ins x E.own}:En).Ok):=Lh fun blk=>h.ok.page blk hp he
    have HH:=Lh fun blk=>h.ok.map blk he
    simp only[e2];rw[hpe];rw[he] at HMap⊢;obtain⟨i0,hi0,hz0,hz1,hz2⟩:=info_parts infoU32;clear e2 hpe he hm hp hk h;go_enter func208,ntmps208;go_wp2_with fail;refine HR.out.mono ?_;rintro e w2 ⟨rfl,rfl⟩;go_wp2_with fail;refine HM.out.mono ?_;rintro e w2 ⟨rfl,rfl⟩;go_wp2_with fail;refine HMap.out.mono ?_;rintro e w3 ⟨lv',R',blk,rfl,hA,hs3⟩;have hE3:=RvStep.space (r:=E.r) (pc:=E.pc) HS.out.ren (HS.out.ren.cp.keep hs3.mod HS.out.ren.cs) hs3.sp (hs3.mod.mono fun _ _ g=>.inr g) hs3.foot hA (HH.out blk);have HS3:=Lh hE3;have HOl:=Lh HOk.out.len;obtain⟨n,hn⟩:∃n,E.own.length=n:=⟨_,rfl⟩;have Hn:=Lh hn;have hnb:n≤2000000:=by have:=HOk.out.len;omega
    clear hs3 hA hE3 c1 HMap HM HR HS HH hn;go_wp2;go_loopw [6,7,8] (fun vl vd vi wr=>pgRel w3 E.own x n vl vd vi wr) (fun _ _ vi _=>n - (intOf vi).toNat)
    case atStart=>exact⟨0,false,[],Nat.zero_le _,by go_num,rfl,Sl.Lst.nil _,fun b hb=>(nomatch hb),Below.refl _ _,fun g=>(nomatch g),fun _=>⟨by simp,fun z hz=>(by simp at hz)⟩⟩
    case round=>
     obtain⟨i,d,built,hi,rfl,rfl,hl,hbb,hbel,ht,hf⟩:=hrel;have hren:=HS3.out.ren.below hbel;obtain⟨_,_,_,_,_,_,c6,_⟩:=cells hren;simp only at c6;have hls:=hren.ls;simp only at hls;obtain⟨ao,cap,hlv,hws⟩:=hls.words HOl.out;rw[Hn.out] at hlv;rw[hlv] at c6;obtain⟨al,capl,rfl⟩:=SlV.form hl;have HL:=Lh (⟨hl,hbb,hbel⟩:_∧_∧_);have HTF:=Lh (⟨ht,hf⟩:_∧_);have HLv:=Lh hlv;have HRen:=Lh hren;clear hl hbb hbel ht hf hls hlv hren
     by_cases hin:i<n
     ·have hil:i<E.own.length:=by rw[Hn.out];exact hin
      obtain⟨g,o,rfl,hcy⟩:=hws.cell i hil;have Htk:=Lh (List.take_succ_eq_append_getElem hil);generalize hy:E.own[i]=y at*;clear hws hy;have HLa:Hid (∀o,SlV (wr.alloc o) 22 1 (.slice al built.length capl) built.length (built.map encU)):=Lh fun o=>SlV.keep HL.out.1 fun g hg=>Below.heap_alloc _ _ _ (HL.out.2.1 g hg).2
      have hbl:built.length≤2000001:=by
       cases d with
       |true=>rw[(HTF.out.1 rfl).1,len_ins,List.length_take];omega
       |false=>rw[(HTF.out.2 rfl).1,List.length_take];omega
      have hbn:(built.length+1)*4≤140737488355328:=by omega
      have hcg:g<wr.heap.size:=Sl.word_lt hcy;cases d with
      |true=>
       go_wp2_with (at_builtin;refine wpList_append_slv _ rfl _ _ 23 rfl 22 i0 (.int .u32 0) 1 4 Tryz.underlying23 hi0 hz0 hz1 hz2 rfl (by decide) _ _ (built.map encU) rfl (HLa.out _) ⟨wr.heap.size,0,none⟩ 1 1 [.int .u32 y] rfl (by omega) rfl (cell_one_new _ _ _) (by simp[Value.oneCell']) (by unfold maxLen;omega) (by omega) ?_;intro v5 w5 h1 h2 h3);have HN:=Lh (app_next (y:=y) HL.out.2.1 HL.out.2.2 _ h1 h2 h3);clear h1 h2 h3;go_wp2;refine⟨⟨i+1,true,built++[y],by omega,by go_num,rfl,HN.out.1,HN.out.2.1,HN.out.2.2,fun _=> ?_,fun g=>(nomatch g)⟩,by simp[intOf];omega⟩;obtain⟨q1,z,q2,q3⟩:=HTF.out.1 rfl;rw[Htk.out];exact⟨by rw[q1,En.ins_after ⟨z,q2,q3⟩],z,List.mem_append_left _ q2,q3⟩
      |false=>
       by_cases hxy:x<y
       ·have Hxy:=Lh hxy;have HCy:Hid (∀V,Below w3.heap.size w3 V→V.cell? ⟨g,o+i,none⟩=some (.int .u32 y)):=Lh fun V hV=>by
         have hg3:g<w3.heap.size:=(HS3.out.ren.le g (by show a.ow.ownBlock=some g;rw[HLv.out];rfl)).1;exact(hV.cell (p:=⟨g,o+i,none⟩) hg3).trans ((HL.out.2.2.cell (p:=⟨g,o+i,none⟩) hg3).symm.trans hcy)
        go_wp2_with (first
         |(
           at_builtin
           refine wpList_append_slv _ rfl _ _ 23 rfl 22 i0 (.int .u32 0) 1 4 Tryz.underlying23 hi0 hz0 hz1 hz2 rfl (by decide) _ _ (built.map encU) rfl (HLa.out _) ⟨wr.heap.size,0,none⟩ 1 1 [.int .u32 x] rfl (by omega) rfl (cell_one_new _ _ _) (by simp[Value.oneCell']) (by unfold maxLen;omega) (by omega) ?_;intro v5 w5 h1 h2 h3;have hn5:=app_next (y:=x) HL.out.2.1 HL.out.2.2 _ h1 h2 h3;clear h1 h2 h3;have hl5:(built++[x]).length=built.length+1:=by simp
           have HL5:=Lh hl5;obtain⟨al5,capl5,hv5⟩:=SlV.form hn5.1;rw[hl5] at hv5;subst hv5;have c65:=(cells (HS3.out.ren.below hn5.2.2)).2.2.2.2.2.2.1;simp only at c65;rw[HLv.out] at c65;have hcy5:=HCy.out _ hn5.2.2;have HN5:=Lh hn5;have HLb:Hid (∀o,SlV (w5.alloc o) 22 1 (.slice al5 (built.length+1) capl5) (built.length+1) ((built++[x]).map encU)):=Lh fun o=>by
            have:=SlV.keep (w':=w5.alloc o) HN5.out.1 fun g hg=>Below.heap_alloc _ _ _ (HN5.out.2.1 g hg).2
            rw[HL5.out] at this;exact this
           clear hn5 hl5)
         |(
           at_builtin
           refine wpList_append_slv _ rfl _ _ 23 rfl 22 i0 (.int .u32 0) 1 4 Tryz.underlying23 hi0 hz0 hz1 hz2 rfl (by decide) _ _ ((built++[x]).map encU) rfl (HLb.out _) ⟨w5.heap.size,0,none⟩ 1 1 [.int .u32 y] rfl (by omega) rfl (cell_one_new _ _ _) (by simp[Value.oneCell']) (by unfold maxLen;omega) (by omega) ?_;intro v6 w6 h1 h2 h3;have HN6:=Lh (app_next (built:=built++[x]) (y:=y) HN5.out.2.1 HN5.out.2.2 _ (by rw[HL5.out];exact h1) h2 h3);clear h1 h2 h3))
        refine⟨⟨i+1,true,(built++[x])++[y],by omega,by go_num,rfl,HN6.out.1,HN6.out.2.1,HN6.out.2.2,fun _=> ?_,fun g=>(nomatch g)⟩,by simp[intOf];omega⟩;obtain⟨q1,q2⟩:=HTF.out.2 rfl;rw[Htk.out];refine⟨?_,y,List.mem_append_right _ (List.mem_singleton.2 rfl),Hxy.out⟩;rw[En.ins_ahead q2,q1];unfold En.ins;rw[if_pos Hxy.out]
        simp
       ·go_wp2_with (at_builtin;refine wpList_append_slv _ rfl _ _ 23 rfl 22 i0 (.int .u32 0) 1 4 Tryz.underlying23 hi0 hz0 hz1 hz2 rfl (by decide) _ _ (built.map encU) rfl (HLa.out _) ⟨wr.heap.size,0,none⟩ 1 1 [.int .u32 y] rfl (by omega) rfl (cell_one_new _ _ _) (by simp[Value.oneCell']) (by unfold maxLen;omega) (by omega) ?_;intro v5 w5 h1 h2 h3);have HN:=Lh (app_next (y:=y) HL.out.2.1 HL.out.2.2 _ h1 h2 h3);have Hxy:=Lh hxy;clear h1 h2 h3;go_wp2;refine⟨⟨i+1,false,built++[y],by omega,by go_num,rfl,HN.out.1,HN.out.2.1,HN.out.2.2,fun g=>(nomatch g),fun _=> ?_⟩,by simp[intOf];omega⟩;obtain⟨q1,q2⟩:=HTF.out.2 rfl;rw[Htk.out];exact⟨by rw[q1],fun z hz=>by
         rcases List.mem_append.1 hz with g|g
         ·exact q2 z g
         ·rw[List.mem_singleton.1 g];exact Hxy.out⟩
     ·obtain rfl:i=n:=by omega
      have HTk:Hid (E.own.take i=E.own):=Lh (List.take_of_length_le (Nat.le_of_eq Hn.out));cases d with
      |true=>
       have hbo:=(HTF.out.1 rfl).1;rw[HTk.out] at hbo;have hl':Sl.Lst wr (.slice al built.length capl) (En.ins x E.own):=by
        have:=HL.out.1;rw[hbo] at this⊢;exact this
       have hst:=RvStep.list HS3.out.ren (own:=En.ins x E.own) hl' HL.out.2.2 HL.out.2.1 (HO.out blk).2;have HFin:=Lh (HS3.out.trans hst);have f6:=HRen.out.free 6;clear hbo hl' hst;go_wp2;go_ret
       first|exact⟨blk,_,_,rfl,HFin.out⟩|exact⟨rfl,blk,_,_,HFin.out⟩
      |false=>
       have hbo:=(HTF.out.2 rfl);rw[HTk.out] at hbo;have HBo:=Lh hbo;have hbl:built.length≤2000001:=by rw[hbo.1,Hn.out];omega
       have hbn:(built.length+1)*4≤140737488355328:=by omega
       have HLa:Hid (∀o,SlV (wr.alloc o) 22 1 (.slice al built.length capl) built.length (built.map encU)):=Lh fun o=>SlV.keep HL.out.1 fun g hg=>Below.heap_alloc _ _ _ (HL.out.2.1 g hg).2
       clear hbo;go_wp2_with (
              at_builtin
              refine wpList_append_slv _ rfl _ _ 23 rfl 22 i0 (.int .u32 0) 1 4 Tryz.underlying23 hi0 hz0 hz1 hz2 rfl (by decide) _ _ (built.map encU) rfl (HLa.out _) ⟨wr.heap.size,0,none⟩ 1 1 [.int .u32 x] rfl (by omega) rfl (cell_one_new _ _ _) (by simp[Value.oneCell']) (by unfold maxLen;omega) (by omega) ?_;intro v5 w5 h1 h2 h3;have hn5:=app_next (y:=x) HL.out.2.1 HL.out.2.2 _ h1 h2 h3;clear h1 h2 h3;have hins:built++[x]=En.ins x E.own:=by
               have:=En.ins_ahead (m:=[]) HBo.out.2;rw[List.append_nil] at this;rw[this,HBo.out.1];rfl
              rw[hins] at hn5;obtain⟨al5,capl5,hv5⟩:=SlV.form hn5.1;subst hv5;have HFin:=Lh (HS3.out.trans (RvStep.list HS3.out.ren (own:=En.ins x E.own) hn5.1 hn5.2.2 hn5.2.1 (HO.out blk).2));have f6:=(HS3.out.ren.below hn5.2.2).free 6;have c65:=(cells (HS3.out.ren.below hn5.2.2)).2.2.2.2.2.2.1;simp only at c65;clear hn5 hins)
       go_ret
       first|exact⟨blk,_,_,rfl,HFin.out⟩|exact⟨rfl,blk,_,_,HFin.out⟩
   ·have e2:∀blk,E.page x blk=E:=fun blk=>by unfold En.page;rw[hpe,if_pos he]
    have HSp:Hid (∀blk,Sp.mapA E.A x blk 3=E.A):=Lh fun blk=>by unfold Sp.mapA;rw[if_neg he]
    simp only[e2];rw[hpe];generalize Sp.mapE E.A x 3=r at*;have heb:(r != 0)=true:=bne_iff_ne.2 he;clear e2 hpe hm hp hk h;go_enter func208,ntmps208;go_wp2_with fail;refine HR.out.mono ?_;rintro e w2 ⟨rfl,rfl⟩;go_wp2_with fail;refine HM.out.mono ?_;rintro e w2 ⟨rfl,rfl⟩;go_wp2_with fail;refine HMap.out.mono ?_;rintro e w3 ⟨lv',R',blk,rfl,hA,hs3⟩;rw[HSp.out blk] at hA;have HS3:=Lh (RvStep.space (r:=E.r) (pc:=E.pc) HS.out.ren (HS.out.ren.cp.keep hs3.mod HS.out.ren.cs) hs3.sp (hs3.mod.mono fun _ _ g=>.inr g) hs3.foot hA HOk.out.has);clear hs3 hA;go_wp2;go_ret;exact⟨0,_,_,rfl,HS3.out⟩
 ·have hm:E.mayE x=3:=by unfold En.mayE;rw[if_pos hk]
  have hpe:E.pageE x=3:=by unfold En.pageE;rw[hm,if_pos (by omega)]
  have e2:∀blk,E.page x blk=E:=fun blk=>by unfold En.page;rw[hpe,if_pos (by omega)]
  simp only[e2];rw[hpe];rw[show(E.kind == 2)=false from beq_eq_false_iff_ne.2 hk] at HR;clear e2 hpe hm hk h HM;go_enter func208,ntmps208;go_wp2_with fail;refine HR.out.mono ?_;rintro e w2 ⟨rfl,rfl⟩;go_wp2;go_ret;exact⟨0,_,_,rfl,HS.out⟩
theorem drop(h:Renv w a R E)(x:Int)(x0:0≤x)(x1:x≤4294967295):Calls Tryz.prog 209 #[.pointer (some ⟨a.eb,0,none⟩),.int .u32 x] w fun e w'=>∃b' R',e=.returned (.int .i64 (E.dropE x))∧RvStep w w' a R E b' R' (E.drop x):=by
 have HR:=Lh (ready h);have HM:=Lh (mayR x x0 x1 w);have HS:=Lh (RvStep.refl h)
 by_cases hk:E.kind=2
 ·rw[show(E.kind == 2)=true from beq_iff_eq.2 hk] at HR;cases hp:En.mayP x with
  |false=>
   have hm:E.mayE x=2:=by unfold En.mayE;rw[if_neg (by omega),if_pos hp]
   have hpe:E.dropE x=2:=by unfold En.dropE;rw[hm,if_pos (by omega)]
   have e2:E.drop x=E:=by unfold En.drop;rw[hm,if_pos (by omega)]
   rw[hpe,e2];rw[hp] at HM;clear e2 hpe hm hp hk h;go_enter func209,ntmps209;go_wp2_with fail;refine HR.out.mono ?_;rintro e w2 ⟨rfl,rfl⟩;go_wp2_with fail;refine HM.out.mono ?_;rintro e w2 ⟨rfl,rfl⟩;go_wp2;go_ret;exact⟨_,_,rfl,HS.out⟩
  |true=>
   have hm:E.mayE x=0:=by unfold En.mayE;rw[if_neg (by omega),if_neg (by rw[hp];exact fun e=>(nomatch e))]
   rw[hp] at HM;have HOk:=Lh h.ok;have HOl:=Lh h.ok.len;obtain⟨n,hn⟩:∃n,E.own.length=n:=⟨_,rfl⟩;have Hn:=Lh hn;have hnb:n≤2000000:=by have:=HOk.out.len;omega
   obtain⟨i0,hi0,hz0,hz1,hz2⟩:=info_parts infoU32;have HFin:Hid ((x∉E.own→∀w',Below w.heap.size w w'→∃b' R',Ending.returned (.int .i64 3)=.returned (.int .i64 (E.dropE x))∧RvStep w w' a R E b' R' (E.drop x))∧(x∈E.own→E.dropE x=Sp.unmapE E.A x∧E.drop x= {E with A:=Sp.unmapA E.A x,own:=E.own.filter (fun y=>y != x)})):=Lh (by
    refine⟨fun hx w' hb=> ?_,fun hx=> ?_⟩
    ·have e1:E.dropE x=3:=by unfold En.dropE;rw[if_neg (by omega),if_neg hx]
     have e2:E.drop x=E:=by unfold En.drop;rw[if_neg (by omega),if_neg hx]
     rw[e1,e2];exact⟨_,_,rfl,RvStep.of_below HS.out.ren hb⟩
    ·exact⟨by unfold En.dropE;rw[if_neg (by omega),if_pos hx],by unfold En.drop;rw[if_neg (by omega),if_pos hx]⟩)
   have Hx:Hid ((E.own.filter (fun y=>y != x)).length=E.own.length↔x∉E.own):=Lh (by
    rw[List.length_filter_eq_length_iff];exact⟨fun g q=>by simpa using g x q,fun g y hy=>by
     have:y≠x:=fun e=>g (e▸hy)
     simpa using this⟩)
   clear hm hp hk h hn;go_enter func209,ntmps209;go_wp2_with fail;refine HR.out.mono ?_;rintro e w2 ⟨rfl,rfl⟩;go_wp2_with fail;refine HM.out.mono ?_;rintro e w2 ⟨rfl,rfl⟩;clear HR HM;go_wp2;go_loopw [5,6] (fun vl vi wr=>drRel w E.own x n vl vi wr) (fun _ vi _=>n - (intOf vi).toNat)
   case atStart=>exact⟨0,Nat.zero_le _,by go_num,Sl.Lst.nil _,fun b hb=>(nomatch hb),Below.refl _ _⟩
   case round=>
    obtain⟨i,hi,rfl,hl,hbb,hbel⟩:=hrel;have hren:=HS.out.ren.below hbel;obtain⟨_,_,_,_,_,_,c6,_⟩:=cells hren;have hls:=hren.ls;obtain⟨ao,cap,hlv,hws⟩:=hls.words HOl.out;rw[Hn.out] at hlv;rw[hlv] at c6;obtain⟨built,hbu⟩:∃built,(E.own.take i).filter (fun y=>y != x)=built:=⟨_,rfl⟩;rw[hbu] at hl;obtain⟨al,capl,rfl⟩:=SlV.form hl;have HL:=Lh (⟨hl,hbb,hbel⟩:_∧_∧_);have HBu:=Lh hbu;have HLv:=Lh hlv;have HRen:=Lh hren;have hbl:built.length≤i:=by rw[←hbu];exact Nat.le_trans (List.length_filter_le _ _) (by rw[List.length_take];omega)
    have hbn:(built.length+1)*4≤140737488355328:=by omega
    clear hl hbb hbel hls hlv hren hbu
    by_cases hin:i<n
    ·have hil:i<E.own.length:=by rw[Hn.out];exact hin
     obtain⟨g,o,rfl,hcy⟩:=hws.cell i hil;have Htk:=Lh (List.take_succ_eq_append_getElem hil);generalize hy:E.own[i]=y at*;clear hws hy
     by_cases hxy:y=x
     ·subst hxy;go_wp2;refine⟨⟨i+1,by omega,by go_num, ?_,HL.out.2.1,HL.out.2.2⟩,by simp[intOf];omega⟩;rw[Htk.out,List.filter_append,HBu.out]
      simpa using HL.out.1
     ·have hxb:(y != x)=true:=bne_iff_ne.2 hxy;have HXb:Hid (List.filter (fun z=>z != x) [y]=[y]):=Lh (by simp[hxy]);have HLa:Hid (∀o,SlV (wr.alloc o) 22 1 (.slice al built.length capl) built.length (built.map encU)):=Lh fun o=>SlV.keep HL.out.1 fun g hg=>Below.heap_alloc _ _ _ (HL.out.2.1 g hg).2
      go_wp2_with (
             at_builtin
             refine wpList_append_slv _ rfl _ _ 23 rfl 22 i0 (.int .u32 0) 1 4 Tryz.underlying23 hi0 hz0 hz1 hz2 rfl (by decide) _ _ (built.map encU) rfl (HLa.out _) ⟨wr.heap.size,0,none⟩ 1 1 [.int .u32 y] rfl (by omega) rfl (cell_one_new _ _ _) (by simp[Value.oneCell']) (by unfold maxLen;omega) (by omega) ?_;intro v5 w5 h1 h2 h3;have HN:=Lh (app_next (y:=y) HL.out.2.1 HL.out.2.2 _ h1 h2 h3);clear h1 h2 h3)
      refine⟨⟨i+1,by omega,by go_num, ?_,HN.out.2.1,HN.out.2.2⟩,by simp[intOf];omega⟩;rw[Htk.out,List.filter_append,HBu.out,HXb.out];exact HN.out.1
    ·obtain rfl:i=n:=by omega
     have hbo:=HBu.out;rw[List.take_of_length_le (Nat.le_of_eq Hn.out)] at hbo;have HBo:=Lh hbo
     by_cases hx:x∈E.own
     ·have hne:built.length≠i:=fun e=>(Hx.out.1 (by rw[hbo,e,Hn.out])) hx
      have hnb2:((built.length:Int) == i)=false:=beq_eq_false_iff_ne.2 (by omega);have hl':Sl.Lst wr (.slice al built.length capl) (E.own.filter fun y=>y != x):=by rw[hbo];exact HL.out.1
      have hst:=RvStep.list HS.out.ren (own:=E.own.filter fun y=>y != x) hl' HL.out.2.2 HL.out.2.1 (HOk.out.less x);obtain⟨_,d1,_⟩:=cells hst.ren;simp only at d1;have HSt:=Lh hst;have HUn:=Lh (Rs.unmap_any hst.ren.rp x x0 x1);obtain⟨e1,e2⟩:=HFin.out.2 hx;rw[hst.ren.eq] at HUn;simp only at HUn;have HE:=Lh (⟨e1,e2⟩:_∧_);have f6:=HRen.out.free 6;clear hbo hl' hst hne e1 e2 hws hx;go_wp2_with fail;refine HUn.out.mono ?_;rintro e w7 ⟨lv',R',rfl,hA,hs7⟩;have HF:=Lh (HSt.out.trans (RvStep.space (r:=E.r) (pc:=E.pc) HSt.out.ren (HSt.out.ren.cp.keep hs7.mod HSt.out.ren.cs) hs7.sp (hs7.mod.mono fun _ _ g=>.inr g) hs7.foot hA (HOk.out.unmap x)));clear hs7 hA;go_wp2;go_ret;rw[HE.out.1,HE.out.2];exact⟨_,_,rfl,HF.out⟩
     ·have he:built.length=i:=by rw[←hbo,Hx.out.2 hx,Hn.out]
      have hnb2:((built.length:Int) == i)=true:=beq_iff_eq.2 (by omega);have HF:=Lh (HFin.out.1 hx wr HL.out.2.2);clear hbo hx hws he;go_wp2;go_ret;exact HF.out
 ·have hm:E.mayE x=3:=by unfold En.mayE;rw[if_pos hk]
  have hpe:E.dropE x=3:=by unfold En.dropE;rw[hm,if_pos (by omega)]
  have e2:E.drop x=E:=by unfold En.drop;rw[hm,if_pos (by omega)]
  rw[hpe,e2];rw[show(E.kind == 2)=false from beq_eq_false_iff_ne.2 hk] at HR;clear e2 hpe hm hk h HM;go_enter func209,ntmps209;go_wp2_with fail;refine HR.out.mono ?_;rintro e w2 ⟨rfl,rfl⟩;go_wp2;go_ret;exact⟨_,_,rfl,HS.out⟩
end
end Rv
namespace Rs
theorem perm{w:World}{rb:Nat}{lv:Value}{R:List Rp}(h:Rsp w rb lv R)(x:Int)(h0:0≤x)(h1:x≤4294967295):
  Calls Tryz.prog 205 #[.pointer (some ⟨rb,0,none⟩),.int .u32 x] w fun e w'=>e=.returned (.tuple #[.int .u8 (Sp.permV (rpgs R) x),.bool (Sp.permB (rpgs R) x)])∧w=w':=by
 cases hp:pageAt (rpgs R) x with
 |none=>
  have hof:=of_none h x h0 (by omega) hp;have e1:=Lh (show Sp.permV (rpgs R) x=0 by unfold Sp.permV;rw[hp]);have e2:=Lh (show Sp.permB (rpgs R) x=false by unfold Sp.permB;rw[hp];rfl);have Hof:=Lh hof;clear h hp hof;go_enter func205,ntmps205;go_wp2_with (go_at_call 273;(with_reducible refine Hof.out.mono ?_);rintro e w1 ⟨rfl,rfl⟩);go_ret2;exact⟨by rw[e1.out,e2.out];rfl,rfl⟩
 |some p=>
  have hof:=of_some h x h0 (by omega) hp;have e1:=Lh (show Sp.permV (rpgs R) x=p.perm by unfold Sp.permV;rw[hp]);have e2:=Lh (show Sp.permB (rpgs R) x=true by unfold Sp.permB;rw[hp];rfl);have Hof:=Lh hof;obtain⟨q,hq,rfl⟩:=List.mem_map.1 (atAddr_mem hp).1;obtain⟨_,c1,_⟩:=(h.pages q hq).cells;clear h hp hof;go_enter func205,ntmps205;go_wp2_with (go_at_call 273;(with_reducible refine Hof.out.mono ?_);rintro e w1 ⟨rfl,rfl⟩);go_ret2;exact⟨by rw[e1.out,e2.out];rfl,rfl⟩
end Rs
end Go.Proofs.YtjjdjpdmgaipeaaGreat
