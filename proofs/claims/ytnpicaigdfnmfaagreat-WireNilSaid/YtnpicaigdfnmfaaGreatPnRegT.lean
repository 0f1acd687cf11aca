/- RegT, RefW, Text06, Made06, ExoW, EnvN in one text. -/
import Derived.Test.YtnpicaigdfnmfaaGreatPnBase
import Derived.Test.YtnpicaigdfnmfaaGreatPnSl21
import Derived.Deep.RegionHeld3
import Derived.Deep.RegionWith
import Derived.Test.YtnpicaigdfnmfaaGreatProg
import Derived.Test.YtnpicaigdfnmfaaGreatPnPag
import Derived.Deep.DeepCutAuto
import Derived.Test.YtnpicaigdfnmfaaGreatPnRspW
import Derived.Test.YtnpicaigdfnmfaaGreatPnZa
set_option linter.unusedVariables false
set_option linter.unusedSimpArgs false
set_option maxRecDepth 100000
set_option maxHeartbeats 16000000
open Go.Proofs.Tryz
namespace Go.Proofs.YtnpicaigdfnmfaaGreat
open Go.RowKit
section
variable {P:Program} {Q:Exit→Act→World→Prop} {md:Region.Mode} {S:World→Prop}
theorem T{l:List Oper}{oi:Oper}{v:Value}{fuel:Nat}{listed:Array Bool}{a a':Act}{w:World}(i:Nat)(hS:S w)
  (h:wpAnyH P md l.toArray Q S fuel (listed.setIfInBounds i true) a' w)
  (hi:l[i]? =some oi:=by rfl) (hs:Region.noSelect l.toArray=true:=by kernel_rfl) (hf:Region.free md l.toArray listed i=true:=by kernel_rfl) (hr:(Region.ready md l.toArray listed).contains i=true:=by kernel_rfl)
  (hw:Region.wanted oi (yielded l.toArray a.tmps)=true:=by rfl)
  (hy:∀W,S W→(execOp a.eval oi).run P W=.ok (.value v) W:=by intro W hW;(repeat (obtain⟨_,hW⟩:=hW));go_simp;try with_reducible rfl)
  (hQ:∀c a w,Q (.panic c) (a.put oi.dst v) w→Q (.panic c) a w:=by exact fun _ _ _ h=>h)
  (ha:a.put oi.dst v=a':=by simp only[Act.put,Za,Zb,Zc,Zd,Ze,Zf];rfl):wpAnyH P md l.toArray Q S (fuel+1) listed a w:=by
 subst ha;exact wpAnyH_take (by rw[List.getElem?_toArray];exact hi) hs hf hr hQ (Or.inl ⟨hw,hy⟩) hS h
theorem U{l:List Oper}{o:Oper}{fuel:Nat}{listed:Array Bool}{a:Act}{w:World}(i:Nat)
  (h:∀K':Act→World→Prop,Shut (∀a w,S w→(S w→wpAnyH P md l.toArray Q S fuel (listed.setIfInBounds i true) a w)→K' a w)→if Region.wanted o (yielded l.toArray a.tmps)=true then Oper.wp P o a w K' Q else K' (a.put o.dst undef) w)
  (hr:Region.ready md l.toArray listed=[i]:=by kernel_rfl) (ho:l[i]? =some o:=by rfl):
  wpAnyH P md l.toArray Q S (fuel+1) listed a w:=
 wpAnyH_ready hr (by simp) (AllReadyH.cons (by rw[List.getElem?_toArray];exact ho) h AllReadyH.nil)
theorem V{l:List Oper}{fuel:Nat}{listed:Array Bool}{a a':Act}{w:World}{K':Act→World→Prop}(hK:Shut (∀a w,S w→(S w→wpAnyH P md l.toArray Q S fuel listed a w)→K' a w))(hS:S w)
  (h:wpAnyH P md l.toArray Q S fuel listed a' w) (ha:a=a':=by first|(simp only[Act.put,Za,Zb,Zc,Zd,Ze,Zf];rfl)|rfl):K' a w:=by
 subst ha;exact hK.out _ _ hS fun _=>h
theorem B{l:List Oper}{id:Nat}{a:Act}{w:World}(S:World→Prop)(hS:S w.drew)
  (h:∀w',w'=w.drew→S w'→wpAnyH P .any l.toArray Q S l.toArray.size (Array.replicate l.toArray.size false) a w') (hm:P.follows .mixedOrders=true:=by kernel_rfl):(Code.region id l.toArray true).wp P Q a w:=
 wp_region_held hm (h _ rfl hS)
end
section
variable {P:Program} {Q:Exit→Act→World→Prop} {md:Region.Mode} {S:World→Prop} {last:Nat}
theorem LT{l:List Oper}{oi:Oper}{v:Value}{fuel:Nat}{listed:Array Bool}{a a':Act}{w:World}(i:Nat)(hS:S w)
  (h:AnyE P md l.toArray Q S last fuel (listed.setIfInBounds i true) a' w)
  (hi:l[i]? =some oi:=by rfl) (hwt:waitsFor md l.toArray last i=true:=by kernel_rfl) (hs:Region.noSelect l.toArray=true:=by kernel_rfl) (hf:Region.free md l.toArray listed i=true:=by kernel_rfl) (hr:(Region.ready md l.toArray listed).contains i=true:=by kernel_rfl)
  (hw:Region.wanted oi (yielded l.toArray a.tmps)=true:=by rfl)
  (hy:∀W,S W→(execOp a.eval oi).run P W=.ok (.value v) W:=by intro W hW;(repeat (obtain⟨_,hW⟩:=hW));go_simp;try with_reducible rfl)
  (hQ:∀c a w,Q (.panic c) (a.put oi.dst v) w→Q (.panic c) a w:=by exact fun _ _ _ h=>h)
  (ha:a.put oi.dst v=a':=by simp only[Act.put,Za,Zb,Zc,Zd,Ze,Zf];rfl):AnyE P md l.toArray Q S last (fuel+1) listed a w:=by
 subst ha;exact E_take (by rw[List.getElem?_toArray];exact hi) hwt hs hf hr hQ (Or.inl ⟨hw,hy⟩) hS h
theorem LU{l:List Oper}{o:Oper}{fuel:Nat}{listed:Array Bool}{a:Act}{w:World}(i:Nat)
  (h:∀K':Act→World→Prop,Shut (∀a w,(i≠last→S w)→((i≠last→S w)→AnyE P md l.toArray Q S last fuel (listed.setIfInBounds i true) a w)→K' a w)→if Region.wanted o (yielded l.toArray a.tmps)=true then Oper.wp P o a w K' Q else K' (a.put o.dst undef) w)
  (hr:Region.ready md l.toArray listed=[i]:=by kernel_rfl) (ho:l[i]? =some o:=by rfl):
  AnyE P md l.toArray Q S last (fuel+1) listed a w:=
 E_step hr (by rw[List.getElem?_toArray];exact ho) h
theorem LV{l:List Oper}{fuel i:Nat}{listed:Array Bool}{a a':Act}{w:World}{K':Act→World→Prop}(hK:Shut (∀a w,(i≠last→S w)→((i≠last→S w)→AnyE P md l.toArray Q S last fuel listed a w)→K' a w))(hS:i≠last→S w)
  (h:AnyE P md l.toArray Q S last fuel listed a' w) (ha:a=a':=by first|(simp only[Act.put,Za,Zb,Zc,Zd,Ze,Zf];rfl)|rfl):K' a w:=by
 subst ha;exact hK.out _ _ hS fun _=>h
theorem LB{l:List Oper}{id:Nat}{a:Act}{w:World}(S:World→Prop)(last:Nat)(hS:S w.drew)
  (h:∀w',w'=w.drew→S w'→AnyE P .any l.toArray Q S last l.toArray.size (Array.replicate l.toArray.size false) a w') (hm:P.follows .mixedOrders=true:=by kernel_rfl):(Code.region id l.toArray true).wp P Q a w:=
 wp_region_E S last hm (h _ rfl hS)
end
end Go.Proofs.YtnpicaigdfnmfaaGreat
namespace Go.Proofs.YtnpicaigdfnmfaaGreat.Ins
open Go.RowKit Word
def rowV(op:Int):Value:=if usesV op=0 then .agg #[.bool true,.bool true,.bool true,.bool false] else .agg #[.bool (hasV op 1),.bool (hasV op 2),.bool (hasV op 4),.bool (hasV op 8)]
def isV(op:Int):Bool:=usesV op != 0
def UsesPost(op:Int)(w:World)(e:Ending)(w':World):Prop:=e=.returned (.tuple #[rowV op,.bool (isV op)])∧Below w.heap.size w w'
theorem uses_mk{op:Int}{w w':World}{a b c d i:Bool}(h:Value.agg #[.bool a,.bool b,.bool c,.bool d]=rowV op)(hi:i=isV op)(hb:Below w.heap.size w w'):UsesPost op w (.returned (.tuple #[.agg #[.bool a,.bool b,.bool c,.bool d],.bool i])) w':=⟨by rw[h,hi],hb⟩
theorem row_low{op:Int}(h:1≤op∧op≤14):rowV op=.agg #[.bool true,.bool true,.bool true,.bool false]∧isV op=true:=by
 have:usesV op=7:=by unfold usesV;rw[if_pos h]
 unfold rowV isV hasV;rw[this];exact⟨rfl,rfl⟩
theorem uses_at(op:Int)(h:op=17∨op=19∨op=22∨op=23∨op=24∨op=25∨op=26∨op=29∨op=30∨op=33∨op=34∨op=32∨op=41∨op=35∨op=36∨op=43∨op=44∨op=45∨op=46∨op=40∨op=50∨op=42)(w:World):
  Calls Tryz.prog 244 #[.int .u8 op] w (UsesPost op w):=by
 have HF:Hid (∀(a b c d i:Bool) w',Value.agg #[.bool a,.bool b,.bool c,.bool d]=rowV op→i=isV op→Below w.heap.size w w'→UsesPost op w (.returned (.tuple #[.agg #[.bool a,.bool b,.bool c,.bool d],.bool i])) w'):=Lh fun a b c d i w' h1 h2 h3=>uses_mk h1 h2 h3
 generalize hP:UsesPost op w=PQ at*;clear hP;rcases h with rfl|rfl|rfl|rfl|rfl|rfl|rfl|rfl|rfl|rfl|rfl|rfl|rfl|rfl|rfl|rfl|rfl|rfl|rfl|rfl|rfl|rfl
 all_goals
  go_enter func244,ntmps244;go_wp2
  first
   |exact bodyPost_ret (v:=.tuple #[.agg #[.bool true,.bool true,.bool false,.bool true],.bool true]) (by simp[results,Tryz.results244,go_sem];done) rfl (HF.out _ _ _ _ _ _ rfl rfl (Ba _))
   |exact bodyPost_ret (v:=.tuple #[.agg #[.bool true,.bool false,.bool false,.bool true],.bool true]) (by simp[results,Tryz.results244,go_sem];done) rfl (HF.out _ _ _ _ _ _ rfl rfl (Ba _))
   |exact bodyPost_ret (v:=.tuple #[.agg #[.bool false,.bool true,.bool true,.bool true],.bool true]) (by simp[results,Tryz.results244,go_sem];done) rfl (HF.out _ _ _ _ _ _ rfl rfl (Ba _))
   |exact bodyPost_ret (v:=.tuple #[.agg #[.bool false,.bool false,.bool false,.bool true],.bool true]) (by simp[results,Tryz.results244,go_sem];done) rfl (HF.out _ _ _ _ _ _ rfl rfl (Ba _))
   |exact bodyPost_ret (v:=.tuple #[.agg #[.bool false,.bool true,.bool false,.bool false],.bool true]) (by simp[results,Tryz.results244,go_sem];done) rfl (HF.out _ _ _ _ _ _ rfl rfl (Ba _))
theorem uses_else(op:Int)(o0:0≤op)(o1:op≤255)(h:¬(op=17∨op=19∨op=22∨op=23∨op=24∨op=25∨op=26∨op=29∨op=30∨op=33∨op=34∨op=32∨op=41∨op=35∨op=36∨op=43∨op=44∨op=45∨op=46∨op=40∨op=50∨op=42))(w:World):
  Calls Tryz.prog 244 #[.int .u8 op] w (UsesPost op w):=by
 have HF:Hid (∀(a b c d i:Bool) w',Value.agg #[.bool a,.bool b,.bool c,.bool d]=rowV op→i=isV op→Below w.heap.size w w'→UsesPost op w (.returned (.tuple #[.agg #[.bool a,.bool b,.bool c,.bool d],.bool i])) w'):=Lh fun a b c d i w' h1 h2 h3=>uses_mk h1 h2 h3
 generalize hP:UsesPost op w=PQ at*;clear hP;have f:∀k:Int,¬op=k→(op == k)=false:=fun k hk=>by simpa using hk
 have f17:=f 17 (by omega);have f19:=f 19 (by omega);have f22:=f 22 (by omega);have f23:=f 23 (by omega);have f24:=f 24 (by omega);have f25:=f 25 (by omega);have f26:=f 26 (by omega);have f29:=f 29 (by omega);have f30:=f 30 (by omega);have f33:=f 33 (by omega);have f34:=f 34 (by omega);have f32:=f 32 (by omega);have f41:=f 41 (by omega);have f35:=f 35 (by omega);have f36:=f 36 (by omega);have f43:=f 43 (by omega);have f44:=f 44 (by omega);have f45:=f 45 (by omega);have f46:=f 46 (by omega);have f40:=f 40 (by omega);have f50:=f 50 (by omega);have f42:=f 42 (by omega);have Hr:Hid (rowV op=.agg #[.bool true,.bool true,.bool true,.bool false]∧isV op=(decide (1≤op)&&decide (op≤14))):=Lh (by
  by_cases g:1≤op∧op≤14
  ·rw[(row_low g).1,(row_low g).2,decide_eq_true g.1,decide_eq_true g.2];exact⟨rfl,rfl⟩
  ·have:usesV op=0:=by unfold usesV;rw[if_neg g,if_neg (by omega),if_neg (by omega),if_neg (by omega),if_neg (by omega),if_neg (by omega)]
   unfold rowV isV;rw[this,if_pos rfl];refine⟨rfl, ?_⟩
   by_cases g1:1≤op
   ·rw[decide_eq_true g1,decide_eq_false (by omega)];rfl
   ·rw[decide_eq_false g1];rfl)
 clear f h;cases g1:decide (1≤op) with
 |false=>
  go_enter func244,ntmps244;go_wp2;exact bodyPost_ret (v:=.tuple #[.agg #[.bool true,.bool true,.bool true,.bool false],.bool false]) (by simp[results,Tryz.results244,go_sem];done) rfl (HF.out _ _ _ _ _ _ Hr.out.1.symm (by rw[Hr.out.2,g1];rfl) (Ba _))
 |true=>
  cases g2:decide (op≤14) with
  |false=>
   go_enter func244,ntmps244;go_wp2;exact bodyPost_ret (v:=.tuple #[.agg #[.bool true,.bool true,.bool true,.bool false],.bool false]) (by simp[results,Tryz.results244,go_sem];done) rfl (HF.out _ _ _ _ _ _ Hr.out.1.symm (by rw[Hr.out.2,g1,g2];rfl) (Ba _))
  |true=>
   go_enter func244,ntmps244;go_wp2;exact bodyPost_ret (v:=.tuple #[.agg #[.bool true,.bool true,.bool true,.bool false],.bool true]) (by simp[results,Tryz.results244,go_sem];done) rfl (HF.out _ _ _ _ _ _ Hr.out.1.symm (by rw[Hr.out.2,g1,g2];rfl) (Ba _))
theorem uses(op:Int)(o0:0≤op)(o1:op≤255)(w:World):Calls Tryz.prog 244 #[.int .u8 op] w (UsesPost op w):=
 if h:_ then uses_at op h w else uses_else op o0 o1 h w
theorem register(n:Int)(u:Bool)(n0:0≤n)(n1:n≤255)(w:World):Calls Tryz.prog 245 #[.int .u8 n,.bool u] w fun e w'=>e=.returned (.bool (fitV n u))∧w=w':=by
 unfold fitV;cases hn:(n == 0)<;>cases u
 all_goals
  go_enter func245,ntmps245;go_wp2;go_ret;exact⟨rfl,rfl⟩
end Go.Proofs.YtnpicaigdfnmfaaGreat.Ins
namespace Go.Proofs.YtnpicaigdfnmfaaGreat.Ins
open Go.RowKit Word
theorem cells5''(w:World)(a b c d e:Value)(t:TypeId)(i:Nat):(w.alloc (.cells #[a,b,c,d,e] t)).cell? ⟨w.heap.size,0+i,none⟩=[a,b,c,d,e][i]? :=by
 rw[World.cell?_alloc_mark];simp
theorem may(x:Ins)(hx:x.ok)(w:World):Calls Tryz.prog 177 #[x.val] w fun e w'=>e=.returned (.bool (mayV x))∧Below w.heap.size w w':=by
 obtain⟨op,d,a,b,imm⟩:=x;obtain⟨o0,o1,d0,d1,a0,a1,b0,b1,i0,i1⟩:=hx;simp only at o0 o1 d0 d1 a0 a1 b0 b1 i0 i1;have hE:mayV ⟨op,d,a,b,imm⟩=(isV op&&fitV d (hasV op 1)&&fitV a (hasV op 2)&&fitV b (hasV op 4)&&(hasV op 8||imm == 0)):=rfl;have hu:=uses op o0 o1;have hrow:isV op=true→rowV op=.agg #[.bool (hasV op 1),.bool (hasV op 2),.bool (hasV op 4),.bool (hasV op 8)]:=fun h=>by
  unfold rowV;unfold isV at h;rw[if_neg (by simpa using h)]
 have hrow0:isV op=false→rowV op=.agg #[.bool true,.bool true,.bool true,.bool false]:=fun h=>by
  unfold rowV;unfold isV at h;rw[if_pos (by simpa using h)]
 generalize mayV ⟨op,d,a,b,imm⟩=E at*;have HE:=Lh hE;have HU:Hid (∀w0,Calls Tryz.prog 244 #[.int .u8 op] w0 fun e w'=>e=.returned (.tuple #[rowV op,.bool (isV op)])∧Below w0.heap.size w0 w'):=Lh fun w0=>hu w0
 generalize isV op=is at*;generalize rowV op=row at*;have H1:=Lh (register d (hasV op 1) d0 d1);have H2:=Lh (register a (hasV op 2) a0 a1);have H3:=Lh (register b (hasV op 4) b0 b1);have hbW:Below w.heap.size w (w.alloc (.cells #[.int .u8 op,.int .u8 d,.int .u8 a,.int .u8 b,.int .u32 imm] 116)):=Ba _;have HB:=Lh hbW;have HX:Hid (∀w1,Below (w.heap.size+1) (w.alloc (.cells #[.int .u8 op,.int .u8 d,.int .u8 a,.int .u8 b,.int .u32 imm] 116)) w1→w1.cell? ⟨w.heap.size,1,none⟩=some (.int .u8 d)∧w1.cell? ⟨w.heap.size,2,none⟩=some (.int .u8 a)∧w1.cell? ⟨w.heap.size,3,none⟩=some (.int .u8 b)∧w1.cell? ⟨w.heap.size,4,none⟩=some (.int .u32 imm)):=Lh fun w1 hb=>by
  have hcs:=cells5'' w (.int .u8 op) (.int .u8 d) (.int .u8 a) (.int .u8 b) (.int .u32 imm) 116;have e:∀j,w1.cell? ⟨w.heap.size,j,none⟩=(w.alloc (.cells #[.int .u8 op,.int .u8 d,.int .u8 a,.int .u8 b,.int .u32 imm] 116)).cell? ⟨w.heap.size,j,none⟩:=fun j=>World.cell?_of_block (hb.block _ (by simp only;omega))
  exact⟨(e 1).trans (hcs 1),(e 2).trans (hcs 2),(e 3).trans (hcs 3),(e 4).trans (hcs 4)⟩
 have hmf:=hasV op 1;generalize hasV op 1=f1 at*;generalize hasV op 2=f2 at*;generalize hasV op 4=f4 at*;generalize hasV op 8=f8 at*;generalize fitV d f1=fd at*;generalize fitV a f2=fa at*;generalize fitV b f4=fb at*;clear hu hE hbW hmf;unfold val;simp only;go_enter func177,ntmps177;go_wp2_with fail;refine(HU.out _).mono ?_;rintro e w1 ⟨rfl,hb1⟩;have hq:=HX.out w1 (by simpa using hb1);have HB1:=Lh (bQ HB.out hb1);have hlt:w.heap.size<w1.heap.size:=by have:=hb1.size;simp at this;omega
 obtain⟨k1,k2,k3,k4⟩:=hq;clear hb1 HX HB HU;have HF:Hid (∀V,Below w1.heap.size w1 V→Below w.heap.size w V):=Lh fun V hV=>bQ HB1.out hV
 cases is with
 |false=>
  rw[hrow0 rfl];clear hrow hrow0;go_wp2;go_ret;exact⟨by rw[HE.out];rfl,HF.out _ (Ba _)⟩
 |true=>
  rw[hrow rfl];clear hrow hrow0;cases fd<;>cases fa<;>cases fb<;>cases f8<;>cases him:(imm == 0)
  all_goals
   go_wp2_with (go_at_call 245;first|((with_reducible refine(H1.out _).mono ?_);rintro e w2 ⟨rfl,rfl⟩)|((with_reducible refine(H2.out _).mono ?_);rintro e w2 ⟨rfl,rfl⟩)|((with_reducible refine(H3.out _).mono ?_);rintro e w2 ⟨rfl,rfl⟩));go_ret;exact⟨by rw[HE.out];first|rfl|(rw[him];rfl),HF.out _ (Ba _)⟩
end Go.Proofs.YtnpicaigdfnmfaaGreat.Ins
namespace Go.Proofs.YtnpicaigdfnmfaaGreat
section
open Go.RowKit
variable {P:Program} {ops:Array Oper} {Q:Exit→Act→World→Prop} {md:Region.Mode} {S:World→Prop} {last:Nat}
theorem E_two{i j:Nat}{oi oj:Oper}{fuel:Nat}{listed:Array Bool}{a:Act}{w:World}(hr:Region.ready md ops listed=[i,j])(hoi:ops[i]? =some oi)(hoj:ops[j]? =some oj)
  (h:∀K':Act→World→Prop,Shut (∀a w,(i≠last→S w)→((i≠last→S w)→AnyE P md ops Q S last fuel (listed.setIfInBounds i true) a w)→K' a w)→if Region.wanted oi (yielded ops a.tmps)=true then Oper.wp P oi a w K' Q else K' (a.put oi.dst undef) w)
  (h2:∀K':Act→World→Prop,Shut (∀a w,(j≠last→S w)→((j≠last→S w)→AnyE P md ops Q S last fuel (listed.setIfInBounds j true) a w)→K' a w)→if Region.wanted oj (yielded ops a.tmps)=true then Oper.wp P oj a w K' Q else K' (a.put oj.dst undef) w):
  AnyE P md ops Q S last (fuel+1) listed a w:=by
 refine⟨fun h0=>(by rw[h0] at hr;cases hr),fun k hk=> ?_⟩;rw[hr,List.mem_cons,List.mem_singleton] at hk;rcases hk with rfl|rfl
 ·exact wpOp_step hoi (fun K' hK=>h K' (fun a w hS hW=>hK a w ⟨hS,hW hS⟩))
 ·exact wpOp_step hoj (fun K' hK=>h2 K' (fun a w hS hW=>hK a w ⟨hS,hW hS⟩))
end
namespace Ins
open Go.RowKit Word
theorem strOfNums_app(xs ys:List Int):strOfNums (xs++ys)=strOfNums xs++strOfNums ys:=by
 apply ByteArray.ext
 apply Array.toList_inj.1
 rw[ByteArray.data_append,Array.toList_append,strOfNums_data,strOfNums_data,strOfNums_data,List.map_append]
theorem u8str(W:World)(g:Nat)(a b c d:Int)(h:W.heap[g]? =some (.cells #[.int .u8 a,.int .u8 b,.int .u8 c,.int .u8 d] 5 (0,0))):
  (convert 43 9 (.slice (some ⟨g,0,none⟩) 4 4)).run Tryz.prog W=.ok (.string (strOfNums [a,b,c,d])) W:=by
 refine run_convert_bytes_arg W 43 5 Tryz.underlying43 Tryz.underlying5 g 0 4 4 [a,b,c,d] rfl (fun i hi=> ?_) 9 Tryz.underlying9;unfold World.cell?;rw[h];have:i=0∨i=1∨i=2∨i=3:=by omega
 rcases this with rfl|rfl|rfl|rfl<;>rfl
theorem encode_yes(x:Ins)(hx:x.ok)(hm:mayV x=true)(w:World):Calls Tryz.prog 129 #[x.val] w fun e w'=>e=.returned (.tuple #[.string (encS x),.int .i64 0])∧Below w.heap.size w w':=by
 have hsm:=may_small hm hx;have hmay:=may x hx;have hS:encS x=strOfNums [x.op,x.d+16*x.a,x.b,0]++putS x.imm 4:=by
  unfold encS;rw[if_pos hm];unfold encL putS;rw[strOfNums_app];rfl
 rw[hS];clear hS;obtain⟨op,d,a,b,imm⟩:=x;obtain⟨o0,o1,d0,d1,a0,a1,b0,b1,i0,i1⟩:=hx;obtain⟨s1,s2,s3,s4,s5,s6⟩:=hsm;simp only at o0 o1 d0 d1 a0 a1 b0 b1 i0 i1 s1 s2 s3 s4 s5 s6;have hw1:IntKind.u8.wrap (16*a)=16*a:=by rw[IntKind.wrap_u8];omega
 have hw2:IntKind.u8.wrap (d+16*a)=d+16*a:=by rw[IntKind.wrap_u8];omega
 have hw3:16*a % 256=16*a:=by omega
 have hw4:(d+16*a) % 256=d+16*a:=by omega
 have hbW:Below w.heap.size w (w.alloc (.cells #[.int .u8 op,.int .u8 d,.int .u8 a,.int .u8 b,.int .u32 imm] 116)):=Ba _;have HB:=Lh hbW;have hcs:=cells5'' w (.int .u8 op) (.int .u8 d) (.int .u8 a) (.int .u8 b) (.int .u32 imm) 116;have HX:Hid (∀w1,Below (w.heap.size+1) (w.alloc (.cells #[.int .u8 op,.int .u8 d,.int .u8 a,.int .u8 b,.int .u32 imm] 116)) w1→w1.cell? ⟨w.heap.size,0,none⟩=some (.int .u8 op)∧w1.cell? ⟨w.heap.size,1,none⟩=some (.int .u8 d)∧w1.cell? ⟨w.heap.size,2,none⟩=some (.int .u8 a)∧w1.cell? ⟨w.heap.size,3,none⟩=some (.int .u8 b)∧w1.cell? ⟨w.heap.size,4,none⟩=some (.int .u32 imm)):=Lh fun w1 hb=>by
  have e:∀j,w1.cell? ⟨w.heap.size,j,none⟩=(w.alloc (.cells #[.int .u8 op,.int .u8 d,.int .u8 a,.int .u8 b,.int .u32 imm] 116)).cell? ⟨w.heap.size,j,none⟩:=fun j=>World.cell?_of_block (hb.block _ (by simp only;omega))
  exact⟨(e 0).trans (hcs 0),(e 1).trans (hcs 1),(e 2).trans (hcs 2),(e 3).trans (hcs 3),(e 4).trans (hcs 4)⟩
 have HM:Hid (∀W,Calls Tryz.prog 177 #[.agg #[.int .u8 op,.int .u8 d,.int .u8 a,.int .u8 b,.int .u32 imm]] W fun e w'=>e=.returned (.bool true)∧Below W.heap.size W w'):=Lh fun W=>by have h:=hmay W;rw[hm] at h;exact h
 have HBy:=Lh (WordRef.Bytes imm 4 (by omega) i0 i1);have HFin:Hid (∀w',Below w.heap.size w w'→(fun e w'=>e=Ending.returned (.tuple #[.string (strOfNums [op,d+16*a,b,0]++putS imm 4),.int .i64 0])∧Below w.heap.size w w') (.returned (.tuple #[.string (strOfNums [op,d+16*a,b,0]++putS imm 4),.int .i64 0])) w'):=Lh fun w' g=>⟨rfl,g⟩
 generalize (fun e w'=>e=Ending.returned (.tuple #[.string (strOfNums [op,d+16*a,b,0]++putS imm 4),.int .i64 0])∧Below w.heap.size w w')=PQ at*;clear hbW hcs hmay hm;unfold val;simp only;go_enter func129,ntmps129;go_wp2_with fail;refine(HM.out _).mono ?_;rintro e w1 ⟨rfl,hb1⟩;have hk:=HX.out w1 (by simpa using hb1);have HB1:=Lh (bQ HB.out hb1);have hlt:w.heap.size<w1.heap.size:=by have:=hb1.size;simp at this;omega
 have HS:Hid (∀V,Below w1.heap.size w1 V→V.cell? ⟨w.heap.size,0,none⟩=some (.int .u8 op)∧V.cell? ⟨w.heap.size,1,none⟩=some (.int .u8 d)∧V.cell? ⟨w.heap.size,2,none⟩=some (.int .u8 a)∧V.cell? ⟨w.heap.size,3,none⟩=some (.int .u8 b)∧V.cell? ⟨w.heap.size,4,none⟩=some (.int .u32 imm)):=Lh fun V hV=>by
  have e:∀j,V.cell? ⟨w.heap.size,j,none⟩=w1.cell? ⟨w.heap.size,j,none⟩:=fun j=>World.cell?_of_block (hV.block _ hlt)
  obtain⟨k0,k1,k2,k3,k4⟩:=hk;exact⟨(e 0).trans k0,(e 1).trans k1,(e 2).trans k2,(e 3).trans k3,(e 4).trans k4⟩
 clear hb1 HX HB HM hk hlt;go_wp2_with fail;refine wp_region_E (fun w'=>w'.cell? ⟨w.heap.size,0,none⟩=some (.int .u8 op)∧w'.cell? ⟨w.heap.size,1,none⟩=some (.int .u8 d)∧w'.cell? ⟨w.heap.size,2,none⟩=some (.int .u8 a)∧w'.cell? ⟨w.heap.size,3,none⟩=some (.int .u8 b)∧w'.cell? ⟨w.heap.size,4,none⟩=some (.int .u32 imm)) 17 (by kernel_rfl) ?_;have hB0:Below w1.heap.size w1 w1.drew:=(Below.refl _ w1).drew;have h0:=HS.out _ hB0;refine LT 0 h0 ?_;refine LT 1 h0 ?_;refine LT 2 h0 ?_;refine LT 3 h0 ?_;refine LT 4 h0 ?_;refine LT 5 h0 ?_;refine LT 6 h0 ?_;refine LT 7 h0 ?_;refine LT 8 h0 ?_;refine LT 9 h0 ?_;refine LT 12 h0 ?_;refine LT 13 h0 ?_;refine E_two (i:=10) (j:=14) (by kernel_rfl) rfl rfl (fun K hK=> ?_) (fun K hK=> ?_)
 ·go_simp;have hB1:=((Below.refl _ w1).alloc (Nat.le_refl _) (.cells #[.int .u8 op,.int .u8 (d+16*a),.int .u8 b,.int .u8 0] 5)).drew;have h1:=HS.out _ hB1;refine LV hK (fun _=>h1) ?_;clear hK K;have hX:(w1.alloc (.cells #[.int .u8 op,.int .u8 (d+16*a),.int .u8 b,.int .u8 0] 5)).drew.heap[w1.heap.size]? =some (.cells #[.int .u8 op,.int .u8 (d+16*a),.int .u8 b,.int .u8 0] 5 (0,0)):=heap_alloc_new w1 _;refine E_two (i:=11) (j:=14) (by kernel_rfl) rfl rfl (fun K hK=> ?_) (fun K hK=> ?_)
  ·have hcv:=u8str (w1.alloc (.cells #[.int .u8 op,.int .u8 (d+16*a),.int .u8 b,.int .u8 0] 5)).drew w1.heap.size op (d+16*a) b 0 hX;go_simp;refine LV hK (fun _=>h1) ?_;clear hK K;refine LU 14 fun K hK=> ?_
   go_simp;go_at_call 178;refine(HBy.out _).mono ?_;rintro e w2 ⟨rfl,hq⟩;have hB2:Below w1.heap.size w1 w2:=hB1.trans (hq.mono (by have:=hB1.size;first|exact this|simpa using this));have h2:=HS.out _ hB2;refine LV hK (fun _=>h2) ?_;clear hK K;refine LU 15 fun K hK=> ?_
   go_simp;refine LV hK (fun _=>h2) ?_;clear hK K;refine LU 16 fun K hK=> ?_
   go_simp;refine LV hK (fun _=>h2) ?_;clear hK K;refine LU 17 fun K hK=> ?_
   go_simp;refine LV hK (fun _=>h2) ?_;clear hK K;refine E_done (by kernel_rfl) ?_ _;have HBz:=Lh (HB1.out.trans (hB2.mono HB1.out.size));go_wp2
   first|go_ret2|skip
   exact HFin.out _ HBz.out
  ·go_simp;go_at_call 178;refine(HBy.out _).mono ?_;rintro e w2 ⟨rfl,hq⟩;have hB2:Below w1.heap.size w1 w2:=hB1.trans (hq.mono (by have:=hB1.size;first|exact this|simpa using this));have h2:=HS.out _ hB2;refine LV hK (fun _=>h2) ?_;clear hK K;have hX2:=(hq.block w1.heap.size (by simp)).trans hX;refine LU 11 fun K hK=> ?_
   have hcv:=u8str w2 w1.heap.size op (d+16*a) b 0 hX2;go_simp;refine LV hK (fun _=>h2) ?_;clear hK K;refine LU 15 fun K hK=> ?_
   go_simp;refine LV hK (fun _=>h2) ?_;clear hK K;refine LU 16 fun K hK=> ?_
   go_simp;refine LV hK (fun _=>h2) ?_;clear hK K;refine LU 17 fun K hK=> ?_
   go_simp;refine LV hK (fun _=>h2) ?_;clear hK K;refine E_done (by kernel_rfl) ?_ _;have HBz:=Lh (HB1.out.trans (hB2.mono HB1.out.size));go_wp2
   first|go_ret2|skip
   exact HFin.out _ HBz.out
 ·go_simp;go_at_call 178;refine(HBy.out _).mono ?_;rintro e w2 ⟨rfl,hq⟩;have hB1:Below w1.heap.size w1 w2:=hB0.trans (hq.mono (by have:=hB0.size;first|exact this|simpa using this));have h1:=HS.out _ hB1;refine LV hK (fun _=>h1) ?_;clear hK K;refine LU 10 fun K hK=> ?_
  go_simp;have hB2:=hB1.alloc (by have:=hB1.size;first|exact this|simpa using this) (.cells #[.int .u8 op,.int .u8 (d+16*a),.int .u8 b,.int .u8 0] 5);have h2:=HS.out _ hB2;refine LV hK (fun _=>h2) ?_;clear hK K;have hX:(w2.alloc (.cells #[.int .u8 op,.int .u8 (d+16*a),.int .u8 b,.int .u8 0] 5)).heap[w2.heap.size]? =some (.cells #[.int .u8 op,.int .u8 (d+16*a),.int .u8 b,.int .u8 0] 5 (0,0)):=heap_alloc_new w2 _;refine LU 11 fun K hK=> ?_
  have hcv:=u8str (w2.alloc (.cells #[.int .u8 op,.int .u8 (d+16*a),.int .u8 b,.int .u8 0] 5)) w2.heap.size op (d+16*a) b 0 hX;go_simp;refine LV hK (fun _=>h2) ?_;clear hK K;refine LU 15 fun K hK=> ?_
  go_simp;refine LV hK (fun _=>h2) ?_;clear hK K;refine LU 16 fun K hK=> ?_
  go_simp;refine LV hK (fun _=>h2) ?_;clear hK K;refine LU 17 fun K hK=> ?_
  go_simp;refine LV hK (fun _=>h2) ?_;clear hK K;refine E_done (by kernel_rfl) ?_ _;have HBz:=Lh (HB1.out.trans (hB2.mono HB1.out.size));go_wp2
  first|go_ret2|skip
  exact HFin.out _ HBz.out
theorem encode_no(x:Ins)(hx:x.ok)(hm:mayV x=false)(w:World):Calls Tryz.prog 129 #[x.val] w fun e w'=>e=.returned (.tuple #[.string ByteArray.empty,.int .i64 2])∧Below w.heap.size w w':=by
 have hmay:=may x hx;rw[hm] at hmay;obtain⟨op,d,a,b,imm⟩:=x;have hbW:Below w.heap.size w (w.alloc (.cells #[.int .u8 op,.int .u8 d,.int .u8 a,.int .u8 b,.int .u32 imm] 116)):=Ba _;have HB:=Lh hbW;have HM:=Lh hmay;clear hmay hm hx hbW;unfold val at HM⊢;simp only at HM⊢;go_enter func129,ntmps129;go_wp2_with fail;refine(HM.out _).mono ?_;rintro e w1 ⟨rfl,hb1⟩;have HB1:=Lh (bQ HB.out hb1);clear hb1;go_wp2;go_ret2;exact⟨rfl,HB1.out⟩
theorem encode(x:Ins)(hx:x.ok)(w:World):Calls Tryz.prog 129 #[x.val] w fun e w'=>e=.returned (.tuple #[.string (encS x),.int .i64 (encE x)])∧Below w.heap.size w w':=by
 cases hm:mayV x with
 |true=>
  have e:encE x=0:=by unfold encE;rw[if_pos hm]
  rw[e];exact encode_yes x hx hm w
 |false=>
  have e:encE x=2:=by unfold encE;rw[hm];rfl
  have e2:encS x=ByteArray.empty:=by unfold encS;rw[hm];rfl
  rw[e,e2];exact encode_no x hx hm w
end Ins
open Go.RowKit Word
namespace Cp
def z8:List Int:=List.replicate 8 0
theorem z8_len:z8.length=8:=rfl
def insB(x:Ins):List Int:=if Ins.mayV x then Ins.encL x else z8
def textL(f:Nat→Ins):Nat→List Int
 |0=>[]
 |k+1=>textL f k++insB (f k)
theorem textL_len(f:Nat→Ins)(k:Nat):(textL f k).length=8*k:=by
 induction k with
 |zero=>rfl
 |succ k ih=>
  unfold textL;rw[List.length_append,ih];unfold insB
  split
  ·rw[Ins.encL_len];omega
  ·rw[z8_len];omega
theorem szN(xs:List Int):(strOfNums xs).size=xs.length:=by
 show(strOfNums xs).data.size=_
 rw[←Array.length_toList,strOfNums_data,List.length_map]
structure InsAt(w:World)(b off i:Nat)(x:Ins):Prop where
 c0:w.cell? ⟨b,off+i*5,none⟩=some (.int .u8 x.op)
 c1:w.cell? ⟨b,off+i*5+1,none⟩=some (.int .u8 x.d)
 c2:w.cell? ⟨b,off+i*5+2,none⟩=some (.int .u8 x.a)
 c3:w.cell? ⟨b,off+i*5+3,none⟩=some (.int .u8 x.b)
 c4:w.cell? ⟨b,off+i*5+4,none⟩=some (.int .u32 x.imm)
theorem InsAt.below{w w':World}{b off i:Nat}{x:Ins}{B:Nat}(h:InsAt w b off i x)(hb:Below B w w')(hB:b<B):InsAt w' b off i x:=by
 have e:∀j,w'.cell? ⟨b,j,none⟩=w.cell? ⟨b,j,none⟩:=fun j=>World.cell?_of_block (hb.block _ hB)
 exact⟨(e _).trans h.c0,(e _).trans h.c1,(e _).trans h.c2,(e _).trans h.c3,(e _).trans h.c4⟩
theorem InsAt.lt{w:World}{b off i:Nat}{x:Ins}(h:InsAt w b off i x):b<w.heap.size:=by
 have:=h.c0;unfold World.cell? at this;cases hg:w.heap[b]? with
 |none=>rw[hg] at this;cases this
 |some _=>exact lQ hg
def Code(w:World)(a:Option Addr)(n:Nat)(f:Nat→Ins):Prop:=0<n→∃b off,a=some ⟨b,off,none⟩∧∀i,i<n→InsAt w b off i (f i)
theorem Code.below{w w':World}{a:Option Addr}{n:Nat}{f:Nat→Ins}(h:Code w a n f)(hb:Below w.heap.size w w'):Code w' a n f:=fun hn=>by
 obtain⟨b,off,e,hc⟩:=h hn;exact⟨b,off,e,fun i hi=>(hc i hi).below hb (hc i hi).lt⟩
def txRel(w:World)(f:Nat→Ins)(n:Nat)(vs vi:Value)(wr:World):Prop:=
 ∃k:Nat,k≤n∧vi=.int .i64 k∧vs=.string (strOfNums (textL f k))∧Below w.heap.size w wr
theorem zero8(W:World)(b:Nat)(h:W.heap[b]? =some (.cells (Sp.fillL [] 8).toArray 5 (0,0))):
  (convert 43 9 (.slice (some ⟨b,0,none⟩) 8 8)).run Tryz.prog W=.ok (.string (strOfNums (z8))) W:=by
 refine run_convert_bytes_arg W 43 5 Tryz.underlying43 Tryz.underlying5 b 0 8 8 (z8) rfl (fun i hi=> ?_) 9 Tryz.underlying9;unfold World.cell?;rw[h,Sp.fillL_zero];have:i=0∨i=1∨i=2∨i=3∨i=4∨i=5∨i=6∨i=7:=by omega
 rcases this with rfl|rfl|rfl|rfl|rfl|rfl|rfl|rfl<;>rfl
theorem text(w:World)(a:Option Addr)(n cap:Nat)(f:Nat→Ins)(hc:Code w a n f)(hok:∀i,i<n→(f i).ok)(hn:n≤1000):
  Calls Tryz.prog 82 #[.slice a n cap] w fun e w'=>e=.returned (.string (strOfNums (textL f n)))∧Below w.heap.size w w':=by
 have HC:=Lh hc;have HO:=Lh hok;clear hc hok;go_enter func82,ntmps82;go_wp2;go_loopw [3,4] (fun vs vi wr=>txRel w f n vs vi wr) (fun _ vi _=>n - (intOf vi).toNat)
 case atStart=>exact⟨0,Nat.zero_le _,by go_num,rfl,Below.refl _ _⟩
 case round=>
  obtain⟨k,hk,rfl,rfl,hb⟩:=hrel
  by_cases hk2:k<n
  ·obtain⟨b,off,rfl,hcl⟩:=HC.out (by omega);have hia:=(hcl k hk2).below hb (hcl k hk2).lt;have hxo:=HO.out k hk2;have he:=Ins.encode (f k) hxo wr;have hT:textL f (k+1)=textL f k++insB (f k):=rfl;generalize f k=x at*;obtain⟨c0,c1,c2,c3,c4⟩:=hia;have HE:=Lh he;have HB:=Lh hb;have HT:=Lh hT;clear hcl he hb hT hxo;obtain⟨op,d,a,b',imm⟩:=x;simp only at c0 c1 c2 c3 c4;cases hm:Ins.mayV ⟨op,d,a,b',imm⟩ with
   |true=>
    have e1:Ins.encE ⟨op,d,a,b',imm⟩=0:=by unfold Ins.encE;rw[hm];rfl
    have e2:Ins.encS ⟨op,d,a,b',imm⟩=strOfNums (Ins.encL ⟨op,d,a,b',imm⟩):=by unfold Ins.encS;rw[if_pos hm]
    have e3:insB ⟨op,d,a,b',imm⟩=Ins.encL ⟨op,d,a,b',imm⟩:=by unfold insB;rw[if_pos hm]
    rw[e3] at HT;rw[e1,e2] at HE;clear e1 e2 e3 hm;unfold Ins.val at HE;simp only at HE;go_wp2_with fail;refine HE.out.mono ?_;rintro e w1 ⟨rfl,hb1⟩;have HB1:=Lh (HB.out.trans (hb1.mono HB.out.size));clear hb1;have hz1:((strOfNums (textL f k)).size:Int)≤8388608:=by rw[szN,textL_len];omega
    have hz2:((strOfNums (Ins.encL ⟨op,d,a,b',imm⟩)).size:Int)≤8388608:=by rw[szN,Ins.encL_len];omega
    go_wp2;refine⟨⟨k+1,by omega,by go_num, ?_,HB1.out⟩,by simp[intOf];omega⟩;rw[HT.out,Ins.strOfNums_app]
   |false=>
    have e1:Ins.encE ⟨op,d,a,b',imm⟩=2:=by unfold Ins.encE;rw[hm];rfl
    have e3:insB ⟨op,d,a,b',imm⟩=z8:=by unfold insB;rw[hm];rfl
    rw[e3] at HT;rw[e1] at HE;clear e1 e3 hm;unfold Ins.val at HE;simp only at HE;go_wp2_with fail;refine HE.out.mono ?_;rintro e w1 ⟨rfl,hb1⟩;have HB1:=Lh (HB.out.trans (hb1.mono HB.out.size));clear hb1;have hmk:(Instr.makeSlice 43 (.int .i64 8) (.int .i64 8)).run Tryz.prog w1=.ok (.slice (some ⟨w1.heap.size,0,none⟩) 8 8) (w1.alloc (.cells (Sp.fillL [] 8).toArray 5)):=Sp.run_made 8 (by omega) w1;have hz1:((strOfNums (textL f k)).size:Int)≤8388608:=by rw[szN,textL_len];omega
    have hz2:((strOfNums (z8)).size:Int)≤8388608:=by rw[szN,z8_len];omega
    have hcv:=zero8 (w1.alloc (.cells (Sp.fillL [] 8).toArray 5)) w1.heap.size (heap_alloc_new w1 _);go_wp2;refine⟨⟨k+1,by omega,by go_num, ?_,HB1.out.alloc HB1.out.size _⟩,by simp[intOf];omega⟩;rw[HT.out,Ins.strOfNums_app]
  ·obtain rfl:k=n:=by omega
   have HB:=Lh hb;clear hb;go_wp2;go_ret;exact⟨rfl,HB.out⟩
end Cp
open Go.RowKit Word
namespace Cp
def RowN(k:IntKind)(w:World)(a:Option Addr)(n:Nat)(f:Nat→Int):Prop:=0<n→∃b off,a=some ⟨b,off,none⟩∧b<w.heap.size∧∀i,i<n→w.cell? ⟨b,off+i,none⟩=some (.int k (f i))
structure St where
 ra:Option Addr
 rn:Nat
 rcap:Nat
 rf:Nat→Int
 pc:Int
 pa:Option Addr
 pn:Nat
 pcap:Nat
 pf:Nat→Int
 at':Int
 ca:Option Addr
 cn:Nat
 ccap:Nat
 cf:Nat→Ins
 wh:Int
 text:ByteArray
def St.cells(x:St):Array Value:= #[.slice x.ra x.rn x.rcap,.int .u32 x.pc,.slice x.pa x.pn x.pcap,.int .u16 x.at',.slice x.ca x.cn x.ccap,.int .u16 x.wh,.string x.text]
structure St.ok(w:World)(x:St):Prop where
 rrow:RowN .u32 w x.ra x.rn x.rf
 rbd:∀i,i<x.rn→0≤x.rf i∧x.rf i≤4294967295
 rlen:x.rn≤9223372036854775807
 p0:0≤x.pc
 p1:x.pc≤4294967295
 prow:RowN .u8 w x.pa x.pn x.pf
 pbd:∀i,i<x.pn→0≤x.pf i∧x.pf i≤255
 plen:x.pn≤16
 a0:0≤x.at'
 a1:x.at'≤65535
 crow:Code w x.ca x.cn x.cf
 cbd:∀i,i<x.cn→(x.cf i).ok
 clen:x.cn≤1000
 w0:0≤x.wh
 w1:x.wh≤65535
 tlen:x.text.size≤65536
def St.regs(x:St):List Int:=regsK x.rf (min x.rn 16)
def St.pgs(x:St):List Pg:=madeA x.pf x.pn x.at' (strOfNums (textL x.cf x.cn)) x.wh x.text
def MadePost(w:World)(x:St)(e:Ending)(w':World):Prop:=
 ∃(cb sb mb:Nat) (A:List Pg) (db rb:Nat) (lv:Value) (R:List Rp),e=.returned (.tuple #[.pointer (some ⟨cb,0,none⟩),.pointer (some ⟨sb,0,none⟩),.pointer (some ⟨db,0,none⟩),.pointer (some ⟨rb,0,none⟩),.bool true])∧
  Duo w w' cb sb mb A x.regs x.pc db rb lv R x.regs x.pc∧cores A=cores (rpgs R)∧cores A=cores x.pgs
structure StBox(w:World)(b:Nat)(x:St):Prop where
 blk:w.heap[b]? =some (.cells x.cells 46 (0,0))
theorem StBox.cells{w:World}{b:Nat}{x:St}(h:StBox w b x):w.cell? ⟨b,0,none⟩=some (.slice x.ra x.rn x.rcap)∧w.cell? ⟨b,1,none⟩=some (.int .u32 x.pc)∧w.cell? ⟨b,2,none⟩=some (.slice x.pa x.pn x.pcap)∧w.cell? ⟨b,3,none⟩=some (.int .u16 x.at')∧w.cell? ⟨b,4,none⟩=some (.slice x.ca x.cn x.ccap)∧w.cell? ⟨b,5,none⟩=some (.int .u16 x.wh)∧w.cell? ⟨b,6,none⟩=some (.string x.text):=by
 unfold World.cell?;rw[h.blk];exact⟨rfl,rfl,rfl,rfl,rfl,rfl,rfl⟩
theorem StBox.below{w w':World}{b:Nat}{x:St}{B:Nat}(h:StBox w b x)(hb:Below B w w')(hB:b<B):StBox w' b x:=⟨(hb.block _ hB).trans h.blk⟩
def m1Rel(w0:World)(x:St)(cb sb mb db rb:Nat)(vi:Value)(wr:World):Prop:=
 ∃k:Nat,k≤x.rn∧k≤16∧vi=.int .i64 k∧Duo w0 wr cb sb mb [] (regsK x.rf k) x.pc db rb (.slice none 0 0) [] (regsK x.rf k) x.pc
def m2Rel(w0:World)(x:St)(cb sb mb db rb:Nat)(vi:Value)(wr:World):Prop:=
 ∃(k:Nat) (A:List Pg) (lv:Value) (R:List Rp),k≤x.pn∧vi=.int .i64 k∧Duo w0 wr cb sb mb A x.regs x.pc db rb lv R x.regs x.pc∧cores A=cores (rpgs R)∧cores A=cores (pgsK x.pf k)
theorem made(w:World)(x:St)(hx:x.ok w):Calls Tryz.prog 43 #[.agg x.cells] w (MadePost w x):=by
 have HFin:Hid (∀(cb sb mb:Nat) (A:List Pg) (db rb:Nat) (lv:Value) (R:List Rp) w',Duo w w' cb sb mb A x.regs x.pc db rb lv R x.regs x.pc→cores A=cores (rpgs R)→cores A=cores x.pgs→MadePost w x (.returned (.tuple #[.pointer (some ⟨cb,0,none⟩),.pointer (some ⟨sb,0,none⟩),.pointer (some ⟨db,0,none⟩),.pointer (some ⟨rb,0,none⟩),.bool true])) w'):=
  Lh fun cb sb mb A db rb lv R w' h1 h2 h3=>⟨cb,sb,mb,A,db,rb,lv,R,rfl,h1,h2,h3⟩
 generalize MadePost w x=PQ at*;have HX:=Lh hx;have hp0:=hx.p0;have hp1:=hx.p1;generalize hW:w.alloc (.cells x.cells 46)=W;have hb:Below w.heap.size w W:=by rw[←hW];exact Ba _
 have hbx:StBox W w.heap.size x:=by rw[←hW];exact⟨heap_alloc_new w _⟩
 have hsz:W.heap.size=w.heap.size+1:=by rw[←hW];simp
 have HB:=Lh hb;have HBx:=Lh hbx;obtain⟨b0,b1,b2,b3,b4,b5,b6⟩:=hbx.cells;clear hb hbx hx;unfold St.cells at hW⊢;go_enter func43,ntmps43;go_wp2_with fail;refine(new x.pc hp0 hp1 W).mono ?_;rintro e w1 ⟨rfl,hc1,hb1⟩;have hz1:=hb1.size;have HC1:=Lh hc1;have hlt1:=hc1.lt;have HB1:=Lh hb1;have HBx1:=Lh (HBx.out.below hb1 (by omega));clear hc1 hb1 b0 b1 b2 b3 b4 b5 b6;go_wp2_with fail;refine(Sp.new w1).mono ?_;rintro e w2 ⟨rfl,hs2,hb2,hz2⟩;have hz2':=hb2.size;have HS2:=Lh hs2;have HB2:=Lh (HB1.out.trans (hb2.mono HB1.out.size));have HC2:=Lh (HC1.out.below hb2);have hbx2:=HBx1.out.below hb2 (by omega);obtain⟨b0,b1,b2,b3,b4,b5,b6⟩:=hbx2.cells;have HBx2:=Lh hbx2;clear hs2 hb2 hbx2 HBx1 HC1 HB1;go_wp2;have hD:Duo W ((w2.alloc (.cells #[.int .u32 0,.int .u32 0,.int .u32 0,.int .u32 0,.int .u32 0,.int .u32 0,.int .u32 0,.int .u32 0,.int .u32 0,.int .u32 0,.int .u32 0,.int .u32 0,.int .u32 0,.int .u32 0,.int .u32 0,.int .u32 0,.int .u32 x.pc] 198)).alloc (.cells #[.slice none 0 0] 201))
   (w.heap.size+1) (w1.heap.size+1) w1.heap.size [] (List.replicate 16 0) x.pc (w1.heap.size+2) (w1.heap.size+2+1) (.slice none 0 0) [] (List.replicate 16 0) x.pc:=by
  have hb4:Below w2.heap.size w2 ((w2.alloc (.cells #[.int .u32 0,.int .u32 0,.int .u32 0,.int .u32 0,.int .u32 0,.int .u32 0,.int .u32 0,.int .u32 0,.int .u32 0,.int .u32 0,.int .u32 0,.int .u32 0,.int .u32 0,.int .u32 0,.int .u32 0,.int .u32 0,.int .u32 x.pc] 198)).alloc (.cells #[.slice none 0 0] 201)):=(Ba _).alloc (by simp) _;have hl:=HS2.out.lt (.inl rfl);have hc1:=HC2.out.lt;have hd:Cpu 198 ((w2.alloc (.cells #[.int .u32 0,.int .u32 0,.int .u32 0,.int .u32 0,.int .u32 0,.int .u32 0,.int .u32 0,.int .u32 0,.int .u32 0,.int .u32 0,.int .u32 0,.int .u32 0,.int .u32 0,.int .u32 0,.int .u32 0,.int .u32 0,.int .u32 x.pc] 198)).alloc (.cells #[.slice none 0 0] 201)) (w1.heap.size+2) (List.replicate 16 0) x.pc:=by
   refine⟨?_,⟨rfl,fun x hx=> ?_⟩,hp0,hp1⟩
   ·rw[←hz2,Below.heap_alloc _ _ _ (by simp)];exact heap_alloc_new w2 _
   ·have:=List.eq_of_mem_replicate hx;omega
  have hr:=heap_alloc_new (w2.alloc (.cells #[.int .u32 0,.int .u32 0,.int .u32 0,.int .u32 0,.int .u32 0,.int .u32 0,.int .u32 0,.int .u32 0,.int .u32 0,.int .u32 0,.int .u32 0,.int .u32 0,.int .u32 0,.int .u32 0,.int .u32 0,.int .u32 0,.int .u32 x.pc] 198)) (.cells #[.slice none 0 0] 201);rw[show(w2.alloc (.cells #[.int .u32 0,.int .u32 0,.int .u32 0,.int .u32 0,.int .u32 0,.int .u32 0,.int .u32 0,.int .u32 0,.int .u32 0,.int .u32 0,.int .u32 0,.int .u32 0,.int .u32 0,.int .u32 0,.int .u32 0,.int .u32 0,.int .u32 x.pc] 198)).heap.size=w1.heap.size+2+1 by simp[hz2]] at hr;have fa:∀k,Spc.foot (w1.heap.size+1) w1.heap.size [] k→k=w1.heap.size+1∨k=w1.heap.size:=fun k hk=>by
   rcases hk with g|g|⟨p,g,_⟩
   ·exact .inl g
   ·exact .inr g
   ·cases g
  have fr:∀k,Rsp.foot (w1.heap.size+2+1) (.slice none 0 0) [] k→k=w1.heap.size+2+1:=fun k hk=>by
   rcases hk with g|g|⟨q,g,_⟩
   ·exact g
   ·cases g
   ·cases g
  have hcp:=HC2.out.below hb4;rw[hsz] at hcp;refine⟨hcp,hd,⟨HS2.out.below hb4 fun _ hk=>HS2.out.lt hk,rsp_nil hr,fun k hk g=> ?_⟩,HB2.out.trans (hb4.mono HB2.out.size),by omega,by omega,fun k hk=> ?_,fun k hk=> ?_,by omega,fun g=> ?_,fun g=> ?_,fun g=> ?_,fun g=> ?_⟩
  ·have:=fa k hk;have:=fr k g;omega
  ·have:=fa k hk;omega
  ·have:=fr k hk;omega
  ·have:=fa _ g;omega
  ·have:=fr _ g;omega
  ·have:=fa _ g;omega
  ·have:=fr _ g;omega
 rw[←regsK_zero x.rf] at hD;have HD:=Lh hD;have hwl:w.heap.size<W.heap.size:=by omega
 clear hD b0 b1 b2 b3 b4 b5 b6 HBx2 HC2 HB2 HS2 hz2 hz2' hz1 hlt1 hsz hW;have HRow:Hid (∀wr,Below W.heap.size W wr→RowN .u32 wr x.ra x.rn x.rf∧RowN .u8 wr x.pa x.pn x.pf∧Code wr x.ca x.cn x.cf∧StBox wr w.heap.size x):=Lh fun wr hb=>by
  have hbw:=HB.out.trans (hb.mono HB.out.size);refine⟨fun hn=> ?_,fun hn=> ?_,HX.out.crow.below hbw,HBx.out.below hb hwl⟩
  ·obtain⟨b,off,e,hbl,hc⟩:=HX.out.rrow hn;exact⟨b,off,e,Nat.lt_of_lt_of_le hbl hbw.size,fun i hi=>(World.cell?_of_block (w:=w) (hbw.block b hbl)).trans (hc i hi)⟩
  ·obtain⟨b,off,e,hbl,hc⟩:=HX.out.prow hn;exact⟨b,off,e,Nat.lt_of_lt_of_le hbl hbw.size,fun i hi=>(World.cell?_of_block (w:=w) (hbw.block b hbl)).trans (hc i hi)⟩
 generalize w.heap.size+1=cb at*;generalize w1.heap.size+1=sb at*;generalize w1.heap.size+2+1=rb at*;generalize w1.heap.size+2=db at*;generalize w1.heap.size=mb at*;go_loopw [11] (fun vi wr=>m1Rel W x cb sb mb db rb vi wr) (fun vi _=>16 - (intOf vi).toNat)
 case atStart=>exact⟨0,Nat.zero_le _,by omega,by go_num,HD.out⟩
 case round=>
  clear HD;obtain⟨k,hk1,hk2,rfl,hd⟩:=hrel;obtain⟨hrr,_,_,hbx⟩:=HRow.out wr hd.bel;obtain⟨b0,b1,b2,b3,b4,b5,b6⟩:=hbx.cells;have hrl:=HX.out.rlen;have HDk:=Lh hd
  by_cases hk34:k<x.rn∧k<16
  ·obtain⟨hk3,hk4⟩:=hk34
   ·have hv:=HX.out.rbd k hk3;obtain⟨b,off,hra,hbl,hcl⟩:=hrr (by omega);have hcv:=hcl k hk3;rw[hra] at b0;have hks:=regsK_succ x.rf k hk4;have HR2:Hid (∀w4,Duo W w4 cb sb mb [] (regsK x.rf (k+1)) x.pc db rb (.slice none 0 0) [] (regsK x.rf k) x.pc→w4.cell? ⟨w.heap.size,0,none⟩=some (.slice (some ⟨b,off,none⟩) x.rn x.rcap)∧w4.cell? ⟨b,off+k,none⟩=some (.int .u32 (x.rf k))):=Lh fun w4 h4=>by
     obtain⟨hrr4,_,_,hbx4⟩:=HRow.out w4 h4.bel;obtain⟨b',off',hra',_,hcl'⟩:=hrr4 (by omega);rw[hra] at hra';cases hra';exact⟨hra▸hbx4.cells.1,hcl' k hk3⟩
    have Hks:=Lh hks;have Hv:=Lh hv;clear hd hrr hbx hcl hks hv hra;generalize x.rf k=v at*;go_wp2_with fail;refine(setReg_ok HDk.out.cp k hk4 v Hv.out.1 Hv.out.2).mono ?_;rintro e w4 ⟨rfl,hc4,hm4⟩;rw[Hks.out] at hc4;have hd4:=HDk.out.setC hc4 hm4;obtain⟨e0,e1⟩:=HR2.out w4 hd4;have HD4:=Lh hd4;clear hc4 hm4 hd4 HDk b0 b1 b2 b3 b4 b5 b6 hcv
    by_cases hk0:k=0
    ·subst hk0;go_wp2;refine⟨⟨1,by omega,by omega,by go_num, ?_⟩,by simp[intOf]⟩;exact HD4.out
    ·have hk5:decide (0<(k:Int))=true:=decide_eq_true (by omega);have hk6:(k:Int)<16:=by omega
     have g1:=HD4.out.dp.cellReg k hk4;have g2:=HD4.out.dp.thaw k;have HS4:=Lh (HD4.out.dp.setReg k hk4 v Hv.out.1 Hv.out.2);rw[←putG_nat _ _ _ hk0,Hks.out] at HS4;go_wp2_with fail;go_region
     all_goals
      go_wp2;refine⟨⟨k+1,by omega,by omega,by go_num, ?_⟩,by simp[intOf];omega⟩;exact(HD4.out.setD HS4.out (Mod.setCell (F:=fun j=>j=db) (Mod.refl _ _) _ (.inl rfl) _)).below (Br.drew)
  ·have hkm:k=min x.rn 16:=by omega
   have hreg:regsK x.rf k=x.regs:=by unfold St.regs;rw[hkm]
   have hor:¬(k<x.rn)∨((k:Int)<x.rn∧¬((k:Int)<16)):=by omega
   rw[hreg] at hd;have HD:=Lh hd;clear hd hrr hbx HDk hreg hkm hk34 hk1 hk2;rcases hor with hg|⟨hg,hg2⟩
   all_goals
    go_wp2_with fail;go_loopw [12] (fun vi wr=>m2Rel W x cb sb mb db rb vi wr) (fun vi _=>x.pn - (intOf vi).toNat)
    case atStart=>exact⟨0,[],_,[],Nat.zero_le _,by go_num,HD.out,rfl,rfl⟩
    case round=>
     clear HD b0 b1 b2 b3 b4 b5 b6;obtain⟨j,A,lv,R,hj,rfl,hd,he,hk⟩:=hrel;obtain⟨_,hpr,hcr,hbx⟩:=HRow.out _ hd.bel;obtain⟨b0,b1,b2,b3,b4,b5,b6⟩:=hbx.cells;have HDk:=Lh hd;have HCr:=Lh hcr;have HE:=Lh he;have HK:=Lh hk;have hpn:=HX.out.plen;clear hd he hk hbx hcr
     by_cases hj2:j<x.pn
     ·have hv:=HX.out.pbd j hj2;obtain⟨b,off,hpa,hbl,hcl⟩:=hpr (by omega);have hcv:=hcl j hj2;rw[hpa] at b2;have HR2:Hid (∀w4 A4 lv4 R4,Duo W w4 cb sb mb A4 x.regs x.pc db rb lv4 R4 x.regs x.pc→w4.cell? ⟨w.heap.size,2,none⟩=some (.slice (some ⟨b,off,none⟩) x.pn x.pcap)∧w4.cell? ⟨b,off+j,none⟩=some (.int .u8 (x.pf j))):=Lh fun w4 A4 lv4 R4 h4=>by
       obtain⟨_,hpr4,_,hbx4⟩:=HRow.out w4 h4.bel;obtain⟨b',off',hpa',_,hcl'⟩:=hpr4 (by omega);rw[hpa] at hpa';cases hpa';exact⟨hpa▸hbx4.cells.2.2.1,hcl' j hj2⟩
      have hw1:IntKind.u32.wrap (j:Int)=j:=by rw[IntKind.wrap_u32'];omega
      have hw2:IntKind.u32.wrap ((j:Int)*256)=j*256:=by rw[IntKind.wrap_u32'];omega
      have hw3:(j:Int) % 4294967296=j:=by omega
      have hw4:(j:Int)*256 % 4294967296=j*256:=by omega
      have HPs:Hid (pgsK x.pf (j+1)=if x.pf j<8 then Sp.mapA (pgsK x.pf j) (j*256) 0 (x.pf j) else pgsK x.pf j):=Lh rfl;have HFree:Hid (x.pf j<8→Sp.mapE (pgsK x.pf j) (j*256) (x.pf j)=0):=Lh fun h8=>pgsK_free x.pf j (by omega) hv.1 h8
      have Hv:=Lh hv;clear hcl hv hpa hpr;generalize x.pf j=v at*
      by_cases hv8:v<8
      ·have hE1:Sp.mapE A (j*256) v=0:=by rw[Cor.mapE HK.out];exact HFree.out hv8
       have hE2:Sp.mapE (rpgs R) (j*256) v=0:=by rw[←Cor.mapE HE.out];exact hE1
       go_wp2_with fail;refine(Sp.s_map HDk.out.pair.sp (j*256) v (by omega) (by omega) Hv.out.1 Hv.out.2).mono ?_;rintro e w4 ⟨blk,rfl,hs4⟩;rw[hE1];have hd4:=HDk.out.left hs4;obtain⟨e0,e1⟩:=HR2.out w4 _ _ _ hd4;have HD4:=Lh hd4;clear hs4 hd4 HDk b0 b1 b2 b3 b4 b5 b6 hcv;go_wp2_with fail;refine(Rs.map_any HD4.out.pair.rp (j*256) v (by omega) (by omega) Hv.out.1 Hv.out.2).mono ?_;rintro e w5 ⟨lv5,R5,blk5,rfl,hR5,hs5⟩;rw[hE2];have HD5:=Lh (HD4.out.right hs5);have HR5:=Lh hR5;clear hs5 HD4 e0 e1 hR5;go_wp2;refine⟨⟨j+1,_,lv5,R5,by omega,by go_num,HD5.out, ?_, ?_⟩,by simp[intOf];omega⟩
       ·rw[HR5.out];exact Cor.mapA HE.out _ _ _ _
       ·rw[HPs.out,if_pos hv8];exact Cor.mapA HK.out _ _ _ _
      ·have hv9:decide (v<8)=false:=decide_eq_false hv8;go_wp2;refine⟨⟨j+1,A,lv,R,by omega,by go_num,HDk.out,HE.out, ?_⟩,by simp[intOf];omega⟩;rw[HPs.out,if_neg hv8];exact HK.out
     ·obtain rfl:j=x.pn:=by omega
      have ha0:=HX.out.a0;have ha1:=HX.out.a1;have hw0:=HX.out.w0;have hw1:=HX.out.w1;have hm1:(x.at').tmod 4096=x.at' % 4096:=Int.tmod_eq_emod_of_nonneg ha0;have hm2:(x.wh).tmod 4096=x.wh % 4096:=Int.tmod_eq_emod_of_nonneg hw0;have hm3:x.at' % 4294967296=x.at':=by omega
      have hm4:x.wh % 4294967296=x.wh:=by omega
      go_wp2_with fail;go_region;go_wp2_with fail;have HT:Hid (∀V A5 lv5 R5,Duo W V cb sb mb A5 x.regs x.pc db rb lv5 R5 x.regs x.pc→V.cell? ⟨w.heap.size,6,none⟩=some (.string x.text)):=Lh fun V A5 lv5 R5 h5=>by
       obtain⟨_,_,_,hbx5⟩:=HRow.out V h5.bel;exact hbx5.cells.2.2.2.2.2.2
      refine(text _ x.ca x.cn x.ccap x.cf (HCr.out.below Br.drew) HX.out.cbd HX.out.clen).mono ?_;rintro e w5 ⟨rfl,hb5⟩;have hSsz:(strOfNums (textL x.cf x.cn)).size≤140737488355328:=by rw[szN,textL_len];have:=HX.out.clen;omega
      have hTsz:x.text.size≤140737488355328:=by have:=HX.out.tlen;omega
      have HPg:Hid (x.pgs=Sp.putA (Sp.putA (pgsK x.pf x.pn) (x.at' % 4096) 0 (strOfNums (textL x.cf x.cn))) (x.wh % 4096) 0 x.text):=Lh rfl;have hA0:0≤x.at' % 4096:=by omega
      have hA1:x.at' % 4096≤4294967295:=by omega
      have hA2:0≤x.wh % 4096:=by omega
      have hA3:x.wh % 4096≤4294967295:=by omega
      have hd5:=(HDk.out.below Br.drew).below hb5;have HD5:=Lh hd5;have hd6:=hd5.below Br.drew;have HD6:=Lh hd6;have t5:=HT.out _ _ _ _ hd5;have t6:=HT.out _ _ _ _ hd6;clear hd5 hd6 hb5 HDk b0 b1 b2 b3 b4 b5 b6 HCr hm1 hm2 hm3 hm4;generalize strOfNums (textL x.cf x.cn)=S at*;generalize x.at' % 4096=AT at*;generalize x.wh % 4096=WH at*;go_wp2_with fail;go_region_held3 (fun w'=>w'.cell? ⟨w.heap.size,6,none⟩=some (.string x.text))
       (first
        |exact t5
        |exact t6
        |exact t7
        |exact t8
        |exact t9
        |exact t10)
       (first
        |(
          go_at_call 83
          (with_reducible refine(Sp.s_set HD6.out.pair.sp AT S hA0 hA1 hSsz).mono ?_)
          rintro e w7 ⟨rfl,hs7⟩;have hd7:=HD6.out.left hs7;have t7:=HT.out _ _ _ _ hd7)
        |(
          go_at_call 84
          (with_reducible refine(Rs.put_in hd7.pair.rp AT 0 S hA0 hA1 hSsz (by omega) (by omega)).mono ?_)
          rintro e w8 ⟨R8,rfl,hR8,hs8⟩;rw[←Cor.fitsE HE.out];have he8:=Cor.putA HE.out AT 0 S;rw[←hR8] at he8;have hk8:=Cor.putA HK.out AT 0 S;have hd8:=hd7.right hs8;have t8:=HT.out _ _ _ _ hd8)
        |(
          go_at_call 83
          (with_reducible refine(Sp.s_set hd8.pair.sp WH x.text hA2 hA3 hTsz).mono ?_)
          rintro e w9 ⟨rfl,hs9⟩;have hd9:=hd8.left hs9;have t9:=HT.out _ _ _ _ hd9)
        |(
          go_at_call 84
          (with_reducible refine(Rs.put_in hd9.pair.rp WH 0 x.text hA2 hA3 hTsz (by omega) (by omega)).mono ?_)
          rintro e w10 ⟨R10,rfl,hR10,hs10⟩;rw[←Cor.fitsE he8];have he10:=Cor.putA he8 WH 0 x.text;rw[←hR10] at he10;have hk10:=Cor.putA hk8 WH 0 x.text;have hd10:=hd9.right hs10;have t10:=HT.out _ _ _ _ hd10))
      all_goals
       have HD10:=Lh (hd10.weaken HB.out);have HE10:=Lh he10;rw[←HPg.out] at hk10;have HK10:=Lh hk10;clear hd10 he10 hk10 hd9 hd8 hd7 t5 t6 t7 t8 t9 t10 he8 hk8 hR8 hR10 hs7 hs8 hs9 hs10;go_wp2;refine bodyPost_ret (v:=.tuple #[.pointer (some ⟨cb,0,none⟩),.pointer (some ⟨sb,0,none⟩),.pointer (some ⟨db,0,none⟩),.pointer (some ⟨rb,0,none⟩),.bool true]) (by simp[results,Tryz.results43]) rfl ?_;exact HFin.out cb sb mb _ db rb _ R10 _ HD10.out HE10.out HK10.out
end Cp
theorem keep{w V:World}{b i:Nat}{v:Value}(h:w.cell? ⟨b,i,none⟩=some v)(hb:Below w.heap.size w V):V.cell? ⟨b,i,none⟩=some v:=by
 have hl:b<w.heap.size:=by
  unfold World.cell? at h;cases hg:w.heap[b]? with
  |none=>rw[hg] at h;cases h
  |some _=>exact lQ hg
 exact(World.cell?_of_block (w:=w) (hb.block _ hl)).trans h
structure Slt where
 is:Bool
 pg:Int
 env:Option Nat
namespace Ex
def slotC(s:Slt):List Value:=[.bool s.is,.int .i64 s.pg,.pointer (s.env.map fun b=>⟨b,0,none⟩)]
def cells(kb:Nat)(S:Nat→Slt)(tv:Value):Array Value:=(.pointer (some ⟨kb,0,none⟩)::(((List.range 9).flatMap fun i=>slotC (S i))++[tv])).toArray
theorem cells_at(kb:Nat)(S:Nat→Slt)(tv:Value)(i j:Nat)(hi:i<9)(hj:j<3):(cells kb S tv)[1+i*3+j]? =(slotC (S i))[j]? :=by
 have h1:i=0∨i=1∨i=2∨i=3∨i=4∨i=5∨i=6∨i=7∨i=8:=by omega
 have h2:j=0∨j=1∨j=2:=by omega
 rcases h1 with rfl|rfl|rfl|rfl|rfl|rfl|rfl|rfl|rfl<;>rcases h2 with rfl|rfl|rfl<;>rfl
def upd(S:Nat→Slt)(i:Nat)(s:Slt):Nat→Slt:=fun k=>if k=i then s else S k
theorem cells_set(kb:Nat)(S:Nat→Slt)(tv:Value)(i:Nat)(s:Slt)(hi:i<9):
  (((cells kb S tv).setIfInBounds (1+i*3) (.bool s.is)).setIfInBounds (1+i*3+1) (.int .i64 s.pg)).setIfInBounds (1+i*3+2) (.pointer (s.env.map fun b=>⟨b,0,none⟩))=cells kb (upd S i s) tv:=by
 have h1:i=0∨i=1∨i=2∨i=3∨i=4∨i=5∨i=6∨i=7∨i=8:=by omega
 rcases h1 with rfl|rfl|rfl|rfl|rfl|rfl|rfl|rfl|rfl<;>rfl
theorem cells_env(kb:Nat)(S:Nat→Slt)(tv:Value)(i:Nat)(b:Nat)(hi:i<9):
  (cells kb S tv).setIfInBounds (1+i*3+2) (.pointer (some ⟨b,0,none⟩))=cells kb (upd S i { S i with env:=some b }) tv:=by
 have h1:i=0∨i=1∨i=2∨i=3∨i=4∨i=5∨i=6∨i=7∨i=8:=by omega
 rcases h1 with rfl|rfl|rfl|rfl|rfl|rfl|rfl|rfl|rfl<;>rfl
end Ex
structure Ex(w:World)(xb kb:Nat)(S:Nat→Slt)(tv:Value):Prop where
 blk:w.heap[xb]? =some (.cells (Ex.cells kb S tv) 186 (0,0))
namespace Ex
variable {w w':World} {xb kb:Nat} {S:Nat→Slt} {tv:Value}
theorem mod{F:Nat→Prop}(h:Ex w xb kb S tv)(hm:Mod F w w')(hF:¬F xb):Ex w' xb kb S tv:=⟨(hm.block _ (lQ h.blk) hF).trans h.blk⟩
theorem below(h:Ex w xb kb S tv)(hb:Below w.heap.size w w'):Ex w' xb kb S tv:=⟨(hb.block _ (lQ h.blk)).trans h.blk⟩
theorem at'(h:Ex w xb kb S tv)(i:Nat)(hi:i<9):w.cell? ⟨xb,1+i*3,none⟩=some (.bool (S i).is)∧w.cell? ⟨xb,1+i*3+1,none⟩=some (.int .i64 (S i).pg)∧w.cell? ⟨xb,1+i*3+2,none⟩=some (.pointer ((S i).env.map fun b=>⟨b,0,none⟩))∧∀j,w.frozen? ⟨xb,j,none⟩=false:=by
 refine⟨?_, ?_, ?_,fun j=> ?_⟩
 ·unfold World.cell?;rw[h.blk];exact cells_at kb S tv i 0 hi (by decide)
 ·unfold World.cell?;rw[h.blk];exact cells_at kb S tv i 1 hi (by decide)
 ·unfold World.cell?;rw[h.blk];exact cells_at kb S tv i 2 hi (by decide)
 ·unfold World.frozen?;rw[h.blk];simp
theorem ker(h:Ex w xb kb S tv):w.cell? ⟨xb,0,none⟩=some (.pointer (some ⟨kb,0,none⟩)):=by unfold World.cell?;rw[h.blk];rfl
theorem has(h:Ex w xb kb S tv)(n:Nat)(n1:1≤n)(n8:n≤8):Calls Tryz.prog 87 #[.pointer (some ⟨xb,0,none⟩),.int .i64 n] w fun e w'=>e=.returned (.bool (S n).is)∧w=w':=by
 obtain⟨c0,c1,c2,cf⟩:=h.at' n (by omega);have h1:(1:Int)≤n:=by omega
 have h2:(n:Int)<9:=by omega
 clear h cf;go_enter func87,ntmps87;go_wp2;go_ret;exact⟨rfl,rfl⟩
theorem of(h:Ex w xb kb S tv)(n:Nat)(n1:1≤n)(n8:n≤8)(hs:(S n).is=true):Calls Tryz.prog 55 #[.pointer (some ⟨xb,0,none⟩),.int .i64 n] w fun e w'=>e=.returned (.pointer ((S n).env.map fun b=>⟨b,0,none⟩))∧w=w':=by
 obtain⟨c0,c1,c2,cf⟩:=h.at' n (by omega);have HH:=Lh (h.has n n1 n8);rw[hs] at HH;have h1:(1:Int)≤n:=by omega
 have h2:(n:Int)<9:=by omega
 clear h cf hs;go_enter func55,ntmps55;go_wp2_with fail;refine HH.out.mono ?_;rintro e w1 ⟨rfl,rfl⟩;go_wp2;go_ret;exact⟨rfl,rfl⟩
theorem state_one{S':World}{b:Nat}{x y z:Value}(h:S'.heap[b]? =some (.cells #[x,y,z] 147 (0,0))):S'.cell? ⟨b,0,none⟩=some x∧S'.cell? ⟨b,1,none⟩=some y∧S'.cell? ⟨b,2,none⟩=some z∧∀j,S'.frozen? ⟨b,j,none⟩=false:=by
 refine⟨?_, ?_, ?_,fun j=> ?_⟩
 ·unfold World.cell?;rw[h];rfl
 ·unfold World.cell?;rw[h];rfl
 ·unfold World.cell?;rw[h];rfl
 ·unfold World.frozen?;rw[h];simp
def StateP(w:World)(E:En)(e:Ending)(w':World):Prop:=e=.returned (.agg #[.int .u8 E.kind,.int .u32 E.code,.int .i64 E.why])∧Below w.heap.size w w'
theorem state{a:EAt}{E:En}(h:Ex w xb kb S tv)(n:Nat)(n1:1≤n)(n8:n≤8)(hs:(S n).is=true)(hv:(S n).env=some a.eb)(he:Env w a E):Calls Tryz.prog 58 #[.pointer (some ⟨xb,0,none⟩),.int .i64 n] w (StateP w E):=by
 have HFin:=Lh fun V (hb:Below w.heap.size w V)=>(show StateP w E (.returned (.agg #[.int .u8 E.kind,.int .u32 E.code,.int .i64 E.why])) V from⟨rfl,hb⟩)
 generalize StateP w E=PQ at*;have hA:=(Below.refl w.heap.size w).alloc (Nat.le_refl _) (.cells #[.int .u8 0,.int .u32 0,.int .i64 0] 147);have hx:=h.below hA;obtain⟨c0,c1,c2,cf⟩:=hx.at' n (by omega);rw[hv] at c2;have HH:=Lh (hx.has n n1 n8);rw[hs] at HH;have HS:=Lh (Ev.state (he.below hA));have HA:=Lh hA;have HK:=Lh (heap_alloc_new w (.cells #[.int .u8 0,.int .u32 0,.int .i64 0] 147));have h1:(1:Int)≤n:=by omega
 have h2:(n:Int)<9:=by omega
 clear h he hs hv hx hA cf;go_enter func58,ntmps58;go_wp2_with fail;generalize w.alloc (.cells #[.int .u8 0,.int .u32 0,.int .i64 0] 147)=w0 at*;refine HH.out.mono ?_;rintro e w1 ⟨rfl,rfl⟩;go_wp2_with fail;refine HS.out.mono ?_;rintro e w2 ⟨rfl,hb⟩;obtain⟨k0,k1,k2,kf⟩:=state_one ((hb.block _ (lQ HK.out)).trans HK.out);have HB2:=Lh (bQ HA.out hb);clear hb c0 c1 c2;go_wp2;refine bodyPost_ret (v:=.agg #[.int .u8 E.kind,.int .u32 E.code,.int .i64 E.why]) (by simp[results,Tryz.results58,go_sem, *]) rfl ?_;exact HFin.out _ (((HB2.out.setCell (Nat.le_refl _) _).setCell (Nat.le_refl _) _).setCell (Nat.le_refl _) _)
theorem num_step(E:En):E.step.num=E.num:=by
 unfold En.step
 split
 ·rfl
 ·dsimp only
  split<;>rfl
end Ex
open Go.RowKit Word
namespace Ev
section
variable {w:World} {a:EAt} {E:En}
theorem reg_bad{cb:Nat}(w:World)(n:Int)(hn:n<0∨16≤n):Calls Tryz.prog 164 #[.pointer (some ⟨cb,0,none⟩),.int .i64 n] w fun e w'=>e=.returned (.tuple #[.int .u32 0,.int .i64 2])∧w=w':=by
 cases g0:decide (n<0) with
 |true=>
  go_enter func164,ntmps164;go_wp2;go_ret2;exact⟨rfl,rfl⟩
 |false=>
  have g1:decide ((16:Int)≤n)=true:=decide_eq_true (by have:=of_decide_eq_false g0;omega);go_enter func164,ntmps164;go_wp2;go_ret2;exact⟨rfl,rfl⟩
theorem arg(h:Env w a E)(n:Int)(n0: -9223372036854775808≤n)(n1:n≤9223372036854775807):Calls Tryz.prog 118 #[.pointer (some ⟨a.eb,0,none⟩),.int .i64 n] w fun e w'=>e=.returned (.int .u32 (E.arg n))∧w=w':=by
 obtain⟨_,_,c2,_⟩:=cells h;have HR:Hid (Calls Tryz.prog 164 #[.pointer (some ⟨a.cb,0,none⟩),.int .i64 n] w fun e w'=>∃y,e=.returned (.tuple #[.int .u32 (E.arg n),.int .i64 y])∧w=w'):=by
  unfold En.arg
  by_cases g:0≤n∧n<16
  ·rw[if_pos g];obtain⟨m,rfl⟩:=Int.eq_ofNat_of_zero_le g.1;exact Lh ((Cp.reg_ok h.cp m (by omega)).mono fun e w' ⟨g1,g2⟩=>⟨0,g1,g2⟩)
  ·rw[if_neg g];exact Lh ((reg_bad w n (by omega)).mono fun e w' ⟨g1,g2⟩=>⟨2,g1,g2⟩)
 generalize E.arg n=v at*;clear h;go_enter func118,ntmps118;go_wp2_with fail;refine HR.out.mono ?_;rintro e w2 ⟨y,rfl,rfl⟩;go_wp2;go_ret;exact⟨rfl,rfl⟩
theorem answer(h:Env w a E)(v y:Int)(v0:0≤v)(v1:v≤4294967295)(y0:0≤y)(y1:y≤4294967295):Calls Tryz.prog 122 #[.pointer (some ⟨a.eb,0,none⟩),.int .u32 v,.int .u32 y] w fun e w'=>e=.returned (.int .i64 0)∧EStep w w' a E a (E.answer v y):=by
 have H:=Lh h;have hc:=Cp.setReg_ok h.cp 1 (by omega) v v0 v1;obtain⟨_,_,c2,_⟩:=cells h;have HC:=Lh hc;clear h hc;go_enter func122,ntmps122;go_wp2_with fail;refine HC.out.mono ?_;rintro e w2 ⟨rfl,hc2,hm2⟩;have hs2:=EStep.regs H.out hc2 hm2;have HS2:=Lh hs2;have HC2:=Lh (Cp.setReg_ok hs2.env.cp 2 (by omega) y y0 y1);obtain⟨_,_,d2,_⟩:=cells hs2.env;clear hc2 hm2 hs2;go_wp2_with fail;refine HC2.out.mono ?_;rintro e w3 ⟨rfl,hc3,hm3⟩;have HS3:=Lh (HS2.out.trans (EStep.regs HS2.out.env hc3 hm3));clear hc3 hm3;go_wp2;go_ret;exact⟨rfl,HS3.out⟩
theorem put(h:Env w a E)(s:ByteArray)(hs:s.size≤140737488355328):Calls Tryz.prog 242 #[.pointer (some ⟨a.eb,0,none⟩),.string s] w fun e w'=>e=.returned (.int .i64 (E.putE s))∧EStep w w' a E a (E.put s):=by
 have HR:=Lh (ready h);obtain⟨_,_,_,_,_,_,_,c7⟩:=cells h;have ht:=h.ok.text
 by_cases hk:E.kind=2
 ·have e:E.redE=0:=by unfold En.redE;rw[if_neg (by omega)]
  rw[e] at HR
  by_cases hl:4096<E.text.size+s.size
  ·have e2:E.putE s=4:=by unfold En.putE;rw[if_neg (by omega),if_pos hl]
   have e3:E.put s=E:=by unfold En.put;rw[e2,if_pos (by omega)]
   have HS:=Lh (EStep.refl h);rw[e2,e3];have hlb:(4096:Int)<E.text.size+s.size:=by omega
   clear e e2 e3 hk h;go_enter func242,ntmps242;go_wp2_with fail;refine HR.out.mono ?_;rintro e w2 ⟨rfl,rfl⟩;go_wp2;go_ret;exact⟨rfl,HS.out⟩
  ·have e2:E.putE s=0:=by unfold En.putE;rw[if_neg (by omega),if_neg hl]
   have e3:E.put s= { E with text:=E.text++s }:=by unfold En.put;rw[e2,if_neg (by omega)]
   have HS:=Lh (EStep.setText h (E.text++s) (by rw[ByteArray.size_append];omega));have f7:=h.free 7;rw[e2,e3];have hlb:¬(4096:Int)<E.text.size+s.size:=by omega
   clear e e2 e3 hk h;go_enter func242,ntmps242;go_wp2_with fail;refine HR.out.mono ?_;rintro e w2 ⟨rfl,rfl⟩;go_wp2;go_ret;exact⟨rfl,HS.out⟩
 ·have e:E.redE=3:=by unfold En.redE;rw[if_pos hk]
  have e2:E.putE s=3:=by unfold En.putE;rw[if_pos hk]
  have e3:E.put s=E:=by unfold En.put;rw[e2,if_pos (by omega)]
  have HS:=Lh (EStep.refl h);rw[e] at HR;rw[e2,e3];clear e e2 e3 hk h;go_enter func242,ntmps242;go_wp2_with fail;refine HR.out.mono ?_;rintro e w2 ⟨rfl,rfl⟩;go_wp2;go_ret;exact⟨rfl,HS.out⟩
end
end Ev
open Go.RowKit Word
theorem isSome_addr{B:List Pg}{x:Int}:(atAddr B x).isSome=true↔x∈B.map Pg.addr:=by
 rw[List.mem_map]
 constructor
 ·intro g;obtain⟨p,hp⟩:=Option.isSome_iff_exists.1 g;exact⟨p,(atAddr_mem hp).1,(atAddr_mem hp).2⟩
 ·rintro⟨p,hp,rfl⟩;cases hq:atAddr B p.addr with
  |some _=>rfl
  |none=>exact absurd rfl (atAddr_none hq p hp)
theorem En.mayP_iff{x:Int}:En.mayP x=true↔x % 256=0∧256≤x∧x<1048576:=by
 unfold En.mayP;simp[and_assoc]
theorem En.mayE_zero{E:En}{x:Int}(h:E.mayE x=0):E.kind=2∧En.mayP x=true:=by
 unfold En.mayE at h
 by_cases g:E.kind=2
 ·rw[if_neg (by omega)] at h;cases hm:En.mayP x with
  |true=>exact⟨g,rfl⟩
  |false=>rw[hm,if_pos rfl] at h;omega
 ·rw[if_pos g] at h;omega
theorem En.Ok.map{E:En}(h:E.Ok){x:Int}(blk:Nat)(hm:Sp.mapE E.A x 3=0):∀y,y∈E.own→(atAddr (Sp.mapA E.A x blk 3) y).isSome=true:=fun y hy=>by
 have:=isSome_addr.1 (h.has y hy);rw[List.mem_map] at this;obtain⟨p,hp,hpy⟩:=this;refine isSome_addr.2 (List.mem_map.2 ⟨p, ?_,hpy⟩);unfold Sp.mapA;rw[if_pos hm];exact mem_insPg.2 (.inr hp)
theorem En.Ok.page{E:En}(h:E.Ok){x:Int}(blk:Nat)(hp:En.mayP x=true)(hm:Sp.mapE E.A x 3=0):x∉E.own∧({ E with A:=Sp.mapA E.A x blk 3,own:=En.ins x E.own }:En).Ok:=by
 have hx:=En.mayP_iff.1 hp;have hn:x∉E.own:=fun g=>by
  have hs:=h.has x g;unfold Sp.mapE at hm
  by_cases q:Sp.mayB x=false∨(7:Int)<3
  ·rw[if_pos q] at hm;omega
  ·rw[if_neg q] at hm;have:pageAt E.A x=atAddr E.A x:=by unfold pageAt;rw[hx.1,Int.sub_zero]
   rw[this,if_pos hs] at hm;omega
 refine⟨hn,En.up_ins h.up hn,fun y hy=> ?_,fun y hy=> ?_,h.text⟩
 ·rcases En.mem_ins.1 hy with rfl|g
  ·exact hx
  ·exact h.may y g
 ·rcases En.mem_ins.1 hy with rfl|g
  ·refine isSome_addr.2 (List.mem_map.2 ⟨pgNew y blk 3, ?_,rfl⟩);unfold Sp.mapA;rw[if_pos hm];exact mem_insPg.2 (.inl rfl)
  ·exact h.map blk hm y g
theorem En.Ok.less{E:En}(h:E.Ok)(x:Int):({ E with own:=E.own.filter (fun y=>y != x) }:En).Ok:=
 ⟨h.up.filter _,fun y hy=>h.may y (List.mem_filter.1 hy).1,fun y hy=>h.has y (List.mem_filter.1 hy).1,h.text⟩
theorem En.Ok.unmap{E:En}(h:E.Ok)(x:Int):∀y,y∈E.own.filter (fun y=>y != x)→(atAddr (Sp.unmapA E.A x) y).isSome=true:=fun y hy=>by
 obtain⟨h1,h2⟩:=List.mem_filter.1 hy;have:=isSome_addr.1 (h.has y h1);rw[List.mem_map] at this;obtain⟨p,hp,hpy⟩:=this;refine isSome_addr.2 (List.mem_map.2 ⟨p, ?_,hpy⟩);unfold Sp.unmapA
 split
 ·exact mem_delPg.2 ⟨hp,by rw[hpy];simpa using h2⟩
 ·exact hp
namespace Ev
section
variable {w:World} {a:EAt} {E:En}
theorem page(h:Env w a E)(x:Int)(x0:0≤x)(x1:x≤4294967295):Calls Tryz.prog 230 #[.pointer (some ⟨a.eb,0,none⟩),.int .u32 x] w fun e w'=>∃blk lv,e=.returned (.int .i64 (E.pageE x))∧EStep w w' a E { a with lv:=lv } (E.page x blk):=by
 have HM:=Lh (may h x x0 x1)
 by_cases hm:E.mayE x=0
 ·obtain⟨hk,hp⟩:=En.mayE_zero hm;have hpe:E.pageE x=Sp.mapE E.A x 3:=by unfold En.pageE;rw[if_neg (by omega)]
  rw[hm] at HM;have HMap:Hid (∀V,Below w.heap.size w V→Calls Tryz.prog 80 #[.pointer (some ⟨a.sb,0,none⟩),.int .u32 x,.int .u8 3] V fun e w'=>∃blk,e=.returned (.int .i64 (Sp.mapE E.A x 3))∧SStep V w' a.sb a.mb E.A (Sp.mapA E.A x blk 3)):=Lh fun V hV=>Sp.s_map (h.below hV).sp x 3 x0 x1 (by omega) (by omega)
  have HV:=Lh fun V (hV:Below w.heap.size w V)=>EStep.of_below h hV
  by_cases he:Sp.mapE E.A x 3=0
  ·have e2:∀blk,E.page x blk= { E with A:=Sp.mapA E.A x blk 3,own:=En.ins x E.own }:=fun blk=>by unfold En.page;rw[hpe,if_neg (by omega)]
   have HO:Hid (∀blk,x∉E.own∧({ E with A:=Sp.mapA E.A x blk 3,own:=En.ins x E.own }:En).Ok):=Lh fun blk=>h.ok.page blk hp he
   have HH:=Lh fun blk=>h.ok.map blk he
   have HOk:=Lh h.ok;simp only[e2];rw[hpe];rw[he] at HMap⊢;clear e2 hpe he hp hk hm h;go_enter func230,ntmps230;go_wp2_with fail;refine HM.out.mono ?_;rintro e w2 ⟨rfl,hb2⟩;have HS2:=Lh (HV.out w2 hb2);obtain⟨c0,_⟩:=cells (HV.out w2 hb2).env;have HMp:=Lh (HMap.out w2 hb2);clear hb2 HM HMap HV;go_wp2_with fail;refine HMp.out.mono ?_;rintro e w3 ⟨blk,rfl,hs3⟩;have hE3:=EStep.space HS2.out.env hs3 (HH.out blk);have HS3:=Lh (HS2.out.trans hE3);obtain⟨_,c1,_⟩:=cells hE3.env;have hls:=hE3.env.ls;simp only at c1 hls;obtain⟨ao,cap,hlv,hws⟩:=hls.words HOk.out.len;have HLs:=Lh hls;have HBS:=Lh (Sl.bsearch (cap:=cap) hws x HOk.out.up HOk.out.len);have HLe:=Lh hE3.env.le;have HLv:=Lh hlv;rw[hlv] at c1;clear hE3 hs3 hls hlv hws c0 HMp HH HS2;go_wp2_with fail;refine HBS.out.mono ?_;rintro e w4 ⟨k,hpl,rfl,rfl⟩;have HPl:=Lh hpl;clear HBS hpl;generalize decide (E.own[k]? =some x)=bb at*;have hbb:Below w4.heap.size w4 (w4.alloc (.cells #[.int .u32 x] 42)):=Ba _;have hl5:Sl.Lst (w4.alloc (.cells #[.int .u32 x] 42)) a.lv E.own:=HLs.out.frame fun g hg=>hbb.block _ (HLe.out g hg).1
   have hin:=Sl.insert hl5 x k HPl.out.le HOk.out.len w4.heap.size (heap_alloc_new w4 _) (fun e=>by have hle:=HLe.out;exact absurd (hle _ e).1 (Nat.lt_irrefl _));rw[HLv.out] at hin;have HIn:=Lh hin;have HB5:=Lh hbb;clear hin hl5 hbb;go_wp2_with fail;refine HIn.out.mono ?_;rintro e w6 ⟨v6,rfl,hl6,hm6,hv6⟩;rw[←HLv.out] at hm6 hv6;have hm46:Mod (fun b=>a.lv.ownBlock=some b) w4 w6:=(Mod.of_below HB5.out _).same hm6;rw[En.ins_place HPl.out (HO.out blk).1] at hl6;obtain⟨a6,cap6,rfl⟩:=SlV.form hl6;have hst:=EStep.list HS3.out.env (own:=En.ins x E.own) hl6 hm46 (fun b hb=>by
    refine⟨?_,(hv6 b hb).imp id fun g=>Nat.le_trans HB5.out.size g⟩;obtain⟨g,q1,q2⟩:=SlV.lt hl6 (by
     have:x∈En.ins x E.own:=En.mem_ins.2 (.inl rfl);exact List.length_pos_of_mem this)
    rw[q1] at hb
    injection hb with hb
    omega) (HO.out blk).2
   have he6:=(hm46.block _ (lQ HS3.out.env.blk) (fun g=>(HLe.out _ g).2.1 rfl)).trans HS3.out.env.blk;have c16:w6.cell? ⟨a.eb,1,none⟩=some a.lv:=by
    unfold World.cell?;rw[he6];rfl
   have f16:w6.frozen? ⟨a.eb,1,none⟩=false:=by
    unfold World.frozen?;rw[he6]
    simp
   clear he6;have HFin:=Lh (HS3.out.trans hst);clear hm6 hv6 hm46 hl6 hst HIn;go_wp2;go_ret;exact⟨blk,_,rfl,HFin.out⟩
  ·have e2:∀blk,E.page x blk=E:=fun blk=>by unfold En.page;rw[hpe,if_pos he]
   have HSp:Hid (∀blk,Sp.mapA E.A x blk 3=E.A):=Lh fun blk=>by unfold Sp.mapA;rw[if_neg he]
   have HOk:=Lh h.ok;simp only[e2];rw[hpe];generalize Sp.mapE E.A x 3=r at*;have heb:(r != 0)=true:=bne_iff_ne.2 he;clear e2 hpe hp hk hm h;go_enter func230,ntmps230;go_wp2_with fail;refine HM.out.mono ?_;rintro e w2 ⟨rfl,hb2⟩;have HS2:=Lh (HV.out w2 hb2);obtain⟨c0,_⟩:=cells (HV.out w2 hb2).env;have HMp:=Lh (HMap.out w2 hb2);clear hb2 HM HMap HV;go_wp2_with fail;refine HMp.out.mono ?_;rintro e w3 ⟨blk,rfl,hs3⟩;rw[HSp.out blk] at hs3;have HS3:=Lh (HS2.out.trans (EStep.space HS2.out.env hs3 HOk.out.has));clear hs3;go_wp2;go_ret;exact⟨0,a.lv,rfl,HS3.out⟩
 ·have hpe:E.pageE x=E.mayE x:=by unfold En.pageE;rw[if_pos hm]
  have e2:∀blk,E.page x blk=E:=fun blk=>by unfold En.page;rw[hpe,if_pos hm]
  have HV:=Lh fun V (hV:Below w.heap.size w V)=>EStep.of_below h hV
  simp only[e2];rw[hpe];generalize E.mayE x=r at*;have heb:(r != 0)=true:=bne_iff_ne.2 hm;clear e2 hpe h;go_enter func230,ntmps230;go_wp2_with fail;refine HM.out.mono ?_;rintro e w2 ⟨rfl,hb2⟩;have HS2:=Lh (HV.out w2 hb2);clear hb2;go_wp2;go_ret;exact⟨0,a.lv,rfl,HS2.out⟩
theorem drop(h:Env w a E)(x:Int)(x0:0≤x)(x1:x≤4294967295):Calls Tryz.prog 231 #[.pointer (some ⟨a.eb,0,none⟩),.int .u32 x] w fun e w'=>∃lv,e=.returned (.int .i64 (E.dropE x))∧EStep w w' a E { a with lv:=lv } (E.drop x):=by
 have HM:=Lh (may h x x0 x1);have HV:=Lh fun V (hV:Below w.heap.size w V)=>EStep.of_below h hV
 have HOk:=Lh h.ok
 by_cases hm:E.mayE x=0
 ·rw[hm] at HM
  by_cases he:x∈E.own
  ·have hpe:E.dropE x=Sp.unmapE E.A x:=by unfold En.dropE;rw[if_neg (by omega),if_pos he]
   have e2:E.drop x= { E with A:=Sp.unmapA E.A x,own:=E.own.filter (fun y=>y != x) }:=by unfold En.drop;rw[if_neg (by omega),if_pos he]
   have Hx:=Lh he;rw[hpe,e2];clear e2 hpe he hm h;go_enter func231,ntmps231;go_wp2_with fail;refine HM.out.mono ?_;rintro e w2 ⟨rfl,hb2⟩;have HS2:=Lh (HV.out w2 hb2);obtain⟨_,c1,_⟩:=cells (HV.out w2 hb2).env;have hls:=(HV.out w2 hb2).env.ls;obtain⟨ao,cap,hlv,hws⟩:=hls.words HOk.out.len;have HLs:=Lh hls;have HBS:=Lh (Sl.bsearch (cap:=cap) hws x HOk.out.up HOk.out.len);have HLv:=Lh hlv;rw[hlv] at c1;clear hb2 HM HV hls hlv hws;go_wp2_with fail;refine HBS.out.mono ?_;rintro e w4 ⟨k,hpl,rfl,rfl⟩;have hkx:=(En.place_mem HOk.out.up hpl).1 Hx.out;rw[decide_eq_true hkx];have hkl:k<E.own.length:=(List.getElem?_eq_some_iff.1 hkx).1;have hde:=Sl.delete HLs.out k (k+1) rfl hkl HOk.out.len;rw[HLv.out,show((k+1:Nat):Int)=(k:Int)+1 from rfl] at hde;have HDe:=Lh hde;have HEr:=Lh (En.erase_place HOk.out.up hkx);have hkn:(k:Int)+1≤2000000:=by have:=HOk.out.len;omega
   clear HBS hpl hkx hde hkl;go_wp2_with fail;refine HDe.out.mono ?_;rintro e w6 ⟨v6,rfl,hl6,hv6,hm6⟩;rw[←HLv.out] at hm6 hv6;rw[HEr.out] at hl6;obtain⟨a6,cap6,rfl⟩:=SlV.form hl6;have hst:=EStep.list HS2.out.env (own:=E.own.filter (fun y=>y != x)) hl6 hm6 (fun b hb=>by
    rw[hv6] at hb;exact⟨Nat.lt_of_lt_of_le (HS2.out.env.le b hb).1 hm6.size,.inl hb⟩) (HOk.out.less x)
   have he6:=(hm6.block _ (lQ HS2.out.env.blk) (fun g=>(HS2.out.env.le _ g).2.1 rfl)).trans HS2.out.env.blk;have c16:w6.cell? ⟨a.eb,1,none⟩=some a.lv:=by
    unfold World.cell?;rw[he6];rfl
   have f16:w6.frozen? ⟨a.eb,1,none⟩=false:=by
    unfold World.frozen?;rw[he6]
    simp
   have HS6:=Lh (HS2.out.trans hst);obtain⟨c0,_⟩:=cells hst.env;simp only at c0;have HUn:=Lh (Sp.s_unmap hst.env.sp x x0 x1);clear he6 hm6 hv6 hl6 hst HDe HS2;go_wp2_with fail;refine HUn.out.mono ?_;rintro e w7 ⟨rfl,hs7⟩;have HFin:=Lh (HS6.out.trans (EStep.space HS6.out.env hs7 (HOk.out.unmap x)));clear hs7 HUn HS6;go_wp2;go_ret;exact⟨_,rfl,HFin.out⟩
  ·have hpe:E.dropE x=3:=by unfold En.dropE;rw[if_neg (by omega),if_neg he]
   have e2:E.drop x=E:=by unfold En.drop;rw[if_neg (by omega),if_neg he]
   have Hx:=Lh he;rw[hpe,e2];clear e2 hpe he hm h;go_enter func231,ntmps231;go_wp2_with fail;refine HM.out.mono ?_;rintro e w2 ⟨rfl,hb2⟩;have HS2:=Lh (HV.out w2 hb2);obtain⟨_,c1,_⟩:=cells (HV.out w2 hb2).env;have hls:=(HV.out w2 hb2).env.ls;obtain⟨ao,cap,hlv,hws⟩:=hls.words HOk.out.len;have HBS:=Lh (Sl.bsearch (cap:=cap) hws x HOk.out.up HOk.out.len);rw[hlv] at c1;clear hb2 HM HV hls hlv hws;go_wp2_with fail;refine HBS.out.mono ?_;rintro e w4 ⟨k,hpl,rfl,rfl⟩;have hkx:¬E.own[k]? =some x:=fun g=>Hx.out ((En.place_mem HOk.out.up hpl).2 g)
   rw[decide_eq_false hkx];clear HBS hpl hkx;go_wp2;go_ret;exact⟨a.lv,rfl,HS2.out⟩
 ·have hpe:E.dropE x=E.mayE x:=by unfold En.dropE;rw[if_pos hm]
  have e2:E.drop x=E:=by unfold En.drop;rw[if_pos hm]
  rw[hpe,e2];generalize E.mayE x=r at*;have heb:(r != 0)=true:=bne_iff_ne.2 hm;clear e2 hpe h;go_enter func231,ntmps231;go_wp2_with fail;refine HM.out.mono ?_;rintro e w2 ⟨rfl,hb2⟩;have HS2:=Lh (HV.out w2 hb2);clear hb2;go_wp2;go_ret;exact⟨a.lv,rfl,HS2.out⟩
end
end Ev
open Go.RowKit Word
def En.new(num pc:Int)(A:List Pg):En:=⟨num,2,0,0,ByteArray.empty,[],A,List.replicate 16 0,pc⟩
def NewPost(w:World)(A:List Pg)(num pc:Int)(e:Ending)(w':World):Prop:=
 ∃a C,e=.returned (.tuple #[.pointer (some ⟨a.eb,0,none⟩),.int .i64 0])∧Env w' a (En.new num pc C)∧cores C=cores A∧(∀k,a.foot C k→w.heap.size≤k)∧Below w.heap.size w w'
namespace Ev
section
variable {w:World} {sb mb:Nat} {A:List Pg}
theorem new(h:Spc w sb mb A)(num pc:Int)(n0:1≤num)(n1:num≤8)(p0:0≤pc)(p1:pc≤4294967295):Calls Tryz.prog 89 #[.int .i64 num,.pointer (some ⟨sb,0,none⟩),.int .u32 pc] w (NewPost w A num pc):=by
 have HC:=Lh (Sp.copy h);have g1:¬num<1:=by omega
 have g2:¬8<num:=by omega
 have HFin:Hid (∀so mo C w2 w3,Spc w2 so mo C→cores C=cores A→(∀k,Spc.foot so mo C k→w.heap.size≤k)→Below w.heap.size w w2→Cpu 155 w3 w2.heap.size (List.replicate 16 0) pc→Below w2.heap.size w2 w3→
   NewPost w A num pc (.returned (.tuple #[.pointer (some ⟨w3.heap.size,0,none⟩),.int .i64 0])) (w3.alloc (.cells #[.pointer (some ⟨so,0,none⟩),.slice none 0 0,.pointer (some ⟨w2.heap.size,0,none⟩),.int .i64 num,.int .u8 2,.int .u32 0,.int .i64 0,.string ByteArray.empty] 232))):=Lh fun so mo C w2 w3 hs hc hf hb hp hb3=>by
  have hz:=hb.size;have hz3:=hb3.size;have hpl:=hp.lt;have hba:Below w3.heap.size w3 (w3.alloc (.cells #[.pointer (some ⟨so,0,none⟩),.slice none 0 0,.pointer (some ⟨w2.heap.size,0,none⟩),.int .i64 num,.int .u8 2,.int .u32 0,.int .i64 0,.string ByteArray.empty] 232)):=Ba _;refine⟨⟨w3.heap.size,so,mo,w2.heap.size,.slice none 0 0⟩,C,rfl, ?_,hc,fun k hk=> ?_, ?_⟩
  ·exact { blk:=heap_alloc_new w3 _,cp:=hp.below hba,sp:=(hs.below hb3 fun k hk=>hs.lt hk).below hba fun k hk=>Nat.lt_of_lt_of_le (hs.lt hk) hz3,ls:=Sl.Lst.nil _,ec:=by show w3.heap.size≠w2.heap.size;omega,es:=fun g=>absurd (hs.lt g) (Nat.not_lt.2 hz3),cs:=fun g=>Nat.lt_irrefl _ (hs.lt g),le:=fun g hg=>(nomatch hg),ok:=⟨List.Pairwise.nil,fun x hx=>(nomatch hx),fun x hx=>(nomatch hx),Nat.zero_le _⟩ }
  ·rcases hk with g|g|g|g
   ·rw[g];show w.heap.size≤w3.heap.size;omega
   ·rw[g];exact hz
   ·exact hf k g
   ·cases g
  ·exact(hb.trans (hb3.mono hz)).alloc (Nat.le_trans hz hz3) _
 generalize NewPost w A num pc=PQ at*;clear h;go_enter func89,ntmps89;go_wp2_with fail;refine HC.out.mono ?_;rintro e w2 ⟨so,mo,C,rfl,hs,hc,hf,hb⟩;have HS:=Lh (⟨hs,hc,hf,hb⟩:Spc w2 so mo C∧cores C=cores A∧(∀k,Spc.foot so mo C k→w.heap.size≤k)∧Below w.heap.size w w2);clear hs hc hf hb;go_wp2_with fail;refine(Cp.new pc p0 p1 w2).mono ?_;rintro e w3 ⟨rfl,hp,hb3⟩;have HP:=Lh (⟨hp,hb3⟩:_∧_);clear hp hb3;go_wp2;exact HFin.out so mo C w2 w3 HS.out.1 HS.out.2.1 HS.out.2.2.1 HS.out.2.2.2 HP.out.1 HP.out.2
end
end Ev
end Go.Proofs.YtnpicaigdfnmfaaGreat
