/- KdoG, Made, KnewG in one text. -/
import Derived.Test.YtnpicaigdfnmfaaGreatPnRegT
import Derived.Test.YtnpicaigdfnmfaaGreatPnTskGW
import Derived.Maps.OwnSet
import Derived.Test.YtnpicaigdfnmfaaGreatProg
import Derived.Test.YtnpicaigdfnmfaaGreatPnBase
import Derived.OwnWalk
import Derived.Test.YtnpicaigdfnmfaaGreatPnGraG
import Derived.Test.YtnpicaigdfnmfaaGreatPnGrantG
import Derived.Test.YtnpicaigdfnmfaaGreatPnSl21
import Derived.Laws.MakeOwn
import Derived.Shelf.Bits.Mul64
import Derived.Test.YtnpicaigdfnmfaaGreatPnZa
set_option linter.unusedVariables false
set_option linter.unusedSimpArgs false
set_option maxRecDepth 100000
set_option maxHeartbeats 16000000
open Go.Proofs.Tryz
namespace Go.Proofs.YtnpicaigdfnmfaaGreat
open Go.RowKit Word
def fnElem(v:Value):Option (DataW Unit×List MemPlace):=
 match v with
 | .func (.func k) p q=>if p.size=0∧q.size=0 then some (.lit (.int .i64 k),[]) else none
 | .nilFunc=>some (.lit (.int .i64 (-1)),[])
 |_=>none
theorem fnElem_inv{v:Value}{z:Int}{ps:List MemPlace}(h:fnElem v=some (.lit (.int .i64 z),ps)):(v=.nilFunc∧z= -1)∨∃k:Nat,v=.func (.func k) #[] #[]∧z=k:=by
 unfold fnElem at h
 split at h
 ·rename_i k p q
  split at h
  ·rename_i hz
   obtain⟨z1,z2⟩:=hz;rw[Array.size_eq_zero_iff] at z1 z2;subst z1;subst z2;simp at h;exact .inr ⟨k,rfl,h.1.symm⟩
  ·cases h
 ·simp at h;exact .inl ⟨rfl,h.1.symm⟩
 ·cases h
theorem kindOf(k c y:Int)(V:World):(Instr.field 147 (.agg #[.int .u8 k,.int .u32 c,.int .i64 y]) 0).run Tryz.prog V=.ok (.int .u8 k) V:=by kernel_rfl
namespace Kl
def fnAt(l:List (Int×Nat))(x:Int):Option Nat:=(l.find? fun p=>p.1 == x).map (·.2)
def Fns(D:DataW Unit)(l:List (Int×Nat)):Prop:=∀x,(∀zd,D.atKey (.int .u32 x) zd=match fnAt l x with|some f=>.lit (.int .i64 f)|none=>zd)∧Maps.has D (.int .u32 x)=(fnAt l x).isSome
theorem Fns.nil:Fns (.map []) []:=fun x=>⟨fun zd=>rfl,rfl⟩
theorem Fns.put{w:World}{b n:Nat}{D:DataW Unit}{l:List (Int×Nat)}(h:Fns D l)(ho:w.ownsMap Tryz.prog 42 fnElem b n D)(k:Int)(k0:0≤k)(k1:k≤4294967295)(f:Nat):Fns (D.put (.int .u32 k) (.lit (.int .i64 f))) ((k,f)::l):=fun x=>by
 have K:=Maps.int_keyed (P:=Tryz.prog) Tryz.underlying42;have hk:=Maps.keyOf_int_mk (P:=Tryz.prog) Tryz.underlying42 (wf_u32 k0 k1)
 by_cases e:k=x
 ·subst e;have hf:fnAt ((k,f)::l) k=some f:=by unfold fnAt;rw[List.find?_cons_of_pos (by simp)];rfl
  rw[hf];exact⟨fun zd=>by rw[Maps.atKey_put_same ho.isMap (K.key hk)],by rw[Maps.has_put_same ho.isMap (K.key hk)];rfl⟩
 ·have hf:fnAt ((k,f)::l) x=fnAt l x:=by unfold fnAt;rw[List.find?_cons_of_neg (by simpa using e)]
  rw[hf];have hne:¬(Lit.int .u32 x)=.int .u32 k:=by intro g;simp at g;exact e g.symm
  exact⟨fun zd=>by rw[Maps.atKey_put_other (by first|exact hne|simpa using hne)];exact(h x).1 zd,by rw[Maps.has_put_other (by first|exact hne|simpa using hne)];exact(h x).2⟩
def fns:List (Int×Nat):=[(10,174),(9,173),(8,172),(7,171),(6,170),(5,169),(4,168),(3,167),(2,166)]
def fnVal(x:Int):Value:=match fnAt fns x with|some f=>.func (.func f) #[] #[]|none=>.nilFunc
def AllPost(w:World)(e:Ending)(w':World):Prop:=
 ∃mb,e=.returned (.map (some mb))∧Below w.heap.size w w'∧∀x,0≤x→x≤4294967295→(Instr.lookup 256 (.map (some mb)) (.int .u32 x) true).run Tryz.prog w'=.ok (.tuple #[fnVal x,.bool (fnAt fns x).isSome]) w'
theorem zeroFn(w:World):(zeroValue 254).run Tryz.prog w=.ok .nilFunc w:=by kernel_rfl
theorem all(w:World):Calls Tryz.prog 121 #[] w (AllPost w):=by
 have hmm:= @run_makeMap Tryz.prog;have K:=Maps.int_keyed (P:=Tryz.prog) Tryz.underlying42;have h0:=World.ownsMap_made w Tryz.prog 42 fnElem;have b0:Below w.heap.size w (w.alloc (.map #[] 0)):=Ba _;have f0:Fns (.map []) []:=Fns.nil;obtain⟨w1,r1,h1,g1⟩:=h0.update K Tryz.underlying256 (by decide) (val:=.func (.func 166) #[] #[]) (d:=.lit (.int .i64 (166:Nat))) (ps:=[]) (Maps.keyOf_int_mk (P:=Tryz.prog) Tryz.underlying42 (wf_u32 (x:=2) (by decide) (by decide))) rfl;have b1:=b0.grown g1 b0.size (fun k e=>by cases e;exact Nat.le_refl _);have f1:=f0.put h0 2 (by decide) (by decide) 166;obtain⟨w2,r2,h2,g2⟩:=h1.update K Tryz.underlying256 (by decide) (val:=.func (.func 167) #[] #[]) (d:=.lit (.int .i64 (167:Nat))) (ps:=[]) (Maps.keyOf_int_mk (P:=Tryz.prog) Tryz.underlying42 (wf_u32 (x:=3) (by decide) (by decide))) rfl;have b2:=b1.grown g2 b1.size (fun k e=>by cases e;exact Nat.le_refl _);have f2:=f1.put h1 3 (by decide) (by decide) 167;obtain⟨w3,r3,h3,g3⟩:=h2.update K Tryz.underlying256 (by decide) (val:=.func (.func 168) #[] #[]) (d:=.lit (.int .i64 (168:Nat))) (ps:=[]) (Maps.keyOf_int_mk (P:=Tryz.prog) Tryz.underlying42 (wf_u32 (x:=4) (by decide) (by decide))) rfl;have b3:=b2.grown g3 b2.size (fun k e=>by cases e;exact Nat.le_refl _);have f3:=f2.put h2 4 (by decide) (by decide) 168;obtain⟨w4,r4,h4,g4⟩:=h3.update K Tryz.underlying256 (by decide) (val:=.func (.func 169) #[] #[]) (d:=.lit (.int .i64 (169:Nat))) (ps:=[]) (Maps.keyOf_int_mk (P:=Tryz.prog) Tryz.underlying42 (wf_u32 (x:=5) (by decide) (by decide))) rfl;have b4:=b3.grown g4 b3.size (fun k e=>by cases e;exact Nat.le_refl _);have f4:=f3.put h3 5 (by decide) (by decide) 169;obtain⟨w5,r5,h5,g5⟩:=h4.update K Tryz.underlying256 (by decide) (val:=.func (.func 170) #[] #[]) (d:=.lit (.int .i64 (170:Nat))) (ps:=[]) (Maps.keyOf_int_mk (P:=Tryz.prog) Tryz.underlying42 (wf_u32 (x:=6) (by decide) (by decide))) rfl;have b5:=b4.grown g5 b4.size (fun k e=>by cases e;exact Nat.le_refl _);have f5:=f4.put h4 6 (by decide) (by decide) 170;obtain⟨w6,r6,h6,g6⟩:=h5.update K Tryz.underlying256 (by decide) (val:=.func (.func 171) #[] #[]) (d:=.lit (.int .i64 (171:Nat))) (ps:=[]) (Maps.keyOf_int_mk (P:=Tryz.prog) Tryz.underlying42 (wf_u32 (x:=7) (by decide) (by decide))) rfl;have b6:=b5.grown g6 b5.size (fun k e=>by cases e;exact Nat.le_refl _);have f6:=f5.put h5 7 (by decide) (by decide) 171;obtain⟨w7,r7,h7,g7⟩:=h6.update K Tryz.underlying256 (by decide) (val:=.func (.func 172) #[] #[]) (d:=.lit (.int .i64 (172:Nat))) (ps:=[]) (Maps.keyOf_int_mk (P:=Tryz.prog) Tryz.underlying42 (wf_u32 (x:=8) (by decide) (by decide))) rfl;have b7:=b6.grown g7 b6.size (fun k e=>by cases e;exact Nat.le_refl _);have f7:=f6.put h6 8 (by decide) (by decide) 172;obtain⟨w8,r8,h8,g8⟩:=h7.update K Tryz.underlying256 (by decide) (val:=.func (.func 173) #[] #[]) (d:=.lit (.int .i64 (173:Nat))) (ps:=[]) (Maps.keyOf_int_mk (P:=Tryz.prog) Tryz.underlying42 (wf_u32 (x:=9) (by decide) (by decide))) rfl;have b8:=b7.grown g8 b7.size (fun k e=>by cases e;exact Nat.le_refl _);have f8:=f7.put h7 9 (by decide) (by decide) 173;obtain⟨w9,r9,h9,g9⟩:=h8.update K Tryz.underlying256 (by decide) (val:=.func (.func 174) #[] #[]) (d:=.lit (.int .i64 (174:Nat))) (ps:=[]) (Maps.keyOf_int_mk (P:=Tryz.prog) Tryz.underlying42 (wf_u32 (x:=10) (by decide) (by decide))) rfl;have b9:=b8.grown g9 b8.size (fun k e=>by cases e;exact Nat.le_refl _);have f9:=f8.put h8 10 (by decide) (by decide) 174;have HFin:Hid (AllPost w (.returned (.map (some w.heap.size))) w9):=Lh ⟨_,rfl,b9,fun x x0 x1=>by
  obtain⟨v,ps,hrun,hv⟩:=h9.look_ok K Tryz.underlying256 (zeroFn _) (zd:=.lit (.int .i64 (-1))) (zp:=[]) rfl (Maps.keyOf_int_mk (P:=Tryz.prog) Tryz.underlying42 (wf_u32 x0 x1));rw[(f9 x).1] at hv;rw[(f9 x).2] at hrun;rw[hrun];have e:v=fnVal x:=by
   unfold fnVal;have hv:fnElem v=some (match fnAt fns x with|some f=>.lit (.int .i64 f)|none=>.lit (.int .i64 (-1)),ps):=hv;cases hf:fnAt fns x with
   |none=>
    rw[hf] at hv;rcases fnElem_inv hv with⟨g,_⟩|⟨k,_,g⟩
    ·exact g
    ·omega
   |some f=>
    rw[hf] at hv;rcases fnElem_inv hv with⟨_,g⟩|⟨k,g,g'⟩
    ·omega
    ·rw[g];have:k=f:=by omega
     rw[this]
  rw[e];rfl⟩
 generalize AllPost w=PQ at*;clear h0 h1 h2 h3 h4 h5 h6 h7 h8 h9 b0 b1 b2 b3 b4 b5 b6 b7 b8 b9 f0 f1 f2 f3 f4 f5 f6 f7 f8 f9 g1 g2 g3 g4 g5 g6 g7 g8 g9;go_enter func121,ntmps121;go_wp2
 first|exact HFin.out|(go_ret;exact HFin.out)
def evC(x:Evt):Array Value:= #[.int .u8 x.kind,.int .i64 x.env,.string x.text,.int .u32 x.num]
def evt(K:Kn)(E:En)(blk:Nat)(num:Int):Evt:=if num=1 then⟨3,E.num,ByteArray.empty,E.arg 1,true⟩ else evOf Evt.none (Co.call K E blk num)
def DoPost(w:World)(a:KAt)(e:EAt)(K:Kn)(E:En)(num:Int)(r:Ending)(w':World):Prop:=
 ∃blk a' e',r=.returned (.tuple #[.agg (evC (evt K E blk num)),.bool (evt K E blk num).seen,.int .i64 0])∧JStep w w' a e E.A a' (Co.doK K E blk num) e' (Co.doE K E blk num)
theorem jpre{W0 W w:World}{a0 a:KAt}{K:Kn}{e0 e:EAt}{A0:List Pg}{E:En}(h:JStep W w a0 e0 A0 a K e E)(hb:Below W0.heap.size W0 W):JStep W0 w a0 e0 A0 a K e E:=
 { h with mod:=(Mod.of_below hb _).trans h.mod fun i _ g=>.inl g,tag:=fun k hk=>h.tag k (Nat.lt_of_lt_of_le hk hb.size),foot:=fun k hk=>(h.foot k hk).imp id fun g=>Nat.le_trans hb.size g }
theorem jblock{W w:World}{a0 a:KAt}{K:Kn}{e0 e:EAt}{A0:List Pg}{E:En}(h:JStep W w a0 e0 A0 a K e E){b:Nat}{o:Obj}(hb:W.heap[b]? =some o)(ha:a0.tag b=0)(he:¬e0.foot A0 b):w.heap[b]? =some o∧a.tag b=0∧¬e.foot E.A b:=by
 have hl:=lQ hb;refine⟨(h.mod.block b hl fun g=>g.elim (fun q=>q.1 ha) he).trans hb,(h.tag b hl).trans ha,fun g=>(h.foot b g).elim he fun q=>by omega⟩
theorem ev_set{V:World}{b:Nat}{a0 a1 a2 a3:Value}(h0:V.heap[b]? =some (.cells #[a0,a1,a2,a3] 89 (0,0)))(x y z u:Value):((((V.setCell ⟨b,0,none⟩ x).setCell ⟨b,1,none⟩ y).setCell ⟨b,2,none⟩ z).setCell ⟨b,3,none⟩ u).heap[b]? =some (.cells #[x,y,z,u] 89 (0,0)):=by
 have b1:=heap_setCell_same V b 0 _ _ x h0;have b2:=heap_setCell_same _ b 1 _ _ y b1;have b3:=heap_setCell_same _ b 2 _ _ z b2;exact heap_setCell_same _ b 3 _ _ u b3
theorem ev_cells{V:World}{b:Nat}{a0 a1 a2 a3:Value}(h:V.heap[b]? =some (.cells #[a0,a1,a2,a3] 89 (0,0))):V.cell? ⟨b,0,none⟩=some a0∧V.cell? ⟨b,1,none⟩=some a1∧V.cell? ⟨b,2,none⟩=some a2∧V.cell? ⟨b,3,none⟩=some a3∧∀i,V.frozen? ⟨b,i,none⟩=false:=by
 refine⟨?_, ?_, ?_, ?_,fun i=> ?_⟩
 ·unfold World.cell?;rw[h];rfl
 ·unfold World.cell?;rw[h];rfl
 ·unfold World.cell?;rw[h];rfl
 ·unfold World.cell?;rw[h];rfl
 ·unfold World.frozen?;rw[h];simp
theorem ev_mod(V:World)(b:Nat)(x y z u:Value):Mod (fun k=>k=b) V ((((V.setCell ⟨b,0,none⟩ x).setCell ⟨b,1,none⟩ y).setCell ⟨b,2,none⟩ z).setCell ⟨b,3,none⟩ u):=
 Mod.setCell (F:=fun i=>i=b) (Mod.setCell (F:=fun i=>i=b) (Mod.setCell (F:=fun i=>i=b) (Mod.setCell (F:=fun i=>i=b) (Mod.refl _ _) ⟨b,0,none⟩ (.inl rfl) _) ⟨b,1,none⟩ (.inl rfl) _) ⟨b,2,none⟩ (.inl rfl) _) ⟨b,3,none⟩ (.inl rfl) _
section
variable {w:World} {a:KAt} {K:Kn} {e:EAt} {E:En}
theorem do_call(h:KE w a K e E)(hn:1≤E.num∧E.num≤8)(hk:E.kind=2)(num:Int)(f:Nat)(h0:0≤num)(h1:num≤4294967295)(hne:num≠1)(hfv:fnVal num=.func (.func f) #[] #[])(hfb:(fnAt fns num).isSome=true)
  (hcf:∀args V,(callFunc f args).run Tryz.prog V=.ok (.enter f args) V)
  (hv:∀blk,0≤(Co.call K E blk num).v∧(Co.call K E blk num).v≤4294967295∧0≤(Co.call K E blk num).y∧(Co.call K E blk num).y≤4294967295)
  (hm:∀(W V:World) (tb:Nat),Tk W V tb a e E.A a K e E Evt.none→Calls Tryz.prog f #[.pointer (some ⟨tb,0,none⟩)] V (CallPost W tb a e E.A Evt.none fun b=>Co.call K E b num)):
  Calls Tryz.prog 69 #[.pointer (some ⟨a.kb,0,none⟩),.pointer (some ⟨e.eb,0,none⟩),.int .u32 num] w (DoPost w a e K E num):=by
 have hb0:Below w.heap.size w (w.alloc (.cells #[.int .u8 0,.int .i64 0,.string ByteArray.empty,.int .u32 0] 89)):=Ba _;have hx0:=heap_alloc_new w (.cells #[.int .u8 0,.int .i64 0,.string ByteArray.empty,.int .u32 0] 89);have hSt:=Ev.state (h.below hb0).en;rw[hk] at hSt;have HSt:=Lh hSt;have hfd:=kindOf 2 E.code E.why;have HAll:=Lh all;have HM:=Lh hm;have HV:=Lh hv;have HH:=Lh h;have HB0:=Lh hb0;have HX0:=Lh hx0;have HNm:=Lh (⟨hn,hne⟩:_∧_);have hn1b:(num == 1)=false:=beq_eq_false_iff_ne.2 hne;have HFin:Hid (∀V blk a' e',JStep w V a e E.A a' (Co.doK K E blk num) e' (Co.doE K E blk num)→DoPost w a e K E num (.returned (.tuple #[.agg (evC (evt K E blk num)),.bool (evt K E blk num).seen,.int .i64 0])) V):=Lh fun V blk a' e' g=>⟨blk,a',e',rfl,g⟩
 generalize DoPost w a e K E num=PQ at*;clear hSt hb0 hx0 hm hv h hn hk hne;go_enter func69,ntmps69;go_wp2_with fail;refine HSt.out.mono ?_;rintro r w1 ⟨rfl,hb1⟩;have HB1:=Lh (bQ HB0.out hb1);have HX1:=Lh ((hb1.block _ (lQ HX0.out)).trans HX0.out);clear hb1 HSt HB0 HX0;go_wp2_with fail;have hb2:Below w1.heap.size w1 (w1.alloc (.cells #[.pointer (some ⟨a.kb,0,none⟩),.pointer (some ⟨e.eb,0,none⟩),.int .u8 0,.int .i64 0,.string ByteArray.empty,.int .u32 0,.bool false] 251)):=Ba _;have ht2:=heap_alloc_new w1 (.cells #[.pointer (some ⟨a.kb,0,none⟩),.pointer (some ⟨e.eb,0,none⟩),.int .u8 0,.int .i64 0,.string ByteArray.empty,.int .u32 0,.bool false] 251);have hke:=HH.out.below HB1.out;have hT2:Tk w1 _ w1.heap.size a e E.A a K e E Evt.none:=⟨(JStep.refl hke).below hb2,ht2,Decidable.byContradiction fun q=>absurd (hke.kn.lt _ q) (Nat.lt_irrefl _),fun g=>absurd (hke.en.lt _ g) (Nat.lt_irrefl _),Nat.le_refl _,HNm.out.1⟩;have HT2:=Lh hT2;have HX2:=Lh ((hb2.block _ (lQ HX1.out)).trans HX1.out);refine(HAll.out _).mono ?_;rintro r w3 ⟨mb,rfl,hb3,hlk⟩;have HT3:=Lh (HT2.out.below hb3);have HX3:=Lh ((hb3.block _ (lQ HX2.out)).trans HX2.out);have hl:=hlk num h0 h1;rw[hfv,hfb] at hl;clear hb2 ht2 hke hT2 HT2 HX2 hb3 hlk HAll;go_wp2_with fail;refine(HM.out _ _ _ HT3.out).mono ?_;rintro r w4 ⟨blk,a4,e4,rfl,hT4⟩;have HT4:=Lh hT4;have hvb:=HV.out blk;have HAn:=Lh (Ev.answer hT4.s.j.en (Co.call K E blk num).v (Co.call K E blk num).y hvb.1 hvb.2.1 hvb.2.2.1 hvb.2.2.2);have heb:e4.eb=e.eb:=hT4.s.same.2.1;rw[heb] at HAn;clear hT4 hvb heb hl HM HV HT3;go_wp2_with fail;refine HAn.out.mono ?_;rintro r w5 ⟨rfl,hs5⟩;have HT5:=Lh (HT4.out.right hs5 rfl);have HW1:Hid (w.heap.size<w1.heap.size):=Lh (lQ HX1.out);have HKe:=HH.out;obtain⟨hx5,hta,hte⟩:=jblock HT5.out.s HX1.out (Decidable.byContradiction fun q=>absurd (HKe.kn.lt _ q) (Nat.lt_irrefl _)) (fun g=>absurd (HKe.en.lt _ g) (Nat.lt_irrefl _));have HX5:=Lh hx5;have HJ:=Lh (jpre HT5.out.s HB1.out);clear hs5 HKe HAn;obtain⟨kd,en,tx,nm,sn,hev⟩:∃kd en tx nm sn,evOf Evt.none (Co.call K E blk num)=⟨kd,en,tx,nm,sn⟩:=⟨_,_,_,_,_,rfl⟩;have hD:w5.drew.cell? ⟨w1.heap.size,2,none⟩=some (.int .u8 kd)∧w5.drew.cell? ⟨w1.heap.size,3,none⟩=some (.int .i64 en)∧w5.drew.cell? ⟨w1.heap.size,4,none⟩=some (.string tx)∧w5.drew.cell? ⟨w1.heap.size,5,none⟩=some (.int .u32 nm)∧w5.drew.cell? ⟨w1.heap.size,6,none⟩=some (.bool sn):=by
  have hb:=(HT5.out.below Br.drew).blk;rw[hev] at hb;refine⟨?_, ?_, ?_, ?_, ?_⟩<;>(unfold World.cell?;rw[hb];rfl)
 have hE:((((w5.drew.setCell ⟨w.heap.size,0,none⟩ (.int .u8 kd)).setCell ⟨w.heap.size,1,none⟩ (.int .i64 en)).setCell ⟨w.heap.size,2,none⟩ (.string tx)).setCell ⟨w.heap.size,3,none⟩ (.int .u32 nm)).cell? ⟨w1.heap.size,2,none⟩=some (.int .u8 kd)∧((((w5.drew.setCell ⟨w.heap.size,0,none⟩ (.int .u8 kd)).setCell ⟨w.heap.size,1,none⟩ (.int .i64 en)).setCell ⟨w.heap.size,2,none⟩ (.string tx)).setCell ⟨w.heap.size,3,none⟩ (.int .u32 nm)).cell? ⟨w1.heap.size,3,none⟩=some (.int .i64 en)∧((((w5.drew.setCell ⟨w.heap.size,0,none⟩ (.int .u8 kd)).setCell ⟨w.heap.size,1,none⟩ (.int .i64 en)).setCell ⟨w.heap.size,2,none⟩ (.string tx)).setCell ⟨w.heap.size,3,none⟩ (.int .u32 nm)).cell? ⟨w1.heap.size,4,none⟩=some (.string tx)∧((((w5.drew.setCell ⟨w.heap.size,0,none⟩ (.int .u8 kd)).setCell ⟨w.heap.size,1,none⟩ (.int .i64 en)).setCell ⟨w.heap.size,2,none⟩ (.string tx)).setCell ⟨w.heap.size,3,none⟩ (.int .u32 nm)).cell? ⟨w1.heap.size,5,none⟩=some (.int .u32 nm)∧((((w5.drew.setCell ⟨w.heap.size,0,none⟩ (.int .u8 kd)).setCell ⟨w.heap.size,1,none⟩ (.int .i64 en)).setCell ⟨w.heap.size,2,none⟩ (.string tx)).setCell ⟨w.heap.size,3,none⟩ (.int .u32 nm)).cell? ⟨w1.heap.size,6,none⟩=some (.bool sn):=by
  have hb:=(HT5.out.below Br.drew).blk;rw[hev] at hb;have hm:=ev_mod w5.drew w.heap.size (.int .u8 kd) (.int .i64 en) (.string tx) (.int .u32 nm);have hb':=(hm.block _ (lQ hb) (by have:=HW1.out;omega)).trans hb;refine⟨?_, ?_, ?_, ?_, ?_⟩<;>(unfold World.cell?;rw[hb'];rfl)
 have hxd:w5.drew.heap[w.heap.size]? =_:=hx5;have HEnd:Hid (PQ (.returned (.tuple #[.agg #[.int .u8 kd,.int .i64 en,.string tx,.int .u32 nm],.bool sn,.int .i64 0])) ((((w5.drew.setCell ⟨w.heap.size,0,none⟩ (.int .u8 kd)).setCell ⟨w.heap.size,1,none⟩ (.int .i64 en)).setCell ⟨w.heap.size,2,none⟩ (.string tx)).setCell ⟨w.heap.size,3,none⟩ (.int .u32 nm))):=Lh (by
  have hj:=(HJ.out.below Br.drew).turn (ev_mod w5.drew w.heap.size (.int .u8 kd) (.int .i64 en) (.string tx) (.int .u32 nm)) fun k hk=>by subst hk;exact⟨hta,hte,Nat.le_refl _⟩
  have e1:Co.doK K E blk num=(Co.call K E blk num).K:=by unfold Co.doK;rw[if_neg HNm.out.2]
  have e2:Co.doE K E blk num=(Co.call K E blk num).E.answer (Co.call K E blk num).v (Co.call K E blk num).y:=by unfold Co.doE;rw[if_neg HNm.out.2]
  rw[←e1,←e2] at hj;have:=HFin.out _ blk a4 e4 hj;have he:evt K E blk num=⟨kd,en,tx,nm,sn⟩:=by unfold evt;rw[if_neg HNm.out.2,hev]
  rw[he] at this;exact this)
 obtain⟨x0,x1,x2,x3,xf⟩:=ev_cells hxd;obtain⟨t0,t1,t2,t3,_⟩:=ev_cells (ev_set hxd (.int .u8 kd) (.int .i64 en) (.string tx) (.int .u32 nm));obtain⟨tb,htb⟩:∃q,w1.heap.size=q:=⟨_,rfl⟩;rw[htb] at hD hE⊢;clear HX5 HJ HT5 hx5 hta hte hxd hev HFin HH HB1 HX1 HT4 HW1 htb HX3;go_wp2_with fail;refine wp_region_held (S:=fun w'=>w'.cell? ⟨tb,2,none⟩=some (.int .u8 kd)∧w'.cell? ⟨tb,3,none⟩=some (.int .i64 en)∧w'.cell? ⟨tb,4,none⟩=some (.string tx)∧w'.cell? ⟨tb,5,none⟩=some (.int .u32 nm)∧w'.cell? ⟨tb,6,none⟩=some (.bool sn)) (by kernel_rfl) ?_
 change wpAnyH _ _ _ _ _ _ _ _ w5.drew
 generalize w5.drew=w6 at*;refine T 0 hD ?_;refine T 1 hD ?_;refine T 2 hD ?_;refine T 3 hD ?_;refine T 4 hD ?_;refine T 5 hD ?_;refine T 6 hD ?_;refine T 7 hD ?_;refine U 8 fun K hK=> ?_
 go_simp;refine V hK hE ?_;clear hK K;refine T 9 hE ?_;refine T 10 hE ?_;refine wpAnyH_done (by kernel_rfl) ?_ _;have T:=Lh (⟨t0,t1,t2,t3⟩:_∧_∧_∧_);clear hD hE x0 x1 x2 x3 xf;go_wp2;refine bodyPost_ret (v:=.tuple #[.agg #[.int .u8 kd,.int .i64 en,.string tx,.int .u32 nm],.bool sn,.int .i64 0]) (by simp[results,Tryz.results69,go_sem, *]) rfl ?_;exact HEnd.out
end
end Kl
open Go.RowKit Word
theorem exit_num(E:En)(c:Int):(E.exit c).num=E.num:=by unfold En.exit;split<;>rfl
namespace Kl
section
variable {w:World} {a:KAt} {K:Kn} {e:EAt} {E:En}
theorem do_exit(h:KE w a K e E)(hn:1≤E.num∧E.num≤8)(hk:E.kind=2):
  Calls Tryz.prog 69 #[.pointer (some ⟨a.kb,0,none⟩),.pointer (some ⟨e.eb,0,none⟩),.int .u32 1] w (DoPost w a e K E 1):=by
 have hb0:Below w.heap.size w (w.alloc (.cells #[.int .u8 0,.int .i64 0,.string ByteArray.empty,.int .u32 0] 89)):=Ba _;have hx0:=heap_alloc_new w (.cells #[.int .u8 0,.int .i64 0,.string ByteArray.empty,.int .u32 0] 89);have hSt:=Ev.state (h.below hb0).en;rw[hk] at hSt;have HSt:=Lh hSt;have hfd:=kindOf 2 E.code E.why;have HH:=Lh h;have HB0:=Lh hb0;have HX0:=Lh hx0;have HNm:=Lh (⟨hn,hn⟩:_∧_);have HFin:Hid (∀V blk a' e',JStep w V a e E.A a' (Co.doK K E blk 1) e' (Co.doE K E blk 1)→DoPost w a e K E 1 (.returned (.tuple #[.agg (evC (evt K E blk 1)),.bool (evt K E blk 1).seen,.int .i64 0])) V):=Lh fun V blk a' e' g=>⟨blk,a',e',rfl,g⟩
 generalize DoPost w a e K E 1=PQ at*;clear hSt hb0 hx0 h hn hk;go_enter func69,ntmps69;go_wp2_with fail;refine HSt.out.mono ?_;rintro r w1 ⟨rfl,hb1⟩;have HB1:=Lh (bQ HB0.out hb1);have HX1:=Lh ((hb1.block _ (lQ HX0.out)).trans HX0.out);clear hb1 HSt HB0 HX0;go_wp2_with fail;have hb2:Below w1.heap.size w1 (w1.alloc (.cells #[.pointer (some ⟨a.kb,0,none⟩),.pointer (some ⟨e.eb,0,none⟩),.int .u8 0,.int .i64 0,.string ByteArray.empty,.int .u32 0,.bool false] 251)):=Ba _;have ht2:=heap_alloc_new w1 (.cells #[.pointer (some ⟨a.kb,0,none⟩),.pointer (some ⟨e.eb,0,none⟩),.int .u8 0,.int .i64 0,.string ByteArray.empty,.int .u32 0,.bool false] 251);have hke:=HH.out.below HB1.out;have hT2:Tk w1 _ w1.heap.size a e E.A a K e E Evt.none:=⟨(JStep.refl hke).below hb2,ht2,Decidable.byContradiction fun q=>absurd (hke.kn.lt _ q) (Nat.lt_irrefl _),fun g=>absurd (hke.en.lt _ g) (Nat.lt_irrefl _),Nat.le_refl _,HNm.out.1⟩;have HT2:=Lh hT2;have HX2:=Lh ((hb2.block _ (lQ HX1.out)).trans HX1.out);have hbd:=arg_bd hT2.s.j.en 1;refine(Ev.arg hT2.s.j.en 1 (by omega) (by omega)).mono ?_;rintro r w3 ⟨rfl,rfl⟩;generalize hcd:E.arg 1=cd at*;have HCd:=Lh hcd;have HX:=Lh (Ev.exit hT2.s.j.en cd);clear hb2 ht2 hke hT2 HX2 hcd;go_wp2_with fail;refine HX.out.mono ?_;rintro r w4 ⟨rfl,hs4⟩;have HT4:=Lh (HT2.out.right hs4 (exit_num E cd));have HSh:=Lh (shows HT4.out 3 cd ByteArray.empty);clear hs4 HX HT2;go_wp2_with fail;refine HSh.out.mono ?_;rintro r w5 ⟨rfl,h5⟩;rw[exit_num E cd] at h5;have HT5:=Lh h5;clear h5 HSh;have HW1:Hid (w.heap.size<w1.heap.size):=Lh (lQ HX1.out);have HKe:=HH.out;obtain⟨hx5,hta,hte⟩:=jblock HT5.out.s HX1.out (Decidable.byContradiction fun q=>absurd (HKe.kn.lt _ q) (Nat.lt_irrefl _)) (fun g=>absurd (HKe.en.lt _ g) (Nat.lt_irrefl _));have HX5:=Lh hx5;have HJ:=Lh (jpre HT5.out.s HB1.out);clear HKe;obtain⟨kd,en,tx,nm,sn,hev⟩:∃kd en tx nm sn,(⟨3,E.num,ByteArray.empty,cd,true⟩:Evt)=⟨kd,en,tx,nm,sn⟩:=⟨_,_,_,_,_,rfl⟩;have hD:w5.drew.cell? ⟨w1.heap.size,2,none⟩=some (.int .u8 kd)∧w5.drew.cell? ⟨w1.heap.size,3,none⟩=some (.int .i64 en)∧w5.drew.cell? ⟨w1.heap.size,4,none⟩=some (.string tx)∧w5.drew.cell? ⟨w1.heap.size,5,none⟩=some (.int .u32 nm)∧w5.drew.cell? ⟨w1.heap.size,6,none⟩=some (.bool sn):=by
  have hb:=(HT5.out.below Br.drew).blk;rw[hev] at hb;refine⟨?_, ?_, ?_, ?_, ?_⟩<;>(unfold World.cell?;rw[hb];rfl)
 have hE:((((w5.drew.setCell ⟨w.heap.size,0,none⟩ (.int .u8 kd)).setCell ⟨w.heap.size,1,none⟩ (.int .i64 en)).setCell ⟨w.heap.size,2,none⟩ (.string tx)).setCell ⟨w.heap.size,3,none⟩ (.int .u32 nm)).cell? ⟨w1.heap.size,2,none⟩=some (.int .u8 kd)∧((((w5.drew.setCell ⟨w.heap.size,0,none⟩ (.int .u8 kd)).setCell ⟨w.heap.size,1,none⟩ (.int .i64 en)).setCell ⟨w.heap.size,2,none⟩ (.string tx)).setCell ⟨w.heap.size,3,none⟩ (.int .u32 nm)).cell? ⟨w1.heap.size,3,none⟩=some (.int .i64 en)∧((((w5.drew.setCell ⟨w.heap.size,0,none⟩ (.int .u8 kd)).setCell ⟨w.heap.size,1,none⟩ (.int .i64 en)).setCell ⟨w.heap.size,2,none⟩ (.string tx)).setCell ⟨w.heap.size,3,none⟩ (.int .u32 nm)).cell? ⟨w1.heap.size,4,none⟩=some (.string tx)∧((((w5.drew.setCell ⟨w.heap.size,0,none⟩ (.int .u8 kd)).setCell ⟨w.heap.size,1,none⟩ (.int .i64 en)).setCell ⟨w.heap.size,2,none⟩ (.string tx)).setCell ⟨w.heap.size,3,none⟩ (.int .u32 nm)).cell? ⟨w1.heap.size,5,none⟩=some (.int .u32 nm)∧((((w5.drew.setCell ⟨w.heap.size,0,none⟩ (.int .u8 kd)).setCell ⟨w.heap.size,1,none⟩ (.int .i64 en)).setCell ⟨w.heap.size,2,none⟩ (.string tx)).setCell ⟨w.heap.size,3,none⟩ (.int .u32 nm)).cell? ⟨w1.heap.size,6,none⟩=some (.bool sn):=by
  have hb:=(HT5.out.below Br.drew).blk;rw[hev] at hb;have hm:=ev_mod w5.drew w.heap.size (.int .u8 kd) (.int .i64 en) (.string tx) (.int .u32 nm);have hb':=(hm.block _ (lQ hb) (by have:=HW1.out;omega)).trans hb;refine⟨?_, ?_, ?_, ?_, ?_⟩<;>(unfold World.cell?;rw[hb'];rfl)
 have hxd:w5.drew.heap[w.heap.size]? =_:=hx5;have HEnd:Hid (PQ (.returned (.tuple #[.agg #[.int .u8 kd,.int .i64 en,.string tx,.int .u32 nm],.bool sn,.int .i64 0])) ((((w5.drew.setCell ⟨w.heap.size,0,none⟩ (.int .u8 kd)).setCell ⟨w.heap.size,1,none⟩ (.int .i64 en)).setCell ⟨w.heap.size,2,none⟩ (.string tx)).setCell ⟨w.heap.size,3,none⟩ (.int .u32 nm))):=Lh (by
  have hj:=(HJ.out.below Br.drew).turn (ev_mod w5.drew w.heap.size (.int .u8 kd) (.int .i64 en) (.string tx) (.int .u32 nm)) fun k hk=>by subst hk;exact⟨hta,hte,Nat.le_refl _⟩
  have e1:Co.doK K E 0 1=K:=by unfold Co.doK;rw[if_pos rfl]
  have e2:Co.doE K E 0 1=E.exit cd:=by unfold Co.doE;rw[if_pos rfl,HCd.out]
  have:=HFin.out _ 0 a e (by rw[e1,e2];exact hj);have he:evt K E 0 1=⟨kd,en,tx,nm,sn⟩:=by unfold evt;rw[if_pos rfl,HCd.out,hev]
  rw[he] at this;exact this)
 obtain⟨x0,x1,x2,x3,xf⟩:=ev_cells hxd;obtain⟨t0,t1,t2,t3,_⟩:=ev_cells (ev_set hxd (.int .u8 kd) (.int .i64 en) (.string tx) (.int .u32 nm));obtain⟨tb,htb⟩:∃q,w1.heap.size=q:=⟨_,rfl⟩;rw[htb] at hD hE⊢;clear HX5 HJ HT5 hx5 hta hte hxd hev HFin HH HB1 HX1 HT4 HW1 htb HCd;go_wp2_with fail;refine wp_region_held (S:=fun w'=>w'.cell? ⟨tb,2,none⟩=some (.int .u8 kd)∧w'.cell? ⟨tb,3,none⟩=some (.int .i64 en)∧w'.cell? ⟨tb,4,none⟩=some (.string tx)∧w'.cell? ⟨tb,5,none⟩=some (.int .u32 nm)∧w'.cell? ⟨tb,6,none⟩=some (.bool sn)) (by kernel_rfl) ?_
 change wpAnyH _ _ _ _ _ _ _ _ w5.drew
 generalize w5.drew=w6 at*;refine T 0 hD ?_;refine T 1 hD ?_;refine T 2 hD ?_;refine T 3 hD ?_;refine T 4 hD ?_;refine T 5 hD ?_;refine T 6 hD ?_;refine T 7 hD ?_;refine U 8 fun K hK=> ?_
 go_simp;refine V hK hE ?_;clear hK K;refine T 9 hE ?_;refine T 10 hE ?_;refine wpAnyH_done (by kernel_rfl) ?_ _;have T:=Lh (⟨t0,t1,t2,t3⟩:_∧_∧_∧_);clear hD hE x0 x1 x2 x3 xf;go_wp2;refine bodyPost_ret (v:=.tuple #[.agg #[.int .u8 kd,.int .i64 en,.string tx,.int .u32 nm],.bool sn,.int .i64 0]) (by simp[results,Tryz.results69,go_sem, *]) rfl ?_;exact HEnd.out
theorem do_none(h:KE w a K e E)(hn:1≤E.num∧E.num≤8)(hk:E.kind=2)(num:Int)(h0:0≤num)(h1:num≤4294967295)(hne:num≠1)(hfb:fnAt fns num=none)(hc:∀blk,Co.call K E blk num=Co.no K E 6):
  Calls Tryz.prog 69 #[.pointer (some ⟨a.kb,0,none⟩),.pointer (some ⟨e.eb,0,none⟩),.int .u32 num] w (DoPost w a e K E num):=by
 have hb0:Below w.heap.size w (w.alloc (.cells #[.int .u8 0,.int .i64 0,.string ByteArray.empty,.int .u32 0] 89)):=Ba _;have hx0:=heap_alloc_new w (.cells #[.int .u8 0,.int .i64 0,.string ByteArray.empty,.int .u32 0] 89);have hSt:=Ev.state (h.below hb0).en;rw[hk] at hSt;have HSt:=Lh hSt;have hfd:=kindOf 2 E.code E.why;have HAll:=Lh all;have HH:=Lh h;have HB0:=Lh hb0;have HX0:=Lh hx0;have HNm:=Lh (⟨hn,hne,hc⟩:_∧_∧_);have hn1b:(num == 1)=false:=beq_eq_false_iff_ne.2 hne;have HFin:Hid (∀V blk a' e',JStep w V a e E.A a' (Co.doK K E blk num) e' (Co.doE K E blk num)→DoPost w a e K E num (.returned (.tuple #[.agg (evC (evt K E blk num)),.bool (evt K E blk num).seen,.int .i64 0])) V):=Lh fun V blk a' e' g=>⟨blk,a',e',rfl,g⟩
 generalize DoPost w a e K E num=PQ at*;clear hSt hb0 hx0 h hn hk hne hc;go_enter func69,ntmps69;go_wp2_with fail;refine HSt.out.mono ?_;rintro r w1 ⟨rfl,hb1⟩;have HB1:=Lh (bQ HB0.out hb1);have HX1:=Lh ((hb1.block _ (lQ HX0.out)).trans HX0.out);clear hb1 HSt HB0 HX0;go_wp2_with fail;have hb2:Below w1.heap.size w1 (w1.alloc (.cells #[.pointer (some ⟨a.kb,0,none⟩),.pointer (some ⟨e.eb,0,none⟩),.int .u8 0,.int .i64 0,.string ByteArray.empty,.int .u32 0,.bool false] 251)):=Ba _;have ht2:=heap_alloc_new w1 (.cells #[.pointer (some ⟨a.kb,0,none⟩),.pointer (some ⟨e.eb,0,none⟩),.int .u8 0,.int .i64 0,.string ByteArray.empty,.int .u32 0,.bool false] 251);have hke:=HH.out.below HB1.out;have hT2:Tk w1 _ w1.heap.size a e E.A a K e E Evt.none:=⟨(JStep.refl hke).below hb2,ht2,Decidable.byContradiction fun q=>absurd (hke.kn.lt _ q) (Nat.lt_irrefl _),fun g=>absurd (hke.en.lt _ g) (Nat.lt_irrefl _),Nat.le_refl _,HNm.out.1⟩;have HT2:=Lh hT2;have HX2:=Lh ((hb2.block _ (lQ HX1.out)).trans HX1.out);refine(HAll.out _).mono ?_;rintro r w3 ⟨mb,rfl,hb3,hlk⟩;have HT3:=Lh (HT2.out.below hb3);have HX3:=Lh ((hb3.block _ (lQ HX2.out)).trans HX2.out);have hl:=hlk num h0 h1;have hfv:fnVal num=.nilFunc:=by unfold fnVal;rw[hfb]
 rw[hfv,hfb] at hl;simp only[Option.isSome_none] at hl;have HAn:=Lh (Ev.answer HT3.out.s.j.en 0 6 (by omega) (by omega) (by omega) (by omega));clear hb2 ht2 hke hT2 HT2 HX2 hb3 hlk HAll hfv;go_wp2_with fail;refine HAn.out.mono ?_;rintro r w5 ⟨rfl,hs5⟩;have HT5:=Lh (HT3.out.right hs5 rfl);have HW1:Hid (w.heap.size<w1.heap.size):=Lh (lQ HX1.out);have HKe:=HH.out;obtain⟨hx5,hta,hte⟩:=jblock HT5.out.s HX1.out (Decidable.byContradiction fun q=>absurd (HKe.kn.lt _ q) (Nat.lt_irrefl _)) (fun g=>absurd (HKe.en.lt _ g) (Nat.lt_irrefl _));have HX5:=Lh hx5;have HJ:=Lh (jpre HT5.out.s HB1.out);clear hs5 HKe HAn;obtain⟨x0,x1,x2,x3,xf⟩:=ev_cells hx5;have HEnd:Hid (PQ (.returned (.tuple #[.agg #[.int .u8 0,.int .i64 0,.string ByteArray.empty,.int .u32 0],.bool false,.int .i64 0])) ((((w5.setCell ⟨w.heap.size,0,none⟩ (.int .u8 0)).setCell ⟨w.heap.size,1,none⟩ (.int .i64 0)).setCell ⟨w.heap.size,2,none⟩ (.string ByteArray.empty)).setCell ⟨w.heap.size,3,none⟩ (.int .u32 0))):=Lh (by
  have hj:=HJ.out.turn (ev_mod w5 w.heap.size (.int .u8 0) (.int .i64 0) (.string ByteArray.empty) (.int .u32 0)) fun k hk=>by subst hk;exact⟨hta,hte,Nat.le_refl _⟩
  have e1:Co.doK K E 0 num=K:=by unfold Co.doK;rw[if_neg HNm.out.2.1,HNm.out.2.2];rfl
  have e2:Co.doE K E 0 num=E.answer 0 6:=by unfold Co.doE;rw[if_neg HNm.out.2.1,HNm.out.2.2];rfl
  have:=HFin.out _ 0 a e (by rw[e1,e2];exact hj);have he:evt K E 0 num=Evt.none:=by unfold evt;rw[if_neg HNm.out.2.1,HNm.out.2.2];rfl
  rw[he] at this;exact this)
 obtain⟨t0,t1,t2,t3,_⟩:=ev_cells (ev_set hx5 (.int .u8 0) (.int .i64 0) (.string ByteArray.empty) (.int .u32 0));clear HX5 HJ HT5 hx5 hta hte HFin HH HB1 HX1 HW1 HX3 HT3;have T:=Lh (⟨t0,t1,t2,t3⟩:_∧_∧_∧_);clear t0 t1 t2 t3;go_wp2;obtain⟨t0,t1,t2,t3⟩:=T.out;refine bodyPost_ret (v:=.tuple #[.agg #[.int .u8 0,.int .i64 0,.string ByteArray.empty,.int .u32 0],.bool false,.int .i64 0]) (by simp[results,Tryz.results69,go_sem, *]) rfl ?_;exact HEnd.out
theorem bd_no(K:Kn)(E:En)(y:Int)(y0:0≤y)(y1:y≤6):0≤(Co.no K E y).v∧(Co.no K E y).v≤4294967295∧0≤(Co.no K E y).y∧(Co.no K E y).y≤4294967295:=⟨Int.le_refl 0,by show(0:Int)≤_;omega,y0,by show y≤_;omega⟩
theorem call_bd(h:KE w a K e E)(num:Int)(blk:Nat):0≤(Co.call K E blk num).v∧(Co.call K E blk num).v≤4294967295∧0≤(Co.call K E blk num).y∧(Co.call K E blk num).y≤4294967295:=by
 have hb1:=arg_bd h.en 1;have hb2:=arg_bd h.en 2;have hb3:=arg_bd h.en 3;have hn0:=h.kn.ok.n0;have hn1:=h.kn.ok.n1;have hq:=h.kn.ok.q;unfold Co.call;generalize E.arg 1=v1 at*;generalize E.arg 2=v2 at*;generalize E.arg 3=v3 at*
 split
 ·exact bd_no _ _ _ (by omega) (by omega)
 split
 ·unfold Co.page
  split
  ·exact bd_no _ _ _ (by omega) (by omega)
  ·split<;>exact bd_no _ _ _ (by omega) (by omega)
 split
 ·unfold Co.drop
  split
  ·exact bd_no _ _ _ (by omega) (by omega)
  ·split<;>exact bd_no _ _ _ (by omega) (by omega)
 split
 ·unfold Co.read
  split
  ·exact bd_no _ _ _ (by omega) (by omega)
  ·simp only
   split<;>exact bd_no _ _ _ (by omega) (by omega)
 split
 ·unfold Co.write
  split
  ·exact bd_no _ _ _ (by omega) (by omega)
  ·split<;>exact bd_no _ _ _ (by omega) (by omega)
 split
 ·unfold Co.send
  split
  ·exact bd_no _ _ _ (by omega) (by omega)
  ·split
   ·exact bd_no _ _ _ (by omega) (by omega)
   ·split
    ·exact bd_no _ _ _ (by omega) (by omega)
    ·split
     ·exact bd_no _ _ _ (by omega) (by omega)
     ·exact⟨hb2.1,hb2.2,Int.le_refl 0,by show(0:Int)≤_;omega⟩
 split
 ·unfold Co.recv
  split
  ·exact bd_no _ _ _ (by omega) (by omega)
  ·split
   ·exact bd_no _ _ _ (by omega) (by omega)
   ·rename_i s r hqs
    have:=hq v1 s (by rw[hqs];exact List.mem_cons_self ..)
    split
    ·exact bd_no _ _ _ (by omega) (by omega)
    ·split
     ·exact bd_no _ _ _ (by omega) (by omega)
     ·exact⟨by show(0:Int)≤s.size;omega,by show(s.size:Int)≤_;omega,Int.le_refl 0,by show(0:Int)≤_;omega⟩
 split
 ·unfold Co.put
  split
  ·exact bd_no _ _ _ (by omega) (by omega)
  ·split
   ·exact bd_no _ _ _ (by omega) (by omega)
   ·split
    ·exact bd_no _ _ _ (by omega) (by omega)
    ·split
     ·exact bd_no _ _ _ (by omega) (by omega)
     ·exact⟨hb2.1,hb2.2,Int.le_refl 0,by show(0:Int)≤_;omega⟩
 split
 ·exact⟨hn0,hn1,Int.le_refl 0,by show(0:Int)≤_;omega⟩
 ·exact bd_no _ _ _ (by omega) (by omega)
theorem does(h:KE w a K e E)(hn:1≤E.num∧E.num≤8)(hk:E.kind=2)(hs:K.N.sent.length<4398046511104)(num:Int)(h0:0≤num)(h1:num≤4294967295):
  Calls Tryz.prog 69 #[.pointer (some ⟨a.kb,0,none⟩),.pointer (some ⟨e.eb,0,none⟩),.int .u32 num] w (DoPost w a e K E num):=by
 by_cases e1:num=1
 ·subst e1;exact do_exit h hn hk
 by_cases e2:num=2
 ·subst e2;exact do_call h hn hk 2 166 (by omega) (by omega) (by omega) rfl rfl (enters_of func166 (by kernel_rfl) rfl) (fun b=>call_bd h 2 b) fun W V tb t=>by
   have:=yield t;exact this
 by_cases e3:num=3
 ·subst e3;exact do_call h hn hk 3 167 (by omega) (by omega) (by omega) rfl rfl (enters_of func167 (by kernel_rfl) rfl) (fun b=>call_bd h 3 b) fun W V tb t=>by
   have:=page t;exact this
 by_cases e4:num=4
 ·subst e4;exact do_call h hn hk 4 168 (by omega) (by omega) (by omega) rfl rfl (enters_of func168 (by kernel_rfl) rfl) (fun b=>call_bd h 4 b) fun W V tb t=>by
   have:=drop t;exact this
 by_cases e5:num=5
 ·subst e5;exact do_call h hn hk 5 169 (by omega) (by omega) (by omega) rfl rfl (enters_of func169 (by kernel_rfl) rfl) (fun b=>call_bd h 5 b) fun W V tb t=>by
   have:=read t;exact this
 by_cases e6:num=6
 ·subst e6;exact do_call h hn hk 6 170 (by omega) (by omega) (by omega) rfl rfl (enters_of func170 (by kernel_rfl) rfl) (fun b=>call_bd h 6 b) fun W V tb t=>by
   have:=write t;exact this
 by_cases e7:num=7
 ·subst e7;exact do_call h hn hk 7 171 (by omega) (by omega) (by omega) rfl rfl (enters_of func171 (by kernel_rfl) rfl) (fun b=>call_bd h 7 b) fun W V tb t=>by
   have:=send t hs;exact this
 by_cases e8:num=8
 ·subst e8;exact do_call h hn hk 8 172 (by omega) (by omega) (by omega) rfl rfl (enters_of func172 (by kernel_rfl) rfl) (fun b=>call_bd h 8 b) fun W V tb t=>by
   have:=recv t;exact this
 by_cases e9:num=9
 ·subst e9;exact do_call h hn hk 9 173 (by omega) (by omega) (by omega) rfl rfl (enters_of func173 (by kernel_rfl) rfl) (fun b=>call_bd h 9 b) fun W V tb t=>by
   have:=put t;exact this
 by_cases e10:num=10
 ·subst e10;exact do_call h hn hk 10 174 (by omega) (by omega) (by omega) rfl rfl (enters_of func174 (by kernel_rfl) rfl) (fun b=>call_bd h 10 b) fun W V tb t=>by
   have:=time t;exact this
 exact do_none h hn hk num h0 h1 e1 (by
  unfold fnAt fns;rw[List.find?_eq_none.2]
  ·rfl
  ·intro p hp;simp at hp;rcases hp with rfl|rfl|rfl|rfl|rfl|rfl|rfl|rfl|rfl<;>simp<;>omega) fun b=>by
  unfold Co.call;rw[if_neg e2,if_neg e3,if_neg e4,if_neg e5,if_neg e6,if_neg e7,if_neg e8,if_neg e9,if_neg e10]
end
end Kl
open Go.RowKit Word
open Go.RowKit
theorem infoByte:(Tryz.prog.info? 5).map (fun i=>(i.zero,i.size,i.bytes))=some (some (.int .u8 0),1,1):=by kernel_rfl
theorem run_makeBytes(n:Nat)(hn:n≤140737488355328)(w:World):(Instr.makeSlice 43 (.int .i64 n) (.int .i64 n)).run Tryz.prog w=.ok (.slice (some ⟨w.heap.size,0,none⟩) n n) (w.alloc (.cells (List.replicate n (Value.int .u8 0)).toArray 5)):=by
 obtain⟨i0,hi,hz0,hz1,hz2⟩:=info_parts infoByte;have h:=run_make (P:=Tryz.prog) w 43 5 i0 (.int .u8 0) Tryz.underlying43 hi hz0 .i64 .i64 n n (by omega) (by omega) (by rw[hz2];omega) (by omega);rw[h,hz1];have e:madeCells (Value.int .u8 0).cells ((n:Int).toNat*1)=(List.replicate n (Value.int .u8 0)).toArray:=by
  apply Array.toList_inj.1
  rw[show(Value.int .u8 0).cells= #[.int .u8 0] from rfl,toList_madeCells_one]
  simp
 rw[e];rfl
theorem made_str(n:Nat)(w:World):(convert 43 9 (.slice (some ⟨w.heap.size,0,none⟩) n n)).run Tryz.prog (w.alloc (.cells (List.replicate n (Value.int .u8 0)).toArray 5))=.ok (.string (strOfNums (List.replicate n 0))) (w.alloc (.cells (List.replicate n (Value.int .u8 0)).toArray 5)):=by
 refine run_convert_bytes_arg (P:=Tryz.prog) _ 43 5 Tryz.underlying43 Tryz.underlying5 w.heap.size 0 n n (List.replicate n 0) List.length_replicate (fun i hi=> ?_) 9 Tryz.underlying9;rw[Nat.zero_add,World.cell?_alloc_mark];simp[hi]
end Go.Proofs.YtnpicaigdfnmfaaGreat
namespace Go.Proofs.YtnpicaigdfnmfaaGreat.Rep
open Go.RowKit
def B(w:World)(nb m:Nat)(s:ByteArray)(i:Nat):Prop:=∃cur,w.heap[nb]? =some (.cells cur 9 (0,0))∧cur.size=m∧∀j,j<i→cur[j]? =some (.string s)
theorem B.cell{w:World}{nb m i:Nat}{s:ByteArray}(h:B w nb m s i)(j:Nat)(hj:j<i):w.cell? ⟨nb,j,none⟩=some (.string s):=by
 obtain⟨cur,hb,_,hc⟩:=h;unfold World.cell?;rw[hb];exact hc j hj
theorem B.some{w:World}{nb m i:Nat}{s:ByteArray}(h:B w nb m s i)(j:Nat)(hj:j<m):(w.cell? ⟨nb,j,none⟩).isSome=true:=by
 obtain⟨cur,hb,hz,_⟩:=h;unfold World.cell?;rw[hb]
 simp
 omega
theorem B.free{w:World}{nb m i:Nat}{s:ByteArray}(h:B w nb m s i)(j:Nat):w.frozen? ⟨nb,j,none⟩=false:=by
 obtain⟨cur,hb,_⟩:=h;unfold World.frozen?;rw[hb]
 simp
theorem B.fill{w:World}{nb m i k:Nat}{s:ByteArray}(h:B w nb m s i)(hk:i+k≤m):B (w.setCells nb i (List.replicate k (.string s))) nb m s (i+k):=by
 obtain⟨cur,hb,hz,hc⟩:=h;obtain⟨cur',h1,h2,h3,h4⟩:=heap_setCells_same nb 9 (List.replicate k (.string s)) w i cur hb (by rw[List.length_replicate];omega);refine⟨cur',h1,by omega,fun j hj=> ?_⟩;rcases Nat.lt_or_ge j i with q|q
 ·rw[h3 j q];exact hc j q
 ·have:=h4 (j - i) (by rw[List.length_replicate];omega);rw[show i+(j - i)=j by omega] at this;rw[this,List.getElem?_replicate,if_pos (by omega)]
theorem rep_one(s:ByteArray)(k:Nat):∀v,v∈List.replicate k (Value.string s)→v.oneCell'=true:=fun v hv=>by rw[List.eq_of_mem_replicate hv];rfl
theorem rep_get{s:ByteArray}{k j:Nat}{v:Value}(h:(List.replicate k (Value.string s))[j]? =some v):j<k∧v=.string s:=by
 have hj:=(List.getElem?_eq_some_iff.1 h).1;rw[List.length_replicate] at hj;rw[List.getElem?_replicate,if_pos hj] at h;exact⟨hj,(Option.some.inj h).symm⟩
theorem hsz:(Tryz.prog.info? 9).map (·.size)=some 1:=by kernel_rfl
theorem infoS:(Tryz.prog.info? 9).map (fun i=>(i.zero,i.size,i.bytes))=some (some (.string ByteArray.empty),1,16):=by kernel_rfl
theorem mul64(n:Nat)(hn:n≤65536)(w:World):Calls Tryz.prog 253 #[.int .u64 1,.int .u64 n] w fun e w'=>e=.returned (.tuple #[.int .u64 0,.int .u64 n])∧w=w':=by
 have e1:bits .and .u64 1 4294967295=1:=by decide
 have e0:bits .and .u64 0 4294967295=0:=by decide
 have e2:bits .and .u64 (n:Int) 4294967295=n:=by
  have:=Go.Proofs.Mul64.maskN n (by omega);rw[this];omega
 have d1:(n:Int) / 4294967296=0:=by omega
 have w0:IntKind.u64.wrap 0=0:=by decide
 have w1:IntKind.u64.wrap (n:Int)=n:=by rw[IntKind.wrap_u64];omega
 go_enter func253,ntmps253;go_wp2;go_ret2;exact⟨rfl,rfl⟩
theorem mul(n:Nat)(hn:n≤65536)(w:World):Calls Tryz.prog 192 #[.int .u64 1,.int .u64 n] w fun e w'=>e=.returned (.tuple #[.int .u64 0,.int .u64 n])∧w=w':=by
 have H:=Lh (mul64 n hn w);go_enter func192,ntmps192;go_wp2_with fail;refine H.out.mono ?_;rintro e w1 ⟨rfl,rfl⟩;go_wp2;go_ret2;exact⟨rfl,rfl⟩
def rel(w:World)(nb m:Nat)(s:ByteArray)(vi:Value)(wr:World):Prop:=∃i:Nat,i≤m∧(0<m→0<i)∧vi=.int .i64 i∧B wr nb m s i∧Below w.heap.size w wr
def Post(w:World)(s:ByteArray)(m:Nat)(e:Ending)(w':World):Prop:=
 ∃b,e=.returned (.slice (some ⟨b,0,none⟩) m m)∧SlV w' 9 1 (.slice (some ⟨b,0,none⟩) m m) m (List.replicate m (.string s))∧w.heap.size≤b∧b<w'.heap.size∧Below w.heap.size w w'
theorem repeat'{w:World}{g:Nat}{s:ByteArray}(hc:w.cell? ⟨g,0,none⟩=some (.string s))(cap:Nat)(m:Nat)(hm:m≤65536):
  Calls Tryz.prog 142 #[.slice (some ⟨g,0,none⟩) 1 cap,.int .i64 m] w (Post w s m):=by
 obtain⟨i0,hi0,hz0,hz1,hz2⟩:=info_parts infoS;have hgl:g<w.heap.size:=by
  unfold World.cell? at hc;cases hg:w.heap[g]? with
  |none=>rw[hg] at hc;cases hc
  |some _=>exact lQ hg
 have hms:=run_makeSlice (P:=Tryz.prog) w 265 9 i0 (.string ByteArray.empty) Tryz.underlying265 hi0 hz0 .i64 .i64 (m:Int) (m:Int) (by omega) (by omega) (by rw[hz1];omega) (by rw[hz2];omega) (by omega);rw[Int.toNat_natCast,hz1] at hms;have hb1:Below w.heap.size w (w.alloc (.cells (madeCells (Value.string ByteArray.empty).cells (m*1)) 9)):=Ba _;have hB0:B (w.alloc (.cells (madeCells (Value.string ByteArray.empty).cells (m*1)) 9)) w.heap.size m s 0:=⟨_,heap_alloc_new w _,by rw[size_madeCells];omega,fun j hj=>absurd hj (Nat.not_lt_zero _)⟩;have hc1:(w.alloc (.cells (madeCells (Value.string ByteArray.empty).cells (m*1)) 9)).cell? ⟨g,0,none⟩=some (.string s):=(World.cell?_of_block (w:=w) (Below.heap_alloc _ _ _ hgl)).trans hc;generalize hW1:w.alloc (.cells (madeCells (Value.string ByteArray.empty).cells (m*1)) 9)=w1 at*;obtain⟨nb,hnb⟩:∃q,w.heap.size=q:=⟨_,rfl⟩;have hnl:w.heap.size≤nb:=by omega
 rw[hnb] at hms hB0;have hkm:∃k,Nat.min 1 m=k:=⟨_,rfl⟩;obtain⟨k,hk⟩:=hkm;have hk1:k≤m∧k≤1∧(0<m→0<k):=by subst hk;simp only[Nat.min_def];split<;>omega
 have hcp0:∀ty dc sc,(Builtin.copy_ #[265,265] ty #[.slice (some ⟨nb,0,none⟩) m dc,.slice (some ⟨g,0,none⟩) 1 sc]).run Tryz.prog w1=.ok (goInt (List.replicate k (Value.string s)).length) (w1.setCells nb 0 (List.replicate k (.string s))):=fun ty dc sc=>
  run_copy_cells w1 _ _ ty 9 nb 0 m dc ⟨g,0,none⟩ 1 sc _ Tryz.underlying265 hsz (by rw[List.length_replicate];exact hk.symm)
   (fun j v hj=>by
    obtain⟨q1,q2⟩:=rep_get hj;obtain rfl:j=0:=by omega
    rw[Addr.add_lit,q2];exact hc1)
   (fun j hj=>by rw[Nat.zero_add];rw[List.length_replicate] at hj;exact hB0.some j (by omega)) (fun j hj=>hB0.free _) (rep_one s k)
 rw[List.length_replicate] at hcp0;have HB1:=Lh hB0;have hR0:rel w nb m s (.int .i64 k) (w1.setCells nb 0 (List.replicate k (.string s))):=⟨k,hk1.1,hk1.2.2,rfl,by have:=hB0.fill (k:=k) (by omega);rw[Nat.zero_add] at this;exact this,Mod.below hb1 (mod_setCells nb (List.replicate k (.string s)) w1 0) hb1.size fun i _ e=>by omega⟩;have HR0:=Lh hR0;have HFin:Hid (∀wr,B wr nb m s m→Below w.heap.size w wr→Post w s m (.returned (.slice (some ⟨nb,0,none⟩) m m)) wr):=Lh fun wr hB hW=>by
  obtain⟨cur,q1,q2,q3⟩:=hB;exact⟨nb,rfl,⟨by simp,.inr ⟨nb,0,m,cur,rfl,q1,Nat.le_refl _,by unfold maxLen;omega,by omega,fun j hj=>by rw[Nat.zero_add,q3 j (by omega),List.getElem?_replicate,if_pos (by omega)]⟩⟩,hnl,lQ q1,hW⟩
 generalize Post w s m=PQ at*;have HMul:=Lh fun V=>mul m hm V
 have HMs:=Lh hms;have m0:(0:Int)≤m:=by omega
 have m1:(m:Int)≤65536:=by omega
 have Hnl:=Lh hnl;have Hkk:=Lh hk;clear hms hB0 hc1 hb1 hk1 hk hR0 hc hgl hnb hnl;go_enter func142,ntmps142;go_wp2_with fail;refine(HMul.out _).mono ?_;rintro e w2 ⟨rfl,rfl⟩;have hms:=HMs.out;go_wp2_with (at_builtin;refine Sl.wpList_copy_at _ rfl _ _ 265 265 rfl _ _ rfl rfl (hcp0 _ _ _) ?_);clear hcp0 hms HMs HMul;go_loopw [8] (fun vi wr=>rel w nb m s vi wr) (fun vi _=>m - (intOf vi).toNat)
 case atStart=>exact HR0.out
 case round=>
  clear HR0 HB1;obtain⟨i,hi,hpos,rfl,hB,hbw⟩:=hrel;have HB:=Lh hB;have HW:=Lh hbw
  by_cases hin:i<m
  ·have hi0:=hpos (by omega);obtain⟨q,hq⟩:∃q,Nat.min i (m - i)=q:=⟨_,rfl⟩;have hq1:q≤m - i∧q≤i∧0<q:=by subst hq;simp only[Nat.min_def];split<;>omega
   have hBd:B wr.drew nb m s i:=hB;have hcp:∀ty dc sc,(Builtin.copy_ #[265,265] ty #[.slice (some ⟨nb,i,none⟩) (m - i) dc,.slice (some ⟨nb,0,none⟩) i sc]).run Tryz.prog wr.drew=.ok (goInt (List.replicate q (Value.string s)).length) (wr.drew.setCells nb i (List.replicate q (.string s))):=fun ty dc sc=>
    run_copy_cells wr.drew _ _ ty 9 nb i (m - i) dc ⟨nb,0,none⟩ i sc _ Tryz.underlying265 hsz (by rw[List.length_replicate];exact hq.symm)
     (fun j v hj=>by
      obtain⟨q1,q2⟩:=rep_get hj;rw[Addr.add_lit,q2,Nat.zero_add];exact hBd.cell j (by omega))
     (fun j hj=>by rw[List.length_replicate] at hj;exact hBd.some (i+j) (by omega)) (fun j hj=>hBd.free _) (rep_one s q)
   rw[List.length_replicate] at hcp;have HN:Hid (rel w nb m s (.int .i64 (i+q:Nat)) (wr.drew.setCells nb i (List.replicate q (.string s)))):=Lh ⟨i+q,by omega,fun _=>by omega,rfl,hBd.fill (by omega),Mod.below hbw.drew (mod_setCells nb (List.replicate q (.string s)) wr.drew i) hbw.size fun k _ e=>by have:=Hnl.out;omega⟩;have Hq:=Lh hq1;have iw:IntKind.i64.wrap ((i:Int)+(q:Int))=(i:Int)+q:=by rw[IntKind.wrap_i64];omega
   have hmi:¬m=i:=by omega
   have i1:(0:Int)≤i:=by omega
   have i2:(i:Int)<m:=by omega
   have i3:(i:Int)≤m:=by omega
   clear hB hbw hpos hq1 hq hBd;go_wp2_with fail;refine wp_region_held (S:=fun _=>True) (by kernel_rfl) ?_
   change wpAnyH _ _ _ _ _ _ _ _ wr.drew
   generalize wr.drew=wd at*;refine T 0 trivial ?_;refine T 1 trivial ?_;refine T 2 trivial ?_;refine T 3 trivial ?_;refine T 4 trivial ?_;refine T 5 trivial ?_;refine T 6 trivial ?_;refine H_one (i:=7) (by kernel_rfl) rfl (fun K hK=> ?_);refine Sl.step_copy_at rfl _ _ 265 265 rfl (.slice (some ⟨nb,i,none⟩) (m - i) (m - i)) (.slice (some ⟨nb,0,none⟩) i m) (by simp[Act.eval,Act.put,hmi]) (by simp[Act.eval,Act.put]) (hcp _ _ _) ?_;refine hK.out _ _ trivial (fun _=> ?_);clear hK K;try simp only[Act.put,Za,Zb,Zc,Zd,Ze,Zf]
   refine T 8 trivial ?_;refine T 9 trivial ?_;refine wpAnyH_done (by kernel_rfl) ?_ _;go_wp2;have hq2:=Hq.out;exact⟨by have:=HN.out;rw[Int.natCast_add] at this;exact this,by simp[intOf];omega⟩
  ·obtain rfl:i=m:=by omega
   have HF:=Lh (HFin.out wr hB hbw);clear hB hbw;go_wp2
   first|exact HF.out|(go_ret;exact HF.out)
end Go.Proofs.YtnpicaigdfnmfaaGreat.Rep
namespace Go.Proofs.YtnpicaigdfnmfaaGreat
open Go.RowKit
theorem Knl.addRow{w w1 w2:World}{a:KAt}{K:Kn}(h:Knl w a K)(hb:Below w.heap.size w w1){v bv':Value}{l:List ByteArray}(hv:SlV w1 9 1 v l.length (l.map .string))(hvn:∀k,v.ownBlock=some k→w.heap.size≤k∧k<w1.heap.size)
  (ho:SlV w2 265 1 bv' (a.rows.length+1) (a.rows++[v])) (hm:Mod (fun k=>a.bv.ownBlock=some k) w1 w2) (hbv:bv'.ownBlock=a.bv.ownBlock∨∃k,bv'.ownBlock=some k∧w1.heap.size≤k) (hbl:∀k,bv'.ownBlock=some k→k<w2.heap.size) (hs:∀s,s∈l→s.size=64):
  ∃a',Knl (w2.setCell ⟨a.kb,4,none⟩ bv') a' { K with B:=K.B++[l] }∧a'.kb=a.kb∧(∀k,a'.tag k≠0→a.tag k≠0∨w.heap.size≤k)∧a'.c=a.c∧a'.hv=a.hv∧a'.nb=a.nb∧a'.bv=bv':=by
 have hz1:=hb.size;have hz2:=hm.size;have hM:Mod (fun k=>k=a.kb∨a.bv.ownBlock=some k) w (w2.setCell ⟨a.kb,4,none⟩ bv'):=((Mod.of_below hb _).trans (hm.mono fun k _ g=>.inr g) fun i _ g=>.inl g).trans (Mod.setCell (F:=fun i=>i=a.kb) (Mod.refl _ _) ⟨a.kb,4,none⟩ (.inl rfl) bv') fun i _ g=>.inl (.inl g)
 have hkl:=lQ h.head;have hbk:a.bv.ownBlock≠some a.kb:=fun e=>by have:=h.t4 _ e;rw[h.t1] at this;omega
 have hvk:v.ownBlock≠some a.kb:=fun e=>by have:=(hvn _ e).1;omega
 have hb'k:bv'.ownBlock≠some a.kb:=fun e=>by
  rcases hbv with g|⟨k,g,gk⟩
  ·exact hbk (g▸e)
  ·rw[g] at e;cases e;omega
 have hhead:w2.heap[a.kb]? =some (.cells (a.cells K) 263 (0,0)):=(hm.block _ (Nat.lt_of_lt_of_le hkl hz1) hbk).trans ((hb.block _ hkl).trans h.head);have hnot:∀k,a.tag k≠0→a.tag k≠1→a.tag k≠4→¬(k=a.kb∨a.bv.ownBlock=some k):=fun k _ h1 h4 g=>g.elim (fun e=>h1 (e▸h.t1)) fun e=>h4 (h.t4 k e)
 obtain⟨T,hT⟩:∃T:Nat→Nat,T=fun k=>if k<w.heap.size then a.tag k else if v.ownBlock=some k then 6+a.rows.length else if bv'.ownBlock=some k then 4 else 0:=⟨_,rfl⟩
 have To:∀k,k<w.heap.size→T k=a.tag k:=fun k hk=>by rw[hT];exact if_pos hk
 have Ta:∀k,a.tag k≠0→T k=a.tag k:=fun k hk=>To k (h.lt k hk)
 have hset:=(Mod.setCell (F:=fun i=>i=a.kb) (Mod.refl _ w2) ⟨a.kb,4,none⟩ (.inl rfl) bv');refine⟨{ a with bv:=bv',rows:=a.rows++[v],tag:=T }, ?_,rfl,fun k hk=> ?_,rfl,rfl,rfl,rfl⟩
 ·exact {
      head:=heap_setCell_same w2 a.kb 4 _ _ bv' hhead
      hx:=SlV.mod h.hx hM fun k hk=>hnot k (by rw[h.t5 k (.inl hk)];decide) (by rw[h.t5 k (.inl hk)];decide) (by rw[h.t5 k (.inl hk)];decide)
      chx:=SlV.mod h.chx hM fun k hk=>hnot k (by rw[h.t5 k (.inr (.inl hk))];decide) (by rw[h.t5 k (.inr (.inl hk))];decide) (by rw[h.t5 k (.inr (.inl hk))];decide)
      caps:=h.caps.mod hM fun k hk=>by
       rcases hk with g|g
       ·exact hnot k (by rw[h.t2 k g];decide) (by rw[h.t2 k g];decide) (by rw[h.t2 k g];decide)
       ·exact hnot k (by rw[h.t5 k (.inr (.inr g))];decide) (by rw[h.t5 k (.inr (.inr g))];decide) (by rw[h.t5 k (.inr (.inr g))];decide)
      nic:=KStep.nic_fit (h.nic.keep hM fun k (hk:a.tag k=3)=>hnot k (by rw[hk];decide) (by rw[hk];decide) (by rw[hk];decide)) fun k (hk:a.tag k=3) _=>(Ta k (by rw[hk];decide)).trans hk
      len:=by show(a.rows++[v]).length=(K.B++[l]).length;simp[h.len]
      outer:=by
       show SlV _ _ 1 bv' (a.rows++[v]).length (a.rows++[v])
       rw[List.length_append,List.length_singleton];exact ho.mod hset fun k hk e=>hb'k (e▸hk)
      inner:=fun i u m hu hml=>by
       have hu:(a.rows++[v])[i]? =some u:=hu;have hml:(K.B++[l])[i]? =some m:=hml;rcases Nat.lt_or_ge i a.rows.length with q|q
       ·rw[List.getElem?_append_left q] at hu;rw[List.getElem?_append_left (by rw[←h.len];exact q)] at hml;exact(h.inner i u m hu hml).mod hM fun k hk=>hnot k (by rw[h.t6 i u k hu hk];omega) (by rw[h.t6 i u k hu hk];omega) (by rw[h.t6 i u k hu hk];omega)
       ·rw[List.getElem?_append_right q] at hu;rw[List.getElem?_append_right (by rw[←h.len];exact q)] at hml;have e:i - a.rows.length=0:=by
         have:=(List.getElem?_eq_some_iff.1 hu).1;simp at this;omega
        rw[e] at hu;rw[←h.len,e] at hml;simp at hu hml;subst hu;subst hml;refine(hv.mod hm fun k hk g=> ?_).mod hset fun k hk e=>hvk (e▸hk)
        have:=(hvn k hk).1;have:=h.lt k (by rw[h.t4 k g];decide);omega
      ok:=⟨h.ok.n0,h.ok.n1,fun i m hml s hsm=>by
       have hml:(K.B++[l])[i]? =some m:=hml;rcases Nat.lt_or_ge i K.B.length with q|q
       ·rw[List.getElem?_append_left q] at hml;exact h.ok.bs i m hml s hsm
       ·rw[List.getElem?_append_right q] at hml;have e:i - K.B.length=0:=by
         have:=(List.getElem?_eq_some_iff.1 hml).1;simp at this;omega
        rw[e] at hml;simp at hml;subst hml;exact hs s hsm,h.ok.q,h.ok.hl,h.ok.g0⟩
      t1:=(Ta _ (by rw[h.t1];decide)).trans h.t1
      t2:=fun k hk=>(Ta _ (by rw[h.t2 k hk];decide)).trans (h.t2 k hk)
      t4:=fun k hk=>by
       have hk:bv'.ownBlock=some k:=hk;rcases hbv with g|⟨q,g,gk⟩
       ·have:=h.t4 k (g▸hk);exact(Ta _ (by rw[this];decide)).trans this
       ·rw[g] at hk;cases hk
        show T k=4
        rw[hT]
        show(if k<w.heap.size then _ else _)=4
        rw[if_neg (by omega),if_neg (fun e=>by have:=(hvn _ e).2;omega),if_pos g]
      t5:=fun k hk=>(Ta _ (by rw[h.t5 k hk];decide)).trans (h.t5 k hk)
      t6:=fun i u k hu hk=>by
       have hu:(a.rows++[v])[i]? =some u:=hu;rcases Nat.lt_or_ge i a.rows.length with q|q
       ·rw[List.getElem?_append_left q] at hu;exact(Ta _ (by rw[h.t6 i u k hu hk];omega)).trans (h.t6 i u k hu hk)
       ·rw[List.getElem?_append_right q] at hu;have e:i - a.rows.length=0:=by
         have:=(List.getElem?_eq_some_iff.1 hu).1;simp at this;omega
        rw[e] at hu;simp at hu;subst hu
        show T k=6+i
        rw[hT]
        show(if k<w.heap.size then _ else _)=6+i
        rw[if_neg (by have:=(hvn _ hk).1;omega),if_pos hk];omega
      lt:=fun k hk=>by
       have hk:T k≠0:=hk;have hz:(w2.setCell ⟨a.kb,4,none⟩ bv').heap.size=w2.heap.size:=by simp[World.setCell]
       rw[hz];rw[hT] at hk;have hk:(if k<w.heap.size then a.tag k else if v.ownBlock=some k then 6+a.rows.length else if bv'.ownBlock=some k then 4 else 0)≠0:=hk
       split at hk
       ·omega
       ·split at hk
        ·rename_i q;have:=(hvn _ q).2;omega
        ·split at hk
         ·rename_i q;exact hbl k q
         ·exact absurd rfl hk }
 ·have hk:T k≠0:=hk;rcases Nat.lt_or_ge k w.heap.size with q|q
  ·exact .inl (by rw[←To k q];exact hk)
  ·exact .inr q
def z64:ByteArray:=strOfNums (List.replicate 64 0)
theorem z64_size:z64.size=64:=by unfold z64;rw[strOfNums_size,List.length_replicate]
def Kn.new(hp:Int)(xs:List Int):Kn:=⟨hp,xs,fun _=>none,Ni.newS,xs.map fun n=>List.replicate n.toNat z64,0⟩
def KNewPost(w:World)(hp:Int)(xs:List Int)(e:Ending)(w':World):Prop:=
 ∃a,e=.returned (.tuple #[.pointer (some ⟨a.kb,0,none⟩),.int .i64 0])∧Knl w' a (Kn.new hp xs)∧(∀k,a.tag k≠0→w.heap.size≤k)∧Below w.heap.size w w'
def nwRel(w:World)(hp:Int)(xs:List Int)(hv:Value)(kb:Nat)(vi:Value)(wr:World):Prop:=
 ∃(i:Nat) (a:KAt),i≤xs.length∧vi=.int .i64 i∧Knl wr a ⟨hp,xs,fun _=>none,Ni.newS,(xs.take i).map fun n=>List.replicate n.toNat z64,0⟩∧a.kb=kb∧a.hv=hv∧(∀k,a.tag k≠0→w.heap.size≤k)∧Below w.heap.size w wr
theorem Knl.first{w1 w3 w5:World}{n2:Nat}{cb mb:Nat}{hvc hv2:Value}{hp:Int}{xs:List Int}(hcl:cb<n2)(hml:mb<n2)(z23:n2≤w3.heap.size)(hc:Cps w3 ⟨cb,mb,hvc,fun _=>cb,fun _=>.slice none 0 0,fun _=>.slice none 0 0⟩ hp (fun _=>none))(hs1:SlV w3 42 1 hvc xs.length (xs.map (Value.int .u32)))(ho1:∀b,hvc.ownBlock=some b→w1.heap.size≤b∧b<n2∧b≠cb∧b≠mb)(hmb:w1.heap.size≤mb)(hcb:w1.heap.size≤cb)
  (hs2:SlV w3 42 1 hv2 xs.length (xs.map (Value.int .u32))) (ho2:∀b,hv2.ownBlock=some b→n2≤b∧b<w3.heap.size)
  {w4:World} (h34:Below w3.heap.size w3 w4) (hn:Ni.Nc w5 (w4.heap.size+1) w4.heap.size (fun _=>.slice none 0 0) (.slice none 0 0) Ni.newS) (h45:Below w4.heap.size w4 w5) (hz:w5.heap.size=w4.heap.size+2) (hl:xs.length≤2000000):
  ∃a,Knl (w5.alloc (.cells #[.int .u32 hp,hv2,.pointer (some ⟨cb,0,none⟩),.pointer (some ⟨w4.heap.size+1,0,none⟩),.slice none 0 0,.int .u32 0] 263)) a ⟨hp,xs,fun _=>none,Ni.newS,[],0⟩∧a.kb=w5.heap.size∧a.hv=hv2∧∀k,a.tag k≠0→w1.heap.size≤k:=by
 have z34:=h34.size;have z45:=h45.size;have hb:Below w5.heap.size w5 (w5.alloc (.cells #[.int .u32 hp,hv2,.pointer (some ⟨cb,0,none⟩),.pointer (some ⟨w4.heap.size+1,0,none⟩),.slice none 0 0,.int .u32 0] 263)):=Ba _;have h35:=bQ h34 h45;obtain⟨T,hT⟩:∃T:Nat→Nat,T=fun k=>if k=w5.heap.size then 1 else if k=cb∨k=mb then 2 else if k=w4.heap.size∨k=w4.heap.size+1 then 3 else if hv2.ownBlock=some k∨hvc.ownBlock=some k then 5 else 0:=⟨_,rfl⟩
 have t1:T w5.heap.size=1:=by rw[hT];exact if_pos rfl
 have t2:∀k,k=cb∨k=mb→T k=2:=fun k hk=>by
  rw[hT]
  show(if _ then _ else _)=2
  rw[if_neg (by omega),if_pos hk]
 have t3:∀k,k=w4.heap.size∨k=w4.heap.size+1→T k=3:=fun k hk=>by
  rw[hT]
  show(if _ then _ else _)=3
  rw[if_neg (by omega),if_neg (by omega),if_pos hk]
 have t5:∀k,hv2.ownBlock=some k∨hvc.ownBlock=some k→T k=5:=fun k hk=>by
  have hlt:k<w3.heap.size∧k≠cb∧k≠mb:=by
   rcases hk with g|g
   ·have:=ho2 k g;omega
   ·have:=ho1 k g;omega
  rw[hT]
  show(if _ then _ else _)=5
  rw[if_neg (by omega),if_neg (by omega),if_neg (by omega),if_pos hk]
 have t0:∀k,T k≠0→w1.heap.size≤k∧k≤w5.heap.size:=fun k hk=>by
  have z12:w1.heap.size≤n2:=by omega
  rw[hT] at hk;have hk:(if k=w5.heap.size then 1 else if k=cb∨k=mb then 2 else if k=w4.heap.size∨k=w4.heap.size+1 then 3 else if hv2.ownBlock=some k∨hvc.ownBlock=some k then 5 else 0)≠0:=hk
  split at hk
  ·omega
  ·split at hk
   ·omega
   ·split at hk
    ·omega
    ·split at hk
     ·rename_i q
      rcases q with g|g
      ·have:=ho2 k g;omega
      ·have:=ho1 k g;omega
     ·exact absurd rfl hk
 refine⟨⟨w5.heap.size,⟨cb,mb,hvc,fun _=>cb,fun _=>.slice none 0 0,fun _=>.slice none 0 0⟩,w4.heap.size+1,hv2,.slice none 0 0,[],T⟩, ?_,rfl,rfl,fun k hk=>(t0 k hk).1⟩;exact {
     head:=heap_alloc_new w5 _
     hx:=(hs2.below h35).below hb
     chx:=(hs1.below h35).below hb
     caps:=(hc.below h35).below hb
     nic:=(show Ni.NicO w5 (fun k=>T k=3) (w4.heap.size+1) Ni.newS from⟨_,_,_,hn,fun k hk=>t3 k (by
      rcases hk with g|g|g|⟨x,g⟩
      ·exact .inr g
      ·exact .inl g
      ·cases g
      ·cases g)⟩).same hb
     len:=rfl
     outer:=SlV.nil _ _ _
     inner:=fun i v l hv=>by simp at hv
     ok:=⟨Int.le_refl 0,by show(0:Int)≤_;omega,fun i l hl=>by simp at hl,fun x s hs=>by simp[Ni.newS] at hs,hl,Int.le_refl 0⟩
     t1:=t1
     t2:=fun k hk=>t2 k (by
      rcases hk with g|g|⟨n,hn,_⟩
      ·exact .inl g
      ·exact .inr g
      ·cases hn)
     t4:=fun k hk=>by cases hk
     t5:=fun k hk=>t5 k (by
      rcases hk with g|g|⟨n,hn,_⟩
      ·exact .inl g
      ·exact .inr g
      ·cases hn)
     t6:=fun i v k hv=>by simp at hv
     lt:=fun k hk=>by have:=(t0 k hk).2;simp;omega }
theorem nw_round{w wd V w3 w5:World}{hp:Int}{xs:List Int}{hv:Value}{kb i n rb:Nat}{a:KAt}{o:Obj}{v5:Value}(hi:i<xs.length)(hx:xs[i]? =some (n:Int))
  (hK:Knl wd a ⟨hp,xs,fun _=>none,Ni.newS,(xs.take i).map fun n=>List.replicate n.toNat z64,0⟩) (hkb:a.kb=kb) (hhv:a.hv=hv) (ht:∀k,a.tag k≠0→w.heap.size≤k) (hbw:Below w.heap.size w wd)
  (hV:Below wd.heap.size wd V) (hR:SlV w3 9 1 (.slice (some ⟨rb,0,none⟩) n n) n (List.replicate n (.string z64))) (r0:V.heap.size≤rb) (r1:rb<w3.heap.size) (hb3:Below V.heap.size V w3)
  (q1:SlV w5 265 1 v5 (i+1) (a.rows++[.slice (some ⟨rb,0,none⟩) n n])) (q2:Mod (fun k=>a.bv.ownBlock=some k) (w3.alloc o) w5) (q3:v5.ownBlock=a.bv.ownBlock∨∃k,v5.ownBlock=some k∧(w3.alloc o).heap.size≤k):
  nwRel w hp xs hv kb (.int .i64 ((i:Int)+1)) (w5.setCell ⟨kb,4,none⟩ v5):=by
 have hlen:a.rows.length=i:=by rw[hK.len];simp;omega
 have hVs:=hV.size;have h3s:=hb3.size;have hb13:Below wd.heap.size wd (w3.alloc o):=(bQ hV hb3).alloc (by omega) _;have h13s:=hb13.size;have hz1:(w3.alloc o).heap.size=w3.heap.size+1:=by simp
 obtain⟨g,hg,hgl⟩:=q1.lt (by omega);have hrep:(List.replicate n z64).map Value.string=List.replicate n (.string z64):=by simp
 obtain⟨a',hk',p1,p2,p3,p4,p5,p6⟩:=Knl.addRow (v:=.slice (some ⟨rb,0,none⟩) n n) (l:=List.replicate n z64) hK hb13 (by
   rw[List.length_replicate,hrep];exact hR.keep fun g hg=>by cases hg;exact Below.heap_alloc _ _ _ r1) (fun k hk=>by cases hk;show wd.heap.size≤rb∧rb<(w3.alloc o).heap.size;omega) (by rw[hlen];exact q1) q2 q3 (fun k hk=>by rw[hg] at hk;cases hk;exact hgl) (fun s hs=>by rw[List.eq_of_mem_replicate hs,z64_size])
 have hw5:Below w.heap.size w w5:=Mod.below (bQ hbw hb13) q2 (by have:=hbw.size;omega) fun k _ hk=>ht k (by rw[hK.t4 k hk];decide)
 have hfin:Below w.heap.size w (w5.setCell ⟨kb,4,none⟩ v5):=Mod.below hw5 (Mod.setCell (F:=fun k=>k=kb) (Mod.refl _ _) ⟨kb,4,none⟩ (.inl rfl) v5) hw5.size fun k _ hk=>by
  subst hk;rw[←hkb];exact ht _ (by rw[hK.t1];decide)
 refine⟨i+1,a',hi,by simp, ?_,p1.trans hkb,p4▸hhv,fun k hk=> ?_,hfin⟩
 ·rw[←hkb];have e:(xs.take (i+1)).map (fun n=>List.replicate n.toNat z64)=(xs.take i).map (fun n=>List.replicate n.toNat z64)++[List.replicate n z64]:=by
   rw[List.take_add_one,hx]
   simp
  rw[e];exact hk'
 ·rcases p2 k hk with g|g
  ·exact ht k g
  ·have:=hbw.size;omega
theorem infoSS:(Tryz.prog.info? 265).map (fun i=>(i.zero,i.size,i.bytes))=some (some (.slice none 0 0),1,24):=by kernel_rfl
theorem lst_cell{w:World}{oa:Option Addr}{n oc:Nat}{xs:List Int}(h:Sl.Lst w (.slice oa n oc) xs){i:Nat}(hi:i<xs.length)(hn:n=xs.length){x:Int}(hx:xs[i]? =some x):∃g off,oa=some ⟨g,off,none⟩∧w.cell? ⟨g,off+i,none⟩=some (.int .u32 x):=by
 subst hn;rcases h.2 with⟨h0,_⟩|⟨g,off,cap,cur,hv,_⟩
 ·omega
 ·cases hv;refine⟨g,off,rfl, ?_⟩;rw[SlV.cell h i (by omega),List.getElem?_map,hx];rfl
theorem Kl.new{w:World}{a:Option Addr}{cap:Nat}{hp:Int}{xs:List Int}(h:Rs.Words w a xs)(hb0:∀x,x∈xs→0≤x∧x≤4294967295)(p0:0≤hp)(hk:Ca.hardOk hp xs=true):
  Calls Tryz.prog 91 #[.agg #[.int .u32 hp,.slice a xs.length cap]] w (KNewPost w hp xs):=by
 have hln:xs.length≤16∧∀x,x∈xs→x≤1024:=by
  unfold Ca.hardOk at hk;simp only[Bool.and_eq_true,decide_eq_true_eq,List.all_eq_true] at hk;exact⟨hk.1.2,hk.2⟩
 have hb:Below w.heap.size w (w.alloc (.cells #[.int .u32 hp,.slice a xs.length cap] 120)):=Ba _;have hblk:=heap_alloc_new w (.cells #[.int .u32 hp,.slice a xs.length cap] 120);have HNc:=Lh (Ca.new (cap:=cap) (Ca.words_below h hb) hb0 p0 hk);have HW:=Lh fun V (hV:Below w.heap.size w V)=>Cl.clone_u32 (cap:=cap) (n:=xs.length) (by simp) (Ca.words_at (Ca.words_below h hV)) (by omega) (Ca.u32_one xs)
 have HNw:=Lh fun V=>Ni.new V
 have HB:=Lh hb;have HBlk:=Lh hblk;obtain⟨c0,c1,cf⟩:=two_of hblk;have HLn:=Lh hln;have HX0:=Lh hb0;have HFin:Hid (∀V a,Knl V a (Kn.new hp xs)→(∀k,a.tag k≠0→w.heap.size≤k)→Below w.heap.size w V→KNewPost w hp xs (.returned (.tuple #[.pointer (some ⟨a.kb,0,none⟩),.int .i64 0])) V):=Lh fun V a h1 h2 h3=>⟨a,rfl,h1,h2,h3⟩
 generalize KNewPost w hp xs=PQ at*;clear hb hblk h hk hln hb0;go_enter func91,ntmps91;go_wp2_with fail;refine HNc.out.mono ?_;rintro e w2 ⟨cb,mb,hvc,rfl,hc,hs1,ho1,hmb,hcb,hb2⟩;have HC2:=Lh (And.intro hc (And.intro hs1 (And.intro ho1 (And.intro hmb hcb))));have hB2:=bQ HB.out hb2;have hbk2:=(hb2.block _ (lQ HBlk.out)).trans HBlk.out;obtain⟨c0,c1,cf⟩:=two_of hbk2;have HB2:=Lh hB2;have HBk2:=Lh hbk2;have HL2:Hid (w.heap.size<(w.alloc (.cells #[.int .u32 hp,.slice a xs.length cap] 120)).heap.size):=Lh (lQ HBlk.out);clear hc hs1 ho1 hmb hcb hb2 hB2 hbk2 HNc;go_wp2_with fail;refine(HW.out _ HB2.out).mono ?_;rintro e w2b ⟨hv,rfl,hsl,ho,hb3⟩;obtain⟨oa,oc,rfl⟩:=hsl.form;have hbk3:=(hb3.block _ (lQ HBk2.out)).trans HBk2.out;have hm3:Mod (fun i=>i=w.heap.size) w2b (w2b.setCell ⟨w.heap.size,1,none⟩ (.slice oa xs.length oc)):=Mod.setCell (F:=fun i=>i=w.heap.size) (Mod.refl _ _) ⟨w.heap.size,1,none⟩ (.inl rfl) _;have hbk4:=heap_setCell_same w2b w.heap.size 1 _ _ (.slice oa xs.length oc) hbk3;obtain⟨c0,c1,cf⟩:=two_of hbk3;have HBw3:Hid (Below w.heap.size w (w2b.setCell ⟨w.heap.size,1,none⟩ (.slice oa xs.length oc))):=Lh (Mod.below (bQ HB2.out hb3) hm3 (bQ HB2.out hb3).size fun k _ hk=>by subst hk;exact Nat.le_refl _);have hw1:=HL2.out;have HKf:Hid (∀w4 w5,Below (w2b.setCell ⟨w.heap.size,1,none⟩ (.slice oa xs.length oc)).heap.size (w2b.setCell ⟨w.heap.size,1,none⟩ (.slice oa xs.length oc)) w4→Ni.Nc w5 (w4.heap.size+1) w4.heap.size (fun _=>.slice none 0 0) (.slice none 0 0) Ni.newS→Below w4.heap.size w4 w5→w5.heap.size=w4.heap.size+2→
   ∃A,Knl (w5.alloc (.cells #[.int .u32 hp,.slice oa xs.length oc,.pointer (some ⟨cb,0,none⟩),.pointer (some ⟨w4.heap.size+1,0,none⟩),.slice none 0 0,.int .u32 0] 263)) A ⟨hp,xs,fun _=>none,Ni.newS,[],0⟩∧A.kb=w5.heap.size∧A.hv=.slice oa xs.length oc∧∀k,A.tag k≠0→(w.alloc (.cells #[.int .u32 hp,.slice a xs.length cap] 120)).heap.size≤k):=Lh fun w4 w5 h34 hn h45 hz=>by
  obtain⟨hc,hs1,ho1,hmb,hcb⟩:=HC2.out;have hcl:cb<w2.heap.size:=lQ hc.head;have hml:mb<w2.heap.size:=hc.lt (.inr (.inl rfl));refine Knl.first (w1:=w.alloc (.cells #[.int .u32 hp,.slice a xs.length cap] 120)) (n2:=w2.heap.size) hcl hml (Nat.le_trans hb3.size hm3.size) ((hc.below hb3).mod hm3 fun k hk e=> ?_) ((hs1.below hb3).mod hm3 fun k hk e=> ?_) ho1 hmb hcb (hsl.mod hm3 fun k hk e=> ?_) (fun k hk=>⟨(ho k hk).1,Nat.lt_of_lt_of_le (ho k hk).2 hm3.size⟩) h34 hn h45 hz (by have:=HLn.out.1;omega)
  ·subst e;rcases hk with(g|g|⟨n,hn,_⟩)|⟨n,hn,_⟩
   ·have g:w.heap.size=cb:=g;omega
   ·have g:w.heap.size=mb:=g;omega
   ·cases hn
   ·cases hn
  ·have:=(ho1 k hk).1;omega
  ·have:=(ho k hk).1;omega
 obtain⟨d0,d1,df⟩:=two_of hbk4;have HD3:=Lh (And.intro d0 d1);have HB4:=Lh hbk4;go_upto_region 5 with(fail);clear d0 d1 df c0 c1 cf hb3 hsl ho hbk3 hbk4 hm3 hw1;generalize w2b.setCell ⟨w.heap.size,1,none⟩ (.slice oa xs.length oc)=w3 at*;have hD:w3.drew.cell? ⟨w.heap.size,0,none⟩=some (.int .u32 hp)∧w3.drew.cell? ⟨w.heap.size,1,none⟩=some (.slice oa xs.length oc):=HD3.out;refine wp_region_held (S:=fun w'=>w'.cell? ⟨w.heap.size,0,none⟩=some (.int .u32 hp)∧w'.cell? ⟨w.heap.size,1,none⟩=some (.slice oa xs.length oc)) (by kernel_rfl) ?_
 change wpAnyH _ _ _ _ _ _ _ _ w3.drew
 generalize hwd:w3.drew=wd at*;refine T 0 hD ?_;refine T 1 hD ?_;refine H_one (i:=2) (by kernel_rfl) rfl (fun K hK=> ?_);go_simp;go_at_call 141;refine(HNw.out _).mono ?_;rintro e w5 ⟨rfl,hn5,hb5,hz5⟩;have hE:w5.cell? ⟨w.heap.size,0,none⟩=some (.int .u32 hp)∧w5.cell? ⟨w.heap.size,1,none⟩=some (.slice oa xs.length oc):=⟨cQ hb5 hD.1,cQ hb5 hD.2⟩;have HN5:=Lh (And.intro hn5 (And.intro hb5 hz5));clear hn5 hb5 hz5;refine hK.out _ _ hE (fun _=> ?_);clear hK K;try simp only[Act.put,Za,Zb,Zc,Zd,Ze,Zf]
 have hl5:w.heap.size<w5.heap.size:=by
  have h3:w.heap.size<wd.heap.size:=by rw[←hwd];exact lQ HB4.out
  exact Nat.lt_of_lt_of_le h3 HN5.out.2.1.size
 have hF:∀o,(w5.alloc o).cell? ⟨w.heap.size,0,none⟩=some (.int .u32 hp)∧(w5.alloc o).cell? ⟨w.heap.size,1,none⟩=some (.slice oa xs.length oc):=fun o=>⟨(World.cell?_of_block (w:=w5) (Below.heap_alloc _ _ _ hl5)).trans hE.1,(World.cell?_of_block (w:=w5) (Below.heap_alloc _ _ _ hl5)).trans hE.2⟩
 refine T 3 hE ?_;refine H_one (i:=4) (by kernel_rfl) rfl (fun K hK=> ?_);go_simp;refine hK.out _ _ (hF _) (fun _=> ?_);clear hK K;try simp only[Act.put,Za,Zb,Zc,Zd,Ze,Zf]
 refine T 5 (hF _) ?_;refine wpAnyH_done (by kernel_rfl) ?_ _;obtain⟨A,hA,hkb,hhv,htg⟩:=HKf.out wd _ (by rw[←hwd];exact Br.drew) HN5.out.1 HN5.out.2.1 HN5.out.2.2;have hbd:Below w.heap.size w wd:=by rw[←hwd];exact HBw3.out.drew
 have hb5:Below w.heap.size w w5:=bQ hbd HN5.out.2.1;have hw6:=hb5.alloc hb5.size (.cells #[.int .u32 hp,.slice oa xs.length oc,.pointer (some ⟨cb,0,none⟩),.pointer (some ⟨wd.heap.size+1,0,none⟩),.slice none 0 0,.int .u32 0] 263);have hbk6:(w5.alloc (.cells #[.int .u32 hp,.slice oa xs.length oc,.pointer (some ⟨cb,0,none⟩),.pointer (some ⟨wd.heap.size+1,0,none⟩),.slice none 0 0,.int .u32 0] 263)).heap[w.heap.size]? =some (.cells #[.int .u32 hp,.slice oa xs.length oc] 120):=by
  have h3:=HB4.out;have hl3:w.heap.size<wd.heap.size:=by rw[←hwd];exact lQ HB4.out
  refine(Below.heap_alloc _ _ _ (Nat.lt_of_lt_of_le hl3 HN5.out.2.1.size)).trans ((HN5.out.2.1.block _ hl3).trans ?_);rw[←hwd];exact HB4.out
 obtain⟨c0,c1,cf⟩:=two_of hbk6;have HA0:Hid (nwRel w hp xs (.slice oa xs.length oc) w5.heap.size (.int .i64 0) (w5.alloc (.cells #[.int .u32 hp,.slice oa xs.length oc,.pointer (some ⟨cb,0,none⟩),.pointer (some ⟨wd.heap.size+1,0,none⟩),.slice none 0 0,.int .u32 0] 263))):=Lh ⟨0,A,by omega,rfl,hA,hkb,hhv,fun k hk=>Nat.le_trans (Nat.le_of_lt HL2.out) (htg k hk),hw6⟩;clear hbk6 hw6 hA hkb hhv htg hb5 hbd hD hE hF hl5 HN5 HKf HB4 HD3 HBw3 HBk2 HB2 HC2 HW HNw;generalize w5.alloc (.cells #[.int .u32 hp,.slice oa xs.length oc,.pointer (some ⟨cb,0,none⟩),.pointer (some ⟨wd.heap.size+1,0,none⟩),.slice none 0 0,.int .u32 0] 263)=w6 at*;generalize w5.heap.size=kb at*;clear hwd w3;have HRp:Hid (∀(V:World) (g n:Nat),n≤1024→V.cell? ⟨g,0,none⟩=some (.string z64)→Calls Tryz.prog 142 #[.slice (some ⟨g,0,none⟩) 1 1,.int .i64 n] V (Rep.Post V z64 n)):=Lh fun V g n hn hc=>Rep.repeat' hc 1 n (by omega)
 obtain⟨i0,Hi⟩:=info_parts infoSS;have Hi:=Lh Hi;have hmk:∀W:World,(Instr.makeSlice 43 (.int .i64 64) (.int .i64 64)).run Tryz.prog W=.ok (.slice (some ⟨W.heap.size,0,none⟩) 64 64) (W.alloc (.cells (List.replicate 64 (Value.int .u8 0)).toArray 5)):=fun W=>run_makeBytes 64 (by decide) W
 have hms:∀W:World,(convert 43 9 (.slice (some ⟨W.heap.size,0,none⟩) 64 64)).run Tryz.prog (W.alloc (.cells (List.replicate 64 (Value.int .u8 0)).toArray 5))=.ok (.string z64) (W.alloc (.cells (List.replicate 64 (Value.int .u8 0)).toArray 5)):=fun W=>made_str 64 W
 obtain⟨arr,harr⟩:∃arr,arr=(List.replicate 64 (Value.int .u8 0)).toArray:=⟨_,rfl⟩;rw[←harr] at hmk hms;have Hmk:=Lh hmk;have Hms:=Lh hms;clear harr hmk hms;go_wp2;clear c0 c1 cf;go_loopw [8,29] (fun _ vi wr=>nwRel w hp xs (.slice oa xs.length oc) kb vi wr) (fun _ vi _=>xs.length - (intOf vi).toNat)
 case atStart=>exact HA0.out
 case round=>
  clear HA0;obtain⟨i,a',hi,rfl,hK,hkb,hhv,htg,hbw⟩:=hrel
  by_cases hin:i<xs.length
  ·obtain⟨n,hn⟩:∃n:Nat,xs[i]=(n:Int):=⟨xs[i].toNat,by have:=(HX0.out _ (List.getElem_mem hin)).1;omega⟩;have hx:xs[i]? =some (n:Int):=by rw[Zg hin,hn]
   have hn1:n≤1024:=by have:=HLn.out.2 _ (List.getElem_mem hin);omega
   have hn0:(0:Int)≤n:=by omega
   have hn2:(n:Int)≤1024:=by omega
   have hwn:IntKind.i64.wrap (n:Int)=n:=by rw[IntKind.wrap_i64];omega
   have hl16:xs.length≤16:=HLn.out.1;have hh:Sl.Lst wr (.slice oa xs.length oc) xs:=hhv▸hK.hx;obtain⟨g,off,rfl,hc⟩:=lst_cell hh hin rfl hx;have HK:=Lh hK;have HBw:=Lh hbw;have HT:=Lh htg;have hbe:=hK.outer.form;have hlen:a'.rows.length=i:=by rw[hK.len];simp;omega
   obtain⟨ba,bc,hbv⟩:=hbe;rw[hlen] at hbv;have hD:wr.drew.cell? ⟨kb,4,none⟩=some (.slice ba i bc):=by rw[←hkb,←hbv];exact hK.cell 4 _ rfl
   have HD:=Lh hD;have Hkb:=Lh hkb;have Hhv:=Lh hhv;have Hbv:=Lh hbv;have Hlen:=Lh hlen;have Hx:=Lh hx;clear hK hbw htg hh hD hkb hhv hbv hlen hx hi;have HS:Hid (∀V,Below wr.drew.heap.size wr.drew V→V.cell? ⟨kb,4,none⟩=some (.slice ba i bc)):=Lh fun V h=>cQ h HD.out
   have HA1:Hid (∀o,Below wr.drew.heap.size wr.drew (wr.drew.alloc o)):=Lh fun o=>Br.alloc (Nat.le_refl _) o
   have HA2:Hid (∀o o',Below wr.drew.heap.size wr.drew ((wr.drew.alloc o).alloc o')):=Lh fun o o'=>(HA1.out o).alloc (HA1.out o).size o'
   have HZ:Hid (((wr.drew.alloc (.cells arr 5)).alloc (.cells #[.string z64] 9)).cell? ⟨wr.drew.heap.size+1,0,none⟩=some (.string z64)):=Lh (by
    have h:=heap_alloc_new (wr.drew.alloc (.cells arr 5)) (.cells #[.string z64] 9);rw[show(wr.drew.alloc (.cells arr 5)).heap.size=wr.drew.heap.size+1 by simp] at h;unfold World.cell?;rw[h];rfl)
   have HOut:Hid (∀V,Below wr.drew.heap.size wr.drew V→SlV V 265 1 (.slice ba i bc) i a'.rows):=Lh fun V h=>by
    have:=HK.out.outer;rw[Hbv.out,Hlen.out] at this;exact SlV.below (w:=wr.drew) this h
   have HKb:Hid (∀(W:World) (o:Obj) (W5:World),Below wr.drew.heap.size wr.drew (W.alloc o)→Mod (fun k=>(Value.slice ba i bc).ownBlock=some k) (W.alloc o) W5→W5.cell? ⟨kb,4,none⟩=some (.slice ba i bc)∧W5.frozen? ⟨kb,4,none⟩=false):=Lh fun W o W5 hb hm=>by
    have hk:=HK.out.head;rw[Hkb.out] at hk;have hkl:kb<wr.drew.heap.size:=lQ (w:=wr.drew) hk;have hne:(Value.slice ba i bc).ownBlock≠some kb:=fun e=>by
     have:=HK.out.t4 kb (by rw[Hbv.out];exact e);rw[←Hkb.out,HK.out.t1] at this;omega
    have hh:=(hm.block kb (Nat.lt_of_lt_of_le hkl hb.size) hne).trans ((hb.block kb hkl).trans hk);refine⟨?_, ?_⟩
    ·rw[←Hbv.out];unfold World.cell?;rw[hh];rfl
    ·unfold World.frozen?;rw[hh]
     simp
   have hhR:Hid (∀(V w3:World) (o:Obj) (w5:World) (rb:Nat) (v5:Value),Below wr.drew.heap.size wr.drew V→SlV w3 9 1 (.slice (some ⟨rb,0,none⟩) n n) n (List.replicate n (.string z64))→V.heap.size≤rb→rb<w3.heap.size→Below V.heap.size V w3→
     SlV w5 265 1 v5 (i+1) (a'.rows++[.slice (some ⟨rb,0,none⟩) n n])→Mod (fun k=>(Value.slice ba i bc).ownBlock=some k) (w3.alloc o) w5→(v5.ownBlock=(Value.slice ba i bc).ownBlock∨∃k,v5.ownBlock=some k∧(w3.alloc o).heap.size≤k)→nwRel w hp xs (.slice (some ⟨g,off,none⟩) xs.length oc) kb (.int .i64 ((i:Int)+1)) (w5.setCell ⟨kb,4,none⟩ v5)):=Lh fun V w3 o w5 rb v5 hV hR r0 r1 hb3 q1 q2 q3=>
    nw_round hin Hx.out (HK.out.below Br.drew) Hkb.out Hhv.out HT.out HBw.out.drew hV hR r0 r1 hb3 q1 (by rw[Hbv.out];exact q2) (by rw[Hbv.out];exact q3)
   have hms:=Hms.out;have hmk:=Hmk.out;clear HK HBw HT Hkb Hhv Hbv Hlen Hx;go_upto_region 9 with(fail);refine wp_region_E (fun w'=>w'.cell? ⟨kb,4,none⟩=some (.slice ba i bc)) 15 (by kernel_rfl) ?_
   change AnyE _ _ _ _ _ _ _ _ _ wr.drew
   generalize hwd:wr.drew=wd at*;refine LT 0 HD.out ?_;refine LT 1 HD.out ?_;refine LT 2 HD.out ?_;refine LT 3 HD.out ?_;refine LT 4 HD.out ?_;refine LT 8 HD.out ?_;refine LT 9 HD.out ?_;refine LU 5 fun K hK=> ?_
   go_simp;refine LV hK (fun _=>(HS.out _ (HA1.out _))) ?_;clear hK K;refine LU 6 fun K hK=> ?_
   go_simp;refine LV hK (fun _=>(HS.out _ (HA1.out _))) ?_;clear hK K;refine LU 7 fun K hK=> ?_
   go_simp;refine LV hK (fun _=>(HS.out _ (HA2.out _ _))) ?_;clear hK K;clear hms;refine LU 10 fun K hK=> ?_
   go_simp;go_at_call 142;refine(HRp.out _ _ n hn1 HZ.out).mono ?_;rintro e w3 ⟨rb,rfl,hsl,hr0,hr1,hb3⟩;have HR3:=Lh (And.intro hsl (And.intro hr0 (And.intro hr1 hb3)));have HB3:Hid (Below wd.heap.size wd w3):=Lh (bQ (HA2.out _ _) hb3);have HA3:Hid (∀o,Below wd.heap.size wd (w3.alloc o)):=Lh fun o=>HB3.out.alloc HB3.out.size o
   clear hsl hr0 hr1 hb3;refine LV hK (fun _=>(HS.out _ HB3.out)) ?_;clear hK K;refine LU 11 fun K hK=> ?_
   go_simp;refine LV hK (fun _=>(HS.out _ (HA3.out _))) ?_;clear hK K;refine LU 12 fun K hK=> ?_
   refine step_append_slv rfl _ _ _ rfl 265 i0 (.slice none 0 0) 1 24 Tryz.underlying220 Hi.out.1 Hi.out.2.1 Hi.out.2.2.1 Hi.out.2.2.2 rfl (by omega) (.slice ba i bc) i a'.rows rfl (HOut.out _ (HA3.out _)) ⟨w3.heap.size,0,none⟩ 1 1 [.slice (some ⟨rb,0,none⟩) n n] rfl (by omega) rfl (World.news_of_block (cs:= #[.slice (some ⟨rb,0,none⟩) n n]) (t:=265) (fr:=(0,0)) (heap_alloc_new w3 _)) (fun x hx=>by simp at hx;subst hx;rfl) (by unfold maxLen;omega) (by omega) ?_;intro v5 w5 q1 q2 q3;have HA5:=Lh (And.intro q1 (And.intro q2 q3));have hS5:=HKb.out _ _ _ (HA3.out _) q2;obtain⟨hS5a,hS5f⟩:=hS5;clear q1 q2 q3;obtain⟨va,vc,rfl⟩:=HA5.out.1.form;refine LV hK (fun _=>hS5a) ?_;clear hK K;refine LU 13 fun K hK=> ?_
   go_simp;refine LV hK (fun _=>hS5a) ?_;clear hK K;refine LT 14 hS5a ?_;refine LU 15 fun K hK=> ?_
   go_simp;refine hK.out _ _ (fun e=>absurd rfl e) (fun _=> ?_);clear hK K;try simp only[Act.put,Za,Zb,Zc,Zd,Ze,Zf]
   refine E_done (by kernel_rfl) ?_ _;have hfin:=hhR.out _ _ _ _ _ _ (HA2.out _ _) HR3.out.1 HR3.out.2.1 HR3.out.2.2.1 HR3.out.2.2.2 HA5.out.1 HA5.out.2.1 HA5.out.2.2;generalize w5.setCell ⟨kb,4,none⟩ (.slice va (i+1) vc)=w7 at*;clear HA5 HR3 hhR HKb HOut HZ HA2 HA1 HS HD hS5a hS5f;go_wp2;refine⟨hfin,by simp[intOf];omega⟩
  ·have hx:xs.take i=xs:=List.take_of_length_le (by omega);rw[hx] at hK;have hend:=HFin.out wr a' hK htg hbw;rw[hkb] at hend;clear HFin hK htg hbw;go_wp2;exact hend
end Go.Proofs.YtnpicaigdfnmfaaGreat
