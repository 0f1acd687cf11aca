/- KdoG, R22J, R22K in one text. -/
import Derived.Test.YtjjdjpdmgaipeaaGreatCpCor
import Derived.Test.YtjjdjpdmgaipeaaGreatCpTskGW
import Derived.Maps.OwnSet
import Derived.Test.YtjjdjpdmgaipeaaGreatCpRefW
import Derived.Test.YtjjdjpdmgaipeaaGreatCpR22C
import Derived.Test.YtjjdjpdmgaipeaaGreatCpZa
set_option linter.unusedVariables false
set_option linter.unusedSimpArgs false
set_option maxRecDepth 100000
set_option maxHeartbeats 16000000
open Go.Proofs.Tryz
namespace Go.Proofs.YtjjdjpdmgaipeaaGreat
open Go.RowKit Word
def fnElem(v:Value):Option (DataW Unit×List MemPlace):=
 match v with
 | .func (.func k) p q=>if p.size=0∧q.size=0 then some (.lit (.int .i64 k),[]) else none
 | .nilFunc=>some (.lit (.int .i64 (-1)),[])
 |_=>none
theorem fnElem_inv{v:Value}{z:Int}{ps:List MemPlace}(h:fnElem v=some (.lit (.int .i64 z),ps)):(v=.nilFunc∧z= -1)∨∃k:Nat,v=.func (.func k) #[] #[]∧z=k:=by
 unfold fnElem at h
 split at h
 ·rename_i k p q
  split at h
  ·rename_i hz
   obtain⟨z1,z2⟩:=hz;rw[Array.size_eq_zero_iff] at z1 z2;subst z1;subst z2;simp at h;exact .inr ⟨k,rfl,h.1.symm⟩
  ·cases h
 ·simp at h;exact .inl ⟨rfl,h.1.symm⟩
 ·cases h
theorem kindOf(k c y:Int)(V:World):(Instr.field 58 (.agg #[.int .u8 k,.int .u32 c,.int .i64 y]) 0).run Tryz.prog V=.ok (.int .u8 k) V:=by kernel_rfl
namespace Kl
def fnAt(l:List (Int×Nat))(x:Int):Option Nat:=(l.find? fun p=>p.1 == x).map (·.2)
def Fns(D:DataW Unit)(l:List (Int×Nat)):Prop:=∀x,(∀zd,D.atKey (.int .u32 x) zd=match fnAt l x with|some f=>.lit (.int .i64 f)|none=>zd)∧Maps.has D (.int .u32 x)=(fnAt l x).isSome
theorem Fns.nil:Fns (.map []) []:=fun x=>⟨fun zd=>rfl,rfl⟩
theorem Fns.put{w:World}{b n:Nat}{D:DataW Unit}{l:List (Int×Nat)}(h:Fns D l)(ho:w.ownsMap Tryz.prog 22 fnElem b n D)(k:Int)(k0:0≤k)(k1:k≤4294967295)(f:Nat):Fns (D.put (.int .u32 k) (.lit (.int .i64 f))) ((k,f)::l):=fun x=>by
 have K:=Maps.int_keyed (P:=Tryz.prog) Tryz.underlying22;have hk:=Maps.keyOf_int_mk (P:=Tryz.prog) Tryz.underlying22 (wf_u32 k0 k1)
 by_cases e:k=x
 ·subst e;have hf:fnAt ((k,f)::l) k=some f:=by unfold fnAt;rw[List.find?_cons_of_pos (by simp)];rfl
  rw[hf];exact⟨fun zd=>by rw[Maps.atKey_put_same ho.isMap (K.key hk)],by rw[Maps.has_put_same ho.isMap (K.key hk)];rfl⟩
 ·have hf:fnAt ((k,f)::l) x=fnAt l x:=by unfold fnAt;rw[List.find?_cons_of_neg (by simpa using e)]
  rw[hf];have hne:¬(Lit.int .u32 x)=.int .u32 k:=by intro g;simp at g;exact e g.symm
  exact⟨fun zd=>by rw[Maps.atKey_put_other (by first|exact hne|simpa using hne)];exact(h x).1 zd,by rw[Maps.has_put_other (by first|exact hne|simpa using hne)];exact(h x).2⟩
def fns:List (Int×Nat):=[(10,195),(9,194),(8,193),(7,192),(6,191),(5,190),(4,189),(3,188),(2,187)]
def fnVal(x:Int):Value:=match fnAt fns x with|some f=>.func (.func f) #[] #[]|none=>.nilFunc
def AllPost(w:World)(e:Ending)(w':World):Prop:=
 ∃mb,e=.returned (.map (some mb))∧Below w.heap.size w w'∧∀x,0≤x→x≤4294967295→(Instr.lookup 175 (.map (some mb)) (.int .u32 x) true).run Tryz.prog w'=.ok (.tuple #[fnVal x,.bool (fnAt fns x).isSome]) w'
theorem zeroFn(w:World):(zeroValue 173).run Tryz.prog w=.ok .nilFunc w:=by kernel_rfl
theorem all(w:World):Calls Tryz.prog 89 #[] w (AllPost w):=by
 have hmm:= @run_makeMap Tryz.prog;have K:=Maps.int_keyed (P:=Tryz.prog) Tryz.underlying22;have h0:=World.ownsMap_made w Tryz.prog 22 fnElem;have b0:Below w.heap.size w (w.alloc (.map #[] 0)):=Ba _;have f0:Fns (.map []) []:=Fns.nil;obtain⟨w1,r1,h1,g1⟩:=h0.update K Tryz.underlying175 (by decide) (val:=.func (.func 187) #[] #[]) (d:=.lit (.int .i64 (187:Nat))) (ps:=[]) (Maps.keyOf_int_mk (P:=Tryz.prog) Tryz.underlying22 (wf_u32 (x:=2) (by decide) (by decide))) rfl;have b1:=b0.grown g1 b0.size (fun k e=>by cases e;exact Nat.le_refl _);have f1:=f0.put h0 2 (by decide) (by decide) 187;obtain⟨w2,r2,h2,g2⟩:=h1.update K Tryz.underlying175 (by decide) (val:=.func (.func 188) #[] #[]) (d:=.lit (.int .i64 (188:Nat))) (ps:=[]) (Maps.keyOf_int_mk (P:=Tryz.prog) Tryz.underlying22 (wf_u32 (x:=3) (by decide) (by decide))) rfl;have b2:=b1.grown g2 b1.size (fun k e=>by cases e;exact Nat.le_refl _);have f2:=f1.put h1 3 (by decide) (by decide) 188;obtain⟨w3,r3,h3,g3⟩:=h2.update K Tryz.underlying175 (by decide) (val:=.func (.func 189) #[] #[]) (d:=.lit (.int .i64 (189:Nat))) (ps:=[]) (Maps.keyOf_int_mk (P:=Tryz.prog) Tryz.underlying22 (wf_u32 (x:=4) (by decide) (by decide))) rfl;have b3:=b2.grown g3 b2.size (fun k e=>by cases e;exact Nat.le_refl _);have f3:=f2.put h2 4 (by decide) (by decide) 189;obtain⟨w4,r4,h4,g4⟩:=h3.update K Tryz.underlying175 (by decide) (val:=.func (.func 190) #[] #[]) (d:=.lit (.int .i64 (190:Nat))) (ps:=[]) (Maps.keyOf_int_mk (P:=Tryz.prog) Tryz.underlying22 (wf_u32 (x:=5) (by decide) (by decide))) rfl;have b4:=b3.grown g4 b3.size (fun k e=>by cases e;exact Nat.le_refl _);have f4:=f3.put h3 5 (by decide) (by decide) 190;obtain⟨w5,r5,h5,g5⟩:=h4.update K Tryz.underlying175 (by decide) (val:=.func (.func 191) #[] #[]) (d:=.lit (.int .i64 (191:Nat))) (ps:=[]) (Maps.keyOf_int_mk (P:=Tryz.prog) Tryz.underlying22 (wf_u32 (x:=6) (by decide) (by decide))) rfl;have b5:=b4.grown g5 b4.size (fun k e=>by cases e;exact Nat.le_refl _);have f5:=f4.put h4 6 (by decide) (by decide) 191;obtain⟨w6,r6,h6,g6⟩:=h5.update K Tryz.underlying175 (by decide) (val:=.func (.func 192) #[] #[]) (d:=.lit (.int .i64 (192:Nat))) (ps:=[]) (Maps.keyOf_int_mk (P:=Tryz.prog) Tryz.underlying22 (wf_u32 (x:=7) (by decide) (by decide))) rfl;have b6:=b5.grown g6 b5.size (fun k e=>by cases e;exact Nat.le_refl _);have f6:=f5.put h5 7 (by decide) (by decide) 192;obtain⟨w7,r7,h7,g7⟩:=h6.update K Tryz.underlying175 (by decide) (val:=.func (.func 193) #[] #[]) (d:=.lit (.int .i64 (193:Nat))) (ps:=[]) (Maps.keyOf_int_mk (P:=Tryz.prog) Tryz.underlying22 (wf_u32 (x:=8) (by decide) (by decide))) rfl;have b7:=b6.grown g7 b6.size (fun k e=>by cases e;exact Nat.le_refl _);have f7:=f6.put h6 8 (by decide) (by decide) 193;obtain⟨w8,r8,h8,g8⟩:=h7.update K Tryz.underlying175 (by decide) (val:=.func (.func 194) #[] #[]) (d:=.lit (.int .i64 (194:Nat))) (ps:=[]) (Maps.keyOf_int_mk (P:=Tryz.prog) Tryz.underlying22 (wf_u32 (x:=9) (by decide) (by decide))) rfl;have b8:=b7.grown g8 b7.size (fun k e=>by cases e;exact Nat.le_refl _);have f8:=f7.put h7 9 (by decide) (by decide) 194;obtain⟨w9,r9,h9,g9⟩:=h8.update K Tryz.underlying175 (by decide) (val:=.func (.func 195) #[] #[]) (d:=.lit (.int .i64 (195:Nat))) (ps:=[]) (Maps.keyOf_int_mk (P:=Tryz.prog) Tryz.underlying22 (wf_u32 (x:=10) (by decide) (by decide))) rfl;have b9:=b8.grown g9 b8.size (fun k e=>by cases e;exact Nat.le_refl _);have f9:=f8.put h8 10 (by decide) (by decide) 195;have HFin:Hid (AllPost w (.returned (.map (some w.heap.size))) w9):=Lh ⟨_,rfl,b9,fun x x0 x1=>by
  obtain⟨v,ps,hrun,hv⟩:=h9.look_ok K Tryz.underlying175 (zeroFn _) (zd:=.lit (.int .i64 (-1))) (zp:=[]) rfl (Maps.keyOf_int_mk (P:=Tryz.prog) Tryz.underlying22 (wf_u32 x0 x1));rw[(f9 x).1] at hv;rw[(f9 x).2] at hrun;rw[hrun];have e:v=fnVal x:=by
   unfold fnVal;have hv:fnElem v=some (match fnAt fns x with|some f=>.lit (.int .i64 f)|none=>.lit (.int .i64 (-1)),ps):=hv;cases hf:fnAt fns x with
   |none=>
    rw[hf] at hv;rcases fnElem_inv hv with⟨g,_⟩|⟨k,_,g⟩
    ·exact g
    ·omega
   |some f=>
    rw[hf] at hv;rcases fnElem_inv hv with⟨_,g⟩|⟨k,g,g'⟩
    ·omega
    ·rw[g];have:k=f:=by omega
     rw[this]
  rw[e];rfl⟩
 generalize AllPost w=PQ at*;clear h0 h1 h2 h3 h4 h5 h6 h7 h8 h9 b0 b1 b2 b3 b4 b5 b6 b7 b8 b9 f0 f1 f2 f3 f4 f5 f6 f7 f8 f9 g1 g2 g3 g4 g5 g6 g7 g8 g9;go_enter func89,ntmps89;go_wp2
 first|exact HFin.out|(go_ret;exact HFin.out)
def evC(x:Evt):Array Value:= #[.int .u8 x.kind,.int .i64 x.env,.string x.text,.int .u32 x.num]
def evt(K:Kn)(E:En)(blk:Nat)(num:Int):Evt:=if num=1 then⟨3,E.num,ByteArray.empty,E.arg 1,true⟩ else evOf Evt.none (Co.call K E blk num)
def DoPost(w:World)(a:KAt)(e:EAt)(K:Kn)(E:En)(num:Int)(r:Ending)(w':World):Prop:=
 ∃blk a' e',r=.returned (.tuple #[.agg (evC (evt K E blk num)),.bool (evt K E blk num).seen,.int .i64 0])∧JStep w w' a e E.A a' (Co.doK K E blk num) e' (Co.doE K E blk num)
theorem jpre{W0 W w:World}{a0 a:KAt}{K:Kn}{e0 e:EAt}{A0:List Pg}{E:En}(h:JStep W w a0 e0 A0 a K e E)(hb:Below W0.heap.size W0 W):JStep W0 w a0 e0 A0 a K e E:=
 {h with mod:=(Mod.of_below hb _).trans h.mod fun i _ g=>.inl g,tag:=fun k hk=>h.tag k (Nat.lt_of_lt_of_le hk hb.size),foot:=fun k hk=>(h.foot k hk).imp id fun g=>Nat.le_trans hb.size g}
theorem jblock{W w:World}{a0 a:KAt}{K:Kn}{e0 e:EAt}{A0:List Pg}{E:En}(h:JStep W w a0 e0 A0 a K e E){b:Nat}{o:Obj}(hb:W.heap[b]? =some o)(ha:a0.tag b=0)(he:¬e0.foot A0 b):w.heap[b]? =some o∧a.tag b=0∧¬e.foot E.A b:=by
 have hl:=lQ hb;refine⟨(h.mod.block b hl fun g=>g.elim (fun q=>q.1 ha) he).trans hb,(h.tag b hl).trans ha,fun g=>(h.foot b g).elim he fun q=>by omega⟩
theorem ev_set{V:World}{b:Nat}{a0 a1 a2 a3:Value}(h0:V.heap[b]? =some (.cells #[a0,a1,a2,a3] 66 (0,0)))(x y z u:Value):((((V.setCell ⟨b,0,none⟩ x).setCell ⟨b,1,none⟩ y).setCell ⟨b,2,none⟩ z).setCell ⟨b,3,none⟩ u).heap[b]? =some (.cells #[x,y,z,u] 66 (0,0)):=by
 have b1:=heap_setCell_same V b 0 _ _ x h0;have b2:=heap_setCell_same _ b 1 _ _ y b1;have b3:=heap_setCell_same _ b 2 _ _ z b2;exact heap_setCell_same _ b 3 _ _ u b3
theorem ev_cells{V:World}{b:Nat}{a0 a1 a2 a3:Value}(h:V.heap[b]? =some (.cells #[a0,a1,a2,a3] 66 (0,0))):V.cell? ⟨b,0,none⟩=some a0∧V.cell? ⟨b,1,none⟩=some a1∧V.cell? ⟨b,2,none⟩=some a2∧V.cell? ⟨b,3,none⟩=some a3∧∀i,V.frozen? ⟨b,i,none⟩=false:=by
 refine⟨?_, ?_, ?_, ?_,fun i=> ?_⟩
 ·unfold World.cell?;rw[h];rfl
 ·unfold World.cell?;rw[h];rfl
 ·unfold World.cell?;rw[h];rfl
 ·unfold World.cell?;rw[h];rfl
 ·unfold World.frozen?;rw[h];simp
theorem ev_mod(V:World)(b:Nat)(x y z u:Value):Mod (fun k=>k=b) V ((((V.setCell ⟨b,0,none⟩ x).setCell ⟨b,1,none⟩ y).setCell ⟨b,2,none⟩ z).setCell ⟨b,3,none⟩ u):=
 Mod.setCell (F:=fun i=>i=b) (Mod.setCell (F:=fun i=>i=b) (Mod.setCell (F:=fun i=>i=b) (Mod.setCell (F:=fun i=>i=b) (Mod.refl _ _) ⟨b,0,none⟩ (.inl rfl) _) ⟨b,1,none⟩ (.inl rfl) _) ⟨b,2,none⟩ (.inl rfl) _) ⟨b,3,none⟩ (.inl rfl) _
section
variable {w:World} {a:KAt} {K:Kn} {e:EAt} {E:En}
theorem do_call(h:KE w a K e E)(hn:1≤E.num∧E.num≤8)(hk:E.kind=2)(num:Int)(f:Nat)(h0:0≤num)(h1:num≤4294967295)(hne:num≠1)(hfv:fnVal num=.func (.func f) #[] #[])(hfb:(fnAt fns num).isSome=true)
  (hcf:∀args V,(callFunc f args).run Tryz.prog V=.ok (.enter f args) V)
  (hv:∀blk,0≤(Co.call K E blk num).v∧(Co.call K E blk num).v≤4294967295∧0≤(Co.call K E blk num).y∧(Co.call K E blk num).y≤4294967295)
  (hm:∀(W V:World) (tb:Nat),Tk W V tb a e E.A a K e E Evt.none→Calls Tryz.prog f #[.pointer (some ⟨tb,0,none⟩)] V (CallPost W tb a e E.A Evt.none fun b=>Co.call K E b num)):
  Calls Tryz.prog 19 #[.pointer (some ⟨a.kb,0,none⟩),.pointer (some ⟨e.eb,0,none⟩),.int .u32 num] w (DoPost w a e K E num):=by
 have hb0:Below w.heap.size w (w.alloc (.cells #[.int .u8 0,.int .i64 0,.string ByteArray.empty,.int .u32 0] 66)):=Ba _;have hx0:=heap_alloc_new w (.cells #[.int .u8 0,.int .i64 0,.string ByteArray.empty,.int .u32 0] 66);have hSt:=Ev.state (h.below hb0).en;rw[hk] at hSt;have HSt:=Lh hSt;have hfd:=kindOf 2 E.code E.why;have HAll:=Lh all;have HM:=Lh hm;have HV:=Lh hv;have HH:=Lh h;have HB0:=Lh hb0;have HX0:=Lh hx0;have HNm:=Lh (⟨hn,hne⟩:_∧_);have hn1b:(num == 1)=false:=beq_eq_false_iff_ne.2 hne;have HFin:Hid (∀V blk a' e',JStep w V a e E.A a' (Co.doK K E blk num) e' (Co.doE K E blk num)→DoPost w a e K E num (.returned (.tuple #[.agg (evC (evt K E blk num)),.bool (evt K E blk num).seen,.int .i64 0])) V):=Lh fun V blk a' e' g=>⟨blk,a',e',rfl,g⟩
 generalize DoPost w a e K E num=PQ at*;clear hSt hb0 hx0 hm hv h hn hk hne;go_enter func19,ntmps19;go_wp2_with fail;refine HSt.out.mono ?_;rintro r w1 ⟨rfl,hb1⟩;have HB1:=Lh (bQ HB0.out hb1);have HX1:=Lh ((hb1.block _ (lQ HX0.out)).trans HX0.out);clear hb1 HSt HB0 HX0;go_wp2_with fail;have hb2:Below w1.heap.size w1 (w1.alloc (.cells #[.pointer (some ⟨a.kb,0,none⟩),.pointer (some ⟨e.eb,0,none⟩),.int .u8 0,.int .i64 0,.string ByteArray.empty,.int .u32 0,.bool false] 170)):=Ba _;have ht2:=heap_alloc_new w1 (.cells #[.pointer (some ⟨a.kb,0,none⟩),.pointer (some ⟨e.eb,0,none⟩),.int .u8 0,.int .i64 0,.string ByteArray.empty,.int .u32 0,.bool false] 170);have hke:=HH.out.below HB1.out;have hT2:Tk w1 _ w1.heap.size a e E.A a K e E Evt.none:=⟨(JStep.refl hke).below hb2,ht2,Decidable.byContradiction fun q=>absurd (hke.kn.lt _ q) (Nat.lt_irrefl _),fun g=>absurd (hke.en.lt _ g) (Nat.lt_irrefl _),Nat.le_refl _,HNm.out.1⟩;have HT2:=Lh hT2;have HX2:=Lh ((hb2.block _ (lQ HX1.out)).trans HX1.out);refine(HAll.out _).mono ?_;rintro r w3 ⟨mb,rfl,hb3,hlk⟩;have HT3:=Lh (HT2.out.below hb3);have HX3:=Lh ((hb3.block _ (lQ HX2.out)).trans HX2.out);have hl:=hlk num h0 h1;rw[hfv,hfb] at hl;clear hb2 ht2 hke hT2 HT2 HX2 hb3 hlk HAll;go_wp2_with fail;refine(HM.out _ _ _ HT3.out).mono ?_;rintro r w4 ⟨blk,a4,e4,rfl,hT4⟩;have HT4:=Lh hT4;have hvb:=HV.out blk;have HAn:=Lh (Ev.answer hT4.s.j.en (Co.call K E blk num).v (Co.call K E blk num).y hvb.1 hvb.2.1 hvb.2.2.1 hvb.2.2.2);have heb:e4.eb=e.eb:=hT4.s.same.2.1;rw[heb] at HAn;clear hT4 hvb heb hl HM HV HT3;go_wp2_with fail;refine HAn.out.mono ?_;rintro r w5 ⟨rfl,hs5⟩;have HT5:=Lh (HT4.out.right hs5 rfl);have HW1:Hid (w.heap.size<w1.heap.size):=Lh (lQ HX1.out);have HKe:=HH.out;obtain⟨hx5,hta,hte⟩:=jblock HT5.out.s HX1.out (Decidable.byContradiction fun q=>absurd (HKe.kn.lt _ q) (Nat.lt_irrefl _)) (fun g=>absurd (HKe.en.lt _ g) (Nat.lt_irrefl _));have HX5:=Lh hx5;have HJ:=Lh (jpre HT5.out.s HB1.out);clear hs5 HKe HAn;obtain⟨kd,en,tx,nm,sn,hev⟩:∃kd en tx nm sn,evOf Evt.none (Co.call K E blk num)=⟨kd,en,tx,nm,sn⟩:=⟨_,_,_,_,_,rfl⟩;have hD:w5.drew.cell? ⟨w1.heap.size,2,none⟩=some (.int .u8 kd)∧w5.drew.cell? ⟨w1.heap.size,3,none⟩=some (.int .i64 en)∧w5.drew.cell? ⟨w1.heap.size,4,none⟩=some (.string tx)∧w5.drew.cell? ⟨w1.heap.size,5,none⟩=some (.int .u32 nm)∧w5.drew.cell? ⟨w1.heap.size,6,none⟩=some (.bool sn):=by
  have hb:=(HT5.out.below Br.drew).blk;rw[hev] at hb;refine⟨?_, ?_, ?_, ?_, ?_⟩<;>(unfold World.cell?;rw[hb];rfl)
 have hE:((((w5.drew.setCell ⟨w.heap.size,0,none⟩ (.int .u8 kd)).setCell ⟨w.heap.size,1,none⟩ (.int .i64 en)).setCell ⟨w.heap.size,2,none⟩ (.string tx)).setCell ⟨w.heap.size,3,none⟩ (.int .u32 nm)).cell? ⟨w1.heap.size,2,none⟩=some (.int .u8 kd)∧((((w5.drew.setCell ⟨w.heap.size,0,none⟩ (.int .u8 kd)).setCell ⟨w.heap.size,1,none⟩ (.int .i64 en)).setCell ⟨w.heap.size,2,none⟩ (.string tx)).setCell ⟨w.heap.size,3,none⟩ (.int .u32 nm)).cell? ⟨w1.heap.size,3,none⟩=some (.int .i64 en)∧((((w5.drew.setCell ⟨w.heap.size,0,none⟩ (.int .u8 kd)).setCell ⟨w.heap.size,1,none⟩ (.int .i64 en)).setCell ⟨w.heap.size,2,none⟩ (.string tx)).setCell ⟨w.heap.size,3,none⟩ (.int .u32 nm)).cell? ⟨w1.heap.size,4,none⟩=some (.string tx)∧((((w5.drew.setCell ⟨w.heap.size,0,none⟩ (.int .u8 kd)).setCell ⟨w.heap.size,1,none⟩ (.int .i64 en)).setCell ⟨w.heap.size,2,none⟩ (.string tx)).setCell ⟨w.heap.size,3,none⟩ (.int .u32 nm)).cell? ⟨w1.heap.size,5,none⟩=some (.int .u32 nm)∧((((w5.drew.setCell ⟨w.heap.size,0,none⟩ (.int .u8 kd)).setCell ⟨w.heap.size,1,none⟩ (.int .i64 en)).setCell ⟨w.heap.size,2,none⟩ (.string tx)).setCell ⟨w.heap.size,3,none⟩ (.int .u32 nm)).cell? ⟨w1.heap.size,6,none⟩=some (.bool sn):=by
  have hb:=(HT5.out.below Br.drew).blk;rw[hev] at hb;have hm:=ev_mod w5.drew w.heap.size (.int .u8 kd) (.int .i64 en) (.string tx) (.int .u32 nm);have hb':=(hm.block _ (lQ hb) (by have:=HW1.out;omega)).trans hb;refine⟨?_, ?_, ?_, ?_, ?_⟩<;>(unfold World.cell?;rw[hb'];rfl)
 have hxd:w5.drew.heap[w.heap.size]? =_:=hx5;have HEnd:Hid (PQ (.returned (.tuple #[.agg #[.int .u8 kd,.int .i64 en,.string tx,.int .u32 nm],.bool sn,.int .i64 0])) ((((w5.drew.setCell ⟨w.heap.size,0,none⟩ (.int .u8 kd)).setCell ⟨w.heap.size,1,none⟩ (.int .i64 en)).setCell ⟨w.heap.size,2,none⟩ (.string tx)).setCell ⟨w.heap.size,3,none⟩ (.int .u32 nm))):=Lh (by
  have hj:=(HJ.out.below Br.drew).turn (ev_mod w5.drew w.heap.size (.int .u8 kd) (.int .i64 en) (.string tx) (.int .u32 nm)) fun k hk=>by subst hk;exact⟨hta,hte,Nat.le_refl _⟩
  have e1:Co.doK K E blk num=(Co.call K E blk num).K:=by unfold Co.doK;rw[if_neg HNm.out.2]
  have e2:Co.doE K E blk num=(Co.call K E blk num).E.answer (Co.call K E blk num).v (Co.call K E blk num).y:=by unfold Co.doE;rw[if_neg HNm.out.2]
  rw[←e1,←e2] at hj;have:=HFin.out _ blk a4 e4 hj;have he:evt K E blk num=⟨kd,en,tx,nm,sn⟩:=by unfold evt;rw[if_neg HNm.out.2,hev]
  rw[he] at this;exact this)
 obtain⟨x0,x1,x2,x3,xf⟩:=ev_cells hxd;obtain⟨t0,t1,t2,t3,_⟩:=ev_cells (ev_set hxd (.int .u8 kd) (.int .i64 en) (.string tx) (.int .u32 nm));obtain⟨tb,htb⟩:∃q,w1.heap.size=q:=⟨_,rfl⟩;rw[htb] at hD hE⊢;clear HX5 HJ HT5 hx5 hta hte hxd hev HFin HH HB1 HX1 HT4 HW1 htb HX3;go_wp2_with fail;refine wp_region_held (S:=fun w'=>w'.cell? ⟨tb,2,none⟩=some (.int .u8 kd)∧w'.cell? ⟨tb,3,none⟩=some (.int .i64 en)∧w'.cell? ⟨tb,4,none⟩=some (.string tx)∧w'.cell? ⟨tb,5,none⟩=some (.int .u32 nm)∧w'.cell? ⟨tb,6,none⟩=some (.bool sn)) (by kernel_rfl) ?_
 change wpAnyH _ _ _ _ _ _ _ _ w5.drew
 generalize w5.drew=w6 at*;refine T 0 hD ?_;refine T 1 hD ?_;refine T 2 hD ?_;refine T 3 hD ?_;refine T 4 hD ?_;refine T 5 hD ?_;refine T 6 hD ?_;refine T 7 hD ?_;refine U 8 fun K hK=> ?_
 go_simp;refine V hK hE ?_;clear hK K;refine T 9 hE ?_;refine T 10 hE ?_;refine wpAnyH_done (by kernel_rfl) ?_ _;have T:=Lh (⟨t0,t1,t2,t3⟩:_∧_∧_∧_);clear hD hE x0 x1 x2 x3 xf;go_wp2;refine bodyPost_ret (v:=.tuple #[.agg #[.int .u8 kd,.int .i64 en,.string tx,.int .u32 nm],.bool sn,.int .i64 0]) (by simp[results,Tryz.results19,go_sem, *]) rfl ?_;exact HEnd.out
end
end Kl
open Go.RowKit Word
theorem exit_num(E:En)(c:Int):(E.exit c).num=E.num:=by unfold En.exit;split<;>rfl
namespace Kl
section
variable {w:World} {a:KAt} {K:Kn} {e:EAt} {E:En}
theorem do_exit(h:KE w a K e E)(hn:1≤E.num∧E.num≤8)(hk:E.kind=2):
  Calls Tryz.prog 19 #[.pointer (some ⟨a.kb,0,none⟩),.pointer (some ⟨e.eb,0,none⟩),.int .u32 1] w (DoPost w a e K E 1):=by
 have hb0:Below w.heap.size w (w.alloc (.cells #[.int .u8 0,.int .i64 0,.string ByteArray.empty,.int .u32 0] 66)):=Ba _;have hx0:=heap_alloc_new w (.cells #[.int .u8 0,.int .i64 0,.string ByteArray.empty,.int .u32 0] 66);have hSt:=Ev.state (h.below hb0).en;rw[hk] at hSt;have HSt:=Lh hSt;have hfd:=kindOf 2 E.code E.why;have HH:=Lh h;have HB0:=Lh hb0;have HX0:=Lh hx0;have HNm:=Lh (⟨hn,hn⟩:_∧_);have HFin:Hid (∀V blk a' e',JStep w V a e E.A a' (Co.doK K E blk 1) e' (Co.doE K E blk 1)→DoPost w a e K E 1 (.returned (.tuple #[.agg (evC (evt K E blk 1)),.bool (evt K E blk 1).seen,.int .i64 0])) V):=Lh fun V blk a' e' g=>⟨blk,a',e',rfl,g⟩
 generalize DoPost w a e K E 1=PQ at*;clear hSt hb0 hx0 h hn hk;go_enter func19,ntmps19;go_wp2_with fail;refine HSt.out.mono ?_;rintro r w1 ⟨rfl,hb1⟩;have HB1:=Lh (bQ HB0.out hb1);have HX1:=Lh ((hb1.block _ (lQ HX0.out)).trans HX0.out);clear hb1 HSt HB0 HX0;go_wp2_with fail;have hb2:Below w1.heap.size w1 (w1.alloc (.cells #[.pointer (some ⟨a.kb,0,none⟩),.pointer (some ⟨e.eb,0,none⟩),.int .u8 0,.int .i64 0,.string ByteArray.empty,.int .u32 0,.bool false] 170)):=Ba _;have ht2:=heap_alloc_new w1 (.cells #[.pointer (some ⟨a.kb,0,none⟩),.pointer (some ⟨e.eb,0,none⟩),.int .u8 0,.int .i64 0,.string ByteArray.empty,.int .u32 0,.bool false] 170);have hke:=HH.out.below HB1.out;have hT2:Tk w1 _ w1.heap.size a e E.A a K e E Evt.none:=⟨(JStep.refl hke).below hb2,ht2,Decidable.byContradiction fun q=>absurd (hke.kn.lt _ q) (Nat.lt_irrefl _),fun g=>absurd (hke.en.lt _ g) (Nat.lt_irrefl _),Nat.le_refl _,HNm.out.1⟩;have HT2:=Lh hT2;have HX2:=Lh ((hb2.block _ (lQ HX1.out)).trans HX1.out);have hbd:=arg_bd hT2.s.j.en 1;refine(Ev.arg hT2.s.j.en 1 (by omega) (by omega)).mono ?_;rintro r w3 ⟨rfl,rfl⟩;generalize hcd:E.arg 1=cd at*;have HCd:=Lh hcd;have HX:=Lh (Ev.exit hT2.s.j.en cd);clear hb2 ht2 hke hT2 HX2 hcd;go_wp2_with fail;refine HX.out.mono ?_;rintro r w4 ⟨rfl,hs4⟩;have HT4:=Lh (HT2.out.right hs4 (exit_num E cd));have HSh:=Lh (shows HT4.out 3 cd ByteArray.empty);clear hs4 HX HT2;go_wp2_with fail;refine HSh.out.mono ?_;rintro r w5 ⟨rfl,h5⟩;rw[exit_num E cd] at h5;have HT5:=Lh h5;clear h5 HSh;have HW1:Hid (w.heap.size<w1.heap.size):=Lh (lQ HX1.out);have HKe:=HH.out;obtain⟨hx5,hta,hte⟩:=jblock HT5.out.s HX1.out (Decidable.byContradiction fun q=>absurd (HKe.kn.lt _ q) (Nat.lt_irrefl _)) (fun g=>absurd (HKe.en.lt _ g) (Nat.lt_irrefl _));have HX5:=Lh hx5;have HJ:=Lh (jpre HT5.out.s HB1.out);clear HKe;obtain⟨kd,en,tx,nm,sn,hev⟩:∃kd en tx nm sn,(⟨3,E.num,ByteArray.empty,cd,true⟩:Evt)=⟨kd,en,tx,nm,sn⟩:=⟨_,_,_,_,_,rfl⟩;have hD:w5.drew.cell? ⟨w1.heap.size,2,none⟩=some (.int .u8 kd)∧w5.drew.cell? ⟨w1.heap.size,3,none⟩=some (.int .i64 en)∧w5.drew.cell? ⟨w1.heap.size,4,none⟩=some (.string tx)∧w5.drew.cell? ⟨w1.heap.size,5,none⟩=some (.int .u32 nm)∧w5.drew.cell? ⟨w1.heap.size,6,none⟩=some (.bool sn):=by
  have hb:=(HT5.out.below Br.drew).blk;rw[hev] at hb;refine⟨?_, ?_, ?_, ?_, ?_⟩<;>(unfold World.cell?;rw[hb];rfl)
 have hE:((((w5.drew.setCell ⟨w.heap.size,0,none⟩ (.int .u8 kd)).setCell ⟨w.heap.size,1,none⟩ (.int .i64 en)).setCell ⟨w.heap.size,2,none⟩ (.string tx)).setCell ⟨w.heap.size,3,none⟩ (.int .u32 nm)).cell? ⟨w1.heap.size,2,none⟩=some (.int .u8 kd)∧((((w5.drew.setCell ⟨w.heap.size,0,none⟩ (.int .u8 kd)).setCell ⟨w.heap.size,1,none⟩ (.int .i64 en)).setCell ⟨w.heap.size,2,none⟩ (.string tx)).setCell ⟨w.heap.size,3,none⟩ (.int .u32 nm)).cell? ⟨w1.heap.size,3,none⟩=some (.int .i64 en)∧((((w5.drew.setCell ⟨w.heap.size,0,none⟩ (.int .u8 kd)).setCell ⟨w.heap.size,1,none⟩ (.int .i64 en)).setCell ⟨w.heap.size,2,none⟩ (.string tx)).setCell ⟨w.heap.size,3,none⟩ (.int .u32 nm)).cell? ⟨w1.heap.size,4,none⟩=some (.string tx)∧((((w5.drew.setCell ⟨w.heap.size,0,none⟩ (.int .u8 kd)).setCell ⟨w.heap.size,1,none⟩ (.int .i64 en)).setCell ⟨w.heap.size,2,none⟩ (.string tx)).setCell ⟨w.heap.size,3,none⟩ (.int .u32 nm)).cell? ⟨w1.heap.size,5,none⟩=some (.int .u32 nm)∧((((w5.drew.setCell ⟨w.heap.size,0,none⟩ (.int .u8 kd)).setCell ⟨w.heap.size,1,none⟩ (.int .i64 en)).setCell ⟨w.heap.size,2,none⟩ (.string tx)).setCell ⟨w.heap.size,3,none⟩ (.int .u32 nm)).cell? ⟨w1.heap.size,6,none⟩=some (.bool sn):=by
  have hb:=(HT5.out.below Br.drew).blk;rw[hev] at hb;have hm:=ev_mod w5.drew w.heap.size (.int .u8 kd) (.int .i64 en) (.string tx) (.int .u32 nm);have hb':=(hm.block _ (lQ hb) (by have:=HW1.out;omega)).trans hb;refine⟨?_, ?_, ?_, ?_, ?_⟩<;>(unfold World.cell?;rw[hb'];rfl)
 have hxd:w5.drew.heap[w.heap.size]? =_:=hx5;have HEnd:Hid (PQ (.returned (.tuple #[.agg #[.int .u8 kd,.int .i64 en,.string tx,.int .u32 nm],.bool sn,.int .i64 0])) ((((w5.drew.setCell ⟨w.heap.size,0,none⟩ (.int .u8 kd)).setCell ⟨w.heap.size,1,none⟩ (.int .i64 en)).setCell ⟨w.heap.size,2,none⟩ (.string tx)).setCell ⟨w.heap.size,3,none⟩ (.int .u32 nm))):=Lh (by
  have hj:=(HJ.out.below Br.drew).turn (ev_mod w5.drew w.heap.size (.int .u8 kd) (.int .i64 en) (.string tx) (.int .u32 nm)) fun k hk=>by subst hk;exact⟨hta,hte,Nat.le_refl _⟩
  have e1:Co.doK K E 0 1=K:=by unfold Co.doK;rw[if_pos rfl]
  have e2:Co.doE K E 0 1=E.exit cd:=by unfold Co.doE;rw[if_pos rfl,HCd.out]
  have:=HFin.out _ 0 a e (by rw[e1,e2];exact hj);have he:evt K E 0 1=⟨kd,en,tx,nm,sn⟩:=by unfold evt;rw[if_pos rfl,HCd.out,hev]
  rw[he] at this;exact this)
 obtain⟨x0,x1,x2,x3,xf⟩:=ev_cells hxd;obtain⟨t0,t1,t2,t3,_⟩:=ev_cells (ev_set hxd (.int .u8 kd) (.int .i64 en) (.string tx) (.int .u32 nm));obtain⟨tb,htb⟩:∃q,w1.heap.size=q:=⟨_,rfl⟩;rw[htb] at hD hE⊢;clear HX5 HJ HT5 hx5 hta hte hxd hev HFin HH HB1 HX1 HT4 HW1 htb HCd;go_wp2_with fail;refine wp_region_held (S:=fun w'=>w'.cell? ⟨tb,2,none⟩=some (.int .u8 kd)∧w'.cell? ⟨tb,3,none⟩=some (.int .i64 en)∧w'.cell? ⟨tb,4,none⟩=some (.string tx)∧w'.cell? ⟨tb,5,none⟩=some (.int .u32 nm)∧w'.cell? ⟨tb,6,none⟩=some (.bool sn)) (by kernel_rfl) ?_
 change wpAnyH _ _ _ _ _ _ _ _ w5.drew
 generalize w5.drew=w6 at*;refine T 0 hD ?_;refine T 1 hD ?_;refine T 2 hD ?_;refine T 3 hD ?_;refine T 4 hD ?_;refine T 5 hD ?_;refine T 6 hD ?_;refine T 7 hD ?_;refine U 8 fun K hK=> ?_
 go_simp;refine V hK hE ?_;clear hK K;refine T 9 hE ?_;refine T 10 hE ?_;refine wpAnyH_done (by kernel_rfl) ?_ _;have T:=Lh (⟨t0,t1,t2,t3⟩:_∧_∧_∧_);clear hD hE x0 x1 x2 x3 xf;go_wp2;refine bodyPost_ret (v:=.tuple #[.agg #[.int .u8 kd,.int .i64 en,.string tx,.int .u32 nm],.bool sn,.int .i64 0]) (by simp[results,Tryz.results19,go_sem, *]) rfl ?_;exact HEnd.out
theorem do_none(h:KE w a K e E)(hn:1≤E.num∧E.num≤8)(hk:E.kind=2)(num:Int)(h0:0≤num)(h1:num≤4294967295)(hne:num≠1)(hfb:fnAt fns num=none)(hc:∀blk,Co.call K E blk num=Co.no K E 6):
  Calls Tryz.prog 19 #[.pointer (some ⟨a.kb,0,none⟩),.pointer (some ⟨e.eb,0,none⟩),.int .u32 num] w (DoPost w a e K E num):=by
 have hb0:Below w.heap.size w (w.alloc (.cells #[.int .u8 0,.int .i64 0,.string ByteArray.empty,.int .u32 0] 66)):=Ba _;have hx0:=heap_alloc_new w (.cells #[.int .u8 0,.int .i64 0,.string ByteArray.empty,.int .u32 0] 66);have hSt:=Ev.state (h.below hb0).en;rw[hk] at hSt;have HSt:=Lh hSt;have hfd:=kindOf 2 E.code E.why;have HAll:=Lh all;have HH:=Lh h;have HB0:=Lh hb0;have HX0:=Lh hx0;have HNm:=Lh (⟨hn,hne,hc⟩:_∧_∧_);have hn1b:(num == 1)=false:=beq_eq_false_iff_ne.2 hne;have HFin:Hid (∀V blk a' e',JStep w V a e E.A a' (Co.doK K E blk num) e' (Co.doE K E blk num)→DoPost w a e K E num (.returned (.tuple #[.agg (evC (evt K E blk num)),.bool (evt K E blk num).seen,.int .i64 0])) V):=Lh fun V blk a' e' g=>⟨blk,a',e',rfl,g⟩
 generalize DoPost w a e K E num=PQ at*;clear hSt hb0 hx0 h hn hk hne hc;go_enter func19,ntmps19;go_wp2_with fail;refine HSt.out.mono ?_;rintro r w1 ⟨rfl,hb1⟩;have HB1:=Lh (bQ HB0.out hb1);have HX1:=Lh ((hb1.block _ (lQ HX0.out)).trans HX0.out);clear hb1 HSt HB0 HX0;go_wp2_with fail;have hb2:Below w1.heap.size w1 (w1.alloc (.cells #[.pointer (some ⟨a.kb,0,none⟩),.pointer (some ⟨e.eb,0,none⟩),.int .u8 0,.int .i64 0,.string ByteArray.empty,.int .u32 0,.bool false] 170)):=Ba _;have ht2:=heap_alloc_new w1 (.cells #[.pointer (some ⟨a.kb,0,none⟩),.pointer (some ⟨e.eb,0,none⟩),.int .u8 0,.int .i64 0,.string ByteArray.empty,.int .u32 0,.bool false] 170);have hke:=HH.out.below HB1.out;have hT2:Tk w1 _ w1.heap.size a e E.A a K e E Evt.none:=⟨(JStep.refl hke).below hb2,ht2,Decidable.byContradiction fun q=>absurd (hke.kn.lt _ q) (Nat.lt_irrefl _),fun g=>absurd (hke.en.lt _ g) (Nat.lt_irrefl _),Nat.le_refl _,HNm.out.1⟩;have HT2:=Lh hT2;have HX2:=Lh ((hb2.block _ (lQ HX1.out)).trans HX1.out);refine(HAll.out _).mono ?_;rintro r w3 ⟨mb,rfl,hb3,hlk⟩;have HT3:=Lh (HT2.out.below hb3);have HX3:=Lh ((hb3.block _ (lQ HX2.out)).trans HX2.out);have hl:=hlk num h0 h1;have hfv:fnVal num=.nilFunc:=by unfold fnVal;rw[hfb]
 rw[hfv,hfb] at hl;simp only[Option.isSome_none] at hl;have HAn:=Lh (Ev.answer HT3.out.s.j.en 0 6 (by omega) (by omega) (by omega) (by omega));clear hb2 ht2 hke hT2 HT2 HX2 hb3 hlk HAll hfv;go_wp2_with fail;refine HAn.out.mono ?_;rintro r w5 ⟨rfl,hs5⟩;have HT5:=Lh (HT3.out.right hs5 rfl);have HW1:Hid (w.heap.size<w1.heap.size):=Lh (lQ HX1.out);have HKe:=HH.out;obtain⟨hx5,hta,hte⟩:=jblock HT5.out.s HX1.out (Decidable.byContradiction fun q=>absurd (HKe.kn.lt _ q) (Nat.lt_irrefl _)) (fun g=>absurd (HKe.en.lt _ g) (Nat.lt_irrefl _));have HX5:=Lh hx5;have HJ:=Lh (jpre HT5.out.s HB1.out);clear hs5 HKe HAn;obtain⟨x0,x1,x2,x3,xf⟩:=ev_cells hx5;have HEnd:Hid (PQ (.returned (.tuple #[.agg #[.int .u8 0,.int .i64 0,.string ByteArray.empty,.int .u32 0],.bool false,.int .i64 0])) ((((w5.setCell ⟨w.heap.size,0,none⟩ (.int .u8 0)).setCell ⟨w.heap.size,1,none⟩ (.int .i64 0)).setCell ⟨w.heap.size,2,none⟩ (.string ByteArray.empty)).setCell ⟨w.heap.size,3,none⟩ (.int .u32 0))):=Lh (by
  have hj:=HJ.out.turn (ev_mod w5 w.heap.size (.int .u8 0) (.int .i64 0) (.string ByteArray.empty) (.int .u32 0)) fun k hk=>by subst hk;exact⟨hta,hte,Nat.le_refl _⟩
  have e1:Co.doK K E 0 num=K:=by unfold Co.doK;rw[if_neg HNm.out.2.1,HNm.out.2.2];rfl
  have e2:Co.doE K E 0 num=E.answer 0 6:=by unfold Co.doE;rw[if_neg HNm.out.2.1,HNm.out.2.2];rfl
  have:=HFin.out _ 0 a e (by rw[e1,e2];exact hj);have he:evt K E 0 num=Evt.none:=by unfold evt;rw[if_neg HNm.out.2.1,HNm.out.2.2];rfl
  rw[he] at this;exact this)
 obtain⟨t0,t1,t2,t3,_⟩:=ev_cells (ev_set hx5 (.int .u8 0) (.int .i64 0) (.string ByteArray.empty) (.int .u32 0));clear HX5 HJ HT5 hx5 hta hte HFin HH HB1 HX1 HW1 HX3 HT3;have T:=Lh (⟨t0,t1,t2,t3⟩:_∧_∧_∧_);clear t0 t1 t2 t3;go_wp2;obtain⟨t0,t1,t2,t3⟩:=T.out;refine bodyPost_ret (v:=.tuple #[.agg #[.int .u8 0,.int .i64 0,.string ByteArray.empty,.int .u32 0],.bool false,.int .i64 0]) (by simp[results,Tryz.results19,go_sem, *]) rfl ?_;exact HEnd.out
theorem bd_no(K:Kn)(E:En)(y:Int)(y0:0≤y)(y1:y≤6):0≤(Co.no K E y).v∧(Co.no K E y).v≤4294967295∧0≤(Co.no K E y).y∧(Co.no K E y).y≤4294967295:=⟨Int.le_refl 0,by show(0:Int)≤_;omega,y0,by show y≤_;omega⟩
theorem call_bd(h:KE w a K e E)(num:Int)(blk:Nat):0≤(Co.call K E blk num).v∧(Co.call K E blk num).v≤4294967295∧0≤(Co.call K E blk num).y∧(Co.call K E blk num).y≤4294967295:=by
 have hb1:=arg_bd h.en 1;have hb2:=arg_bd h.en 2;have hb3:=arg_bd h.en 3;have hn0:=h.kn.ok.n0;have hn1:=h.kn.ok.n1;have hq:=h.kn.ok.q;unfold Co.call;generalize E.arg 1=v1 at*;generalize E.arg 2=v2 at*;generalize E.arg 3=v3 at*
 split
 ·exact bd_no _ _ _ (by omega) (by omega)
 split
 ·unfold Co.page
  split
  ·exact bd_no _ _ _ (by omega) (by omega)
  ·split<;>exact bd_no _ _ _ (by omega) (by omega)
 split
 ·unfold Co.drop
  split
  ·exact bd_no _ _ _ (by omega) (by omega)
  ·split<;>exact bd_no _ _ _ (by omega) (by omega)
 split
 ·unfold Co.read
  split
  ·exact bd_no _ _ _ (by omega) (by omega)
  ·simp only
   split<;>exact bd_no _ _ _ (by omega) (by omega)
 split
 ·unfold Co.write
  split
  ·exact bd_no _ _ _ (by omega) (by omega)
  ·split<;>exact bd_no _ _ _ (by omega) (by omega)
 split
 ·unfold Co.send
  split
  ·exact bd_no _ _ _ (by omega) (by omega)
  ·split
   ·exact bd_no _ _ _ (by omega) (by omega)
   ·split
    ·exact bd_no _ _ _ (by omega) (by omega)
    ·split
     ·exact bd_no _ _ _ (by omega) (by omega)
     ·exact⟨hb2.1,hb2.2,Int.le_refl 0,by show(0:Int)≤_;omega⟩
 split
 ·unfold Co.recv
  split
  ·exact bd_no _ _ _ (by omega) (by omega)
  ·split
   ·exact bd_no _ _ _ (by omega) (by omega)
   ·rename_i s r hqs
    have:=hq v1 s (by rw[hqs];exact List.mem_cons_self ..)
    split
    ·exact bd_no _ _ _ (by omega) (by omega)
    ·split
     ·exact bd_no _ _ _ (by omega) (by omega)
     ·exact⟨by show(0:Int)≤s.size;omega,by show(s.size:Int)≤_;omega,Int.le_refl 0,by show(0:Int)≤_;omega⟩
 split
 ·unfold Co.put
  split
  ·exact bd_no _ _ _ (by omega) (by omega)
  ·split
   ·exact bd_no _ _ _ (by omega) (by omega)
   ·split
    ·exact bd_no _ _ _ (by omega) (by omega)
    ·split
     ·exact bd_no _ _ _ (by omega) (by omega)
     ·exact⟨hb2.1,hb2.2,Int.le_refl 0,by show(0:Int)≤_;omega⟩
 split
 ·exact⟨hn0,hn1,Int.le_refl 0,by show(0:Int)≤_;omega⟩
 ·exact bd_no _ _ _ (by omega) (by omega)
theorem does(h:KE w a K e E)(hn:1≤E.num∧E.num≤8)(hk:E.kind=2)(hs:K.N.sent.length<4398046511104)(num:Int)(h0:0≤num)(h1:num≤4294967295):
  Calls Tryz.prog 19 #[.pointer (some ⟨a.kb,0,none⟩),.pointer (some ⟨e.eb,0,none⟩),.int .u32 num] w (DoPost w a e K E num):=by
 by_cases e1:num=1
 ·subst e1;exact do_exit h hn hk
 by_cases e2:num=2
 ·subst e2;exact do_call h hn hk 2 187 (by omega) (by omega) (by omega) rfl rfl (enters_of func187 (by kernel_rfl) rfl) (fun b=>call_bd h 2 b) fun W V tb t=>by
   have:=yield t;exact this
 by_cases e3:num=3
 ·subst e3;exact do_call h hn hk 3 188 (by omega) (by omega) (by omega) rfl rfl (enters_of func188 (by kernel_rfl) rfl) (fun b=>call_bd h 3 b) fun W V tb t=>by
   have:=page t;exact this
 by_cases e4:num=4
 ·subst e4;exact do_call h hn hk 4 189 (by omega) (by omega) (by omega) rfl rfl (enters_of func189 (by kernel_rfl) rfl) (fun b=>call_bd h 4 b) fun W V tb t=>by
   have:=drop t;exact this
 by_cases e5:num=5
 ·subst e5;exact do_call h hn hk 5 190 (by omega) (by omega) (by omega) rfl rfl (enters_of func190 (by kernel_rfl) rfl) (fun b=>call_bd h 5 b) fun W V tb t=>by
   have:=read t;exact this
 by_cases e6:num=6
 ·subst e6;exact do_call h hn hk 6 191 (by omega) (by omega) (by omega) rfl rfl (enters_of func191 (by kernel_rfl) rfl) (fun b=>call_bd h 6 b) fun W V tb t=>by
   have:=write t;exact this
 by_cases e7:num=7
 ·subst e7;exact do_call h hn hk 7 192 (by omega) (by omega) (by omega) rfl rfl (enters_of func192 (by kernel_rfl) rfl) (fun b=>call_bd h 7 b) fun W V tb t=>by
   have:=send t hs;exact this
 by_cases e8:num=8
 ·subst e8;exact do_call h hn hk 8 193 (by omega) (by omega) (by omega) rfl rfl (enters_of func193 (by kernel_rfl) rfl) (fun b=>call_bd h 8 b) fun W V tb t=>by
   have:=recv t;exact this
 by_cases e9:num=9
 ·subst e9;exact do_call h hn hk 9 194 (by omega) (by omega) (by omega) rfl rfl (enters_of func194 (by kernel_rfl) rfl) (fun b=>call_bd h 9 b) fun W V tb t=>by
   have:=put t;exact this
 by_cases e10:num=10
 ·subst e10;exact do_call h hn hk 10 195 (by omega) (by omega) (by omega) rfl rfl (enters_of func195 (by kernel_rfl) rfl) (fun b=>call_bd h 10 b) fun W V tb t=>by
   have:=time t;exact this
 exact do_none h hn hk num h0 h1 e1 (by
  unfold fnAt fns;rw[List.find?_eq_none.2]
  ·rfl
  ·intro p hp;simp at hp;rcases hp with rfl|rfl|rfl|rfl|rfl|rfl|rfl|rfl|rfl<;>simp<;>omega) fun b=>by
  unfold Co.call;rw[if_neg e2,if_neg e3,if_neg e4,if_neg e5,if_neg e6,if_neg e7,if_neg e8,if_neg e9,if_neg e10]
end
end Kl
open Go.RowKit Word
namespace Cp
def Made22(w:World)(x:St)(e:Ending)(w':World):Prop:=
 ∃a E b R F,e=.returned (.tuple #[.pointer (some ⟨a.eb,0,none⟩),.pointer (some ⟨b.eb,0,none⟩),.bool true])∧EPair w w' a E b R F∧En.Like E F∧En.Like E (x.env 1)
theorem made22(w:World)(x:St)(hx:x.ok w):Calls Tryz.prog 11 #[.agg x.cells] w (Made22 w x):=by
 have hp0:=hx.p0;have hp1:=hx.p1;have hb:Below w.heap.size w (w.alloc (.cells x.cells 34)):=Ba _;have hbx:StBox (w.alloc (.cells x.cells 34)) w.heap.size x:=⟨heap_alloc_new w _⟩;have hxW:x.ok (w.alloc (.cells x.cells 34)):= {hx with
  rrow:=fun hn=>by
   obtain⟨b,off,e,hl,hc⟩:=hx.rrow hn;exact⟨b,off,e,Nat.lt_of_lt_of_le hl hb.size,fun i hi=>(World.cell?_of_block (w:=w) (hb.block b hl)).trans (hc i hi)⟩
  prow:=fun hn=>by
   obtain⟨b,off,e,hl,hc⟩:=hx.prow hn;exact⟨b,off,e,Nat.lt_of_lt_of_le hl hb.size,fun i hi=>(World.cell?_of_block (w:=w) (hb.block b hl)).trans (hc i hi)⟩
  crow:=hx.crow.below hb}
 have HM:=Lh (made _ x hxW);have HB:=Lh hb;have HBx:=Lh hbx;obtain⟨b0,b1,b2,b3,b4,b5,b6⟩:=hbx.cells;clear hb hbx hxW hx;unfold St.cells at*
 ·have n0:(1:Int)≤1:=by omega
  have n1:(1:Int)≤8:=by omega
  have HFin:Hid (∀(a:EAt) (E:En) (b:RAt) (R:List Rp) (F:En) (w':World),EPair w w' a E b R F→En.Like E F→En.Like E (x.env 1)→Made22 w x (.returned (.tuple #[.pointer (some ⟨a.eb,0,none⟩),.pointer (some ⟨b.eb,0,none⟩),.bool true])) w'):=Lh fun a E b R F w' h1 h2 h3=>⟨a,E,b,R,F,rfl,h1,h2,h3⟩
  generalize Made22 w x=PQ at*;go_enter func11,ntmps11;go_wp2_with fail;refine HM.out.mono ?_;rintro e w2 ⟨cb,sb,mb,A,db,rb,lv,R,rfl,hd,he,hpg⟩;have HD:=Lh (hd.weaken HB.out);have hz2:=hd.bel.size;have HBx2:=Lh (HBx.out.below hd.bel (by simp));obtain⟨_,b1,_⟩:=HBx2.out.cells;have HE:=Lh (⟨he,hpg⟩:_∧_);have HW2:Hid (w.heap.size<w2.heap.size):=Lh (by simp at hz2;omega);clear hd he hpg b0 b2 b3 b4 b5 b6 HM HBx hz2;go_wp2_with fail;refine(Ev.new HD.out.pair.sp 1 x.pc n0 n1 hp0 hp1).mono ?_;rintro e w3 ⟨a,C,rfl,hv,hcc,haf,hb3⟩;have HD3:=Lh (HD.out.below hb3);have HBx3:=Lh (HBx2.out.below hb3 HW2.out);obtain⟨_,b1,_⟩:=HBx3.out.cells;have HV:=Lh (⟨hv,hcc,haf,hb3⟩:_∧_∧_∧_);have HW3:Hid (w.heap.size<w3.heap.size):=Lh (Nat.lt_of_lt_of_le HW2.out hb3.size);clear hv hcc haf hb3 HBx2;go_wp2_with fail;refine(Rv.new HD3.out.pair.rp 1 x.pc n0 n1 hp0 hp1).mono ?_;rintro e w4 ⟨b,S,rfl,hr,hrc,hrf,hb4⟩;have HV4:=Lh (HV.out.1.below hb4);have HD4:=Lh (HD3.out.below hb4);have HR:=Lh (⟨hr,hrc,hrf,hb4⟩:_∧_∧_∧_);clear hr hrc hrf hb4 HD3 b1;go_wp2_with fail;refine(Ev.cpu HV4.out).mono ?_;rintro e w5 ⟨rfl,rfl⟩;go_wp2;have HRd:Hid ((∀k,a.foot C k→w2.heap.size≤k)∧db<w2.heap.size∧∀k,Spc.foot sb mb A k→k<w2.heap.size):=Lh ⟨HV.out.2.2.1,HD.out.dp.lt,fun k hk=>HD.out.pair.sp.lt hk⟩;go_loopw [14] (fun vi wr=>m21Rel w4 a (En.new 1 x.pc C) (fun i=>rg x.regs i) vi wr) (fun vi _=>16 - (intOf vi).toNat)
  case atStart=>exact⟨1,Nat.le_refl _,by omega,by go_num,EStep.refl HV4.out⟩
  case round=>
   obtain⟨i,hi1,hi2,rfl,hst⟩:=hrel;have HSt:=Lh hst;have hdp:Cpu 153 wr db x.regs x.pc:=HD4.out.dp.keep hst.mod fun g=>by have:=HRd.out.1 _ g;have:=HRd.out.2.1;omega
   have HDp:=Lh hdp;clear hst
   by_cases hin:i<16
   ·have hc:=hdp.cellReg i hin;have hbd:=rg_bd hdp.regs (i:Int);have hcpu:=Ev.cpu HSt.out.env;have HSR:=Lh (setReg_ok (HSt.out.env.below Br.drew).cp i hin (rg x.regs i) hbd.1 hbd.2);have hi16:(i:Int)<16:=by omega
    clear hdp;generalize hv:rg x.regs i=v at*;have HvR:=Lh hv;clear hv;go_wp2_with fail;refine wp_region_still_tail 9 (by kernel_rfl) (by kernel_rfl) ?_;simp only[List.take_succ_cons,List.take_zero,List.drop_succ_cons,List.drop_zero]
    repeat still_step
    still_call ((Ev.cpu (HSt.out.env.below Br.drew)).mono fun e w' ⟨g1,g2⟩=>⟨g1,g2.symm⟩)
    repeat still_step
    refine wpStill_nil ?_
    change wpList _ _ _ _ _ wr.drew
    have HSd:=Lh (HSt.out.below Br.drew);clear HSt hc hcpu;generalize wr.drew=w6 at*;go_wp2_with fail;refine HSR.out.mono ?_;rintro e w7 ⟨rfl,hc7,hm7⟩;have hs7:=HSd.out.trans (EStep.regs HSd.out.env hc7 hm7);have HS7:Hid (EStep w4 w7 a (En.new 1 x.pc C) a {En.new 1 x.pc C with r:=regsK (fun i=>rg x.regs i) (i+1)}):=Lh (by
     rw[←regsK_succ _ i hin]
     show EStep w4 w7 a (En.new 1 x.pc C) a {En.new 1 x.pc C with r:=putG (regsK (fun i=>rg x.regs i) i) i (rg x.regs i)}
     rw[HvR.out];exact hs7)
    clear hc7 hm7 hs7;go_wp2;exact⟨⟨i+1,by omega,by omega,by go_num,HS7.out⟩,by simp[intOf];omega⟩
   ·obtain rfl:i=16:=by omega
    have z2:=HD.out.bel.size;have z3:=HV.out.2.2.2.size;have z4:=HR.out.2.2.2.size;have zr:=HSt.out.mod.size;have hdl:=HRd.out.2.1;have hbe3:w3.heap.size≤b.eb:=HR.out.2.2.1 _ (.inl rfl);have ha3:∀k,a.foot C k→k<w3.heap.size:=fun k hk=>HV.out.1.lt k hk
    have hRr:Renv wr b S (En.new 1 x.pc (rpgs S)):=HR.out.1.keep HSt.out.mod fun k hk g=>by
     have:=HR.out.2.2.1 k hk;have:=ha3 k g;omega
    have hreg:regsK (fun i=>rg x.regs i) 16=x.regs:=regsK_regs x.regs HDp.out.regs.len (by
     unfold St.regs regsK;rfl)
    have hEw:EStep w4 wr a (En.new 1 x.pc C) a {En.new 1 x.pc C with r:=x.regs}:=by
     have:=HSt.out;rw[hreg] at this;exact this
    obtain⟨_,_,q2,_⟩:=(⟨hRr.cell 0 _ rfl,hRr.cell 1 _ rfl,hRr.cell 2 _ rfl,rfl⟩:_∧_∧_∧(0=0));have f2:=hRr.free 2;have hm6:Mod (fun i=>i=b.eb) wr (wr.setCell ⟨b.eb,2,none⟩ (.pointer (some ⟨db,0,none⟩))):=Mod.setCell (F:=fun i=>i=b.eb) (Mod.refl _ _) ⟨b.eb,2,none⟩ (.inl rfl) _;have hR6:Renv (wr.setCell ⟨b.eb,2,none⟩ (.pointer (some ⟨db,0,none⟩))) {b with cb:=db} S {En.new 1 x.pc (rpgs S) with r:=x.regs}:=
     {blk:=heap_setCell_same wr b.eb 2 _ _ _ hRr.blk,cp:=HDp.out.keep hm6 (by show¬db=b.eb;omega),rp:=hRr.rp.keep hm6 (fun k hk g=>hRr.es (g▸hk)),eq:=rfl,ls:=hRr.ls.keep hm6 (fun g hg=>(hRr.le g hg).1) (fun g hg e=>(hRr.le g hg).2.1 e),ec:=by show b.eb≠db;omega,es:=hRr.es,cs:=fun g=>by
       have:w3.heap.size≤db:=HR.out.2.2.1 db (.inr (.inr (.inl g)));omega,le:=fun g hg=>⟨Nat.lt_of_lt_of_le (hRr.le g hg).1 hm6.size,(hRr.le g hg).2.1,(by
       have:=HR.out.2.2.1 _ (.inr (.inr (.inr hg)))
       show g≠db
       omega),(hRr.le g hg).2.2.2⟩,ok:=⟨List.Pairwise.nil,fun x hx=>(nomatch hx),fun x hx=>(nomatch hx),Nat.zero_le _⟩}
    have hE6:Env (wr.setCell ⟨b.eb,2,none⟩ (.pointer (some ⟨db,0,none⟩))) a {En.new 1 x.pc C with r:=x.regs}:=hEw.env.keep hm6 fun k hk g=>by
     have:=ha3 k hk;omega
    have hS6:Spc (wr.setCell ⟨b.eb,2,none⟩ (.pointer (some ⟨db,0,none⟩))) sb mb A:=(HD4.out.pair.sp.keep hEw.mod fun k hk g=>by
     have:=HRd.out.2.2 k hk;have:=HRd.out.1 k g;omega).keep hm6 fun k hk g=>by
     have:=HRd.out.2.2 k hk;omega
    have hB6:Below w.heap.size w (wr.setCell ⟨b.eb,2,none⟩ (.pointer (some ⟨db,0,none⟩))):=Mod.below (Mod.below ((HD.out.bel.trans (HV.out.2.2.2.mono z2)).trans (HR.out.2.2.2.mono (by omega))) hEw.mod (by omega) fun k _ hk=>by
     have:=HRd.out.1 k hk;omega) hm6 (by omega) fun k _ hk=>by omega
    have HP6:Hid (EPair w (wr.setCell ⟨b.eb,2,none⟩ (.pointer (some ⟨db,0,none⟩))) a {En.new 1 x.pc C with r:=x.regs} {b with cb:=db} S {En.new 1 x.pc (rpgs S) with r:=x.regs}):=Lh ⟨hE6,hR6,fun k hk g=>by
      have h1:=ha3 k hk;have h2:=HRd.out.1 k hk;rcases g with g|g|g|g
      ·have:k=b.eb:=g;omega
      ·have:k=db:=g;omega
      ·have:=HR.out.2.2.1 _ (.inr (.inr (.inl g)));omega
      ·have:=HR.out.2.2.1 _ (.inr (.inr (.inr g)));omega,hB6,fun k hk=>by have:=HRd.out.1 k hk;omega,fun k hk=>by
      rcases hk with g|g|g|g
      ·have:k=b.eb:=g;omega
      ·have:k=db:=g;have:=HD.out.d0;omega
      ·have:=HR.out.2.2.1 _ (.inr (.inr (.inl g)));omega
      ·have:=HR.out.2.2.1 _ (.inr (.inr (.inr g)));omega⟩
    have HLk:Hid (En.Like {En.new 1 x.pc C with r:=x.regs} {En.new 1 x.pc (rpgs S) with r:=x.regs}∧En.Like {En.new 1 x.pc C with r:=x.regs} (x.env 1)):=Lh
     ⟨⟨rfl,rfl,rfl,rfl,rfl,rfl,HV.out.2.1.trans (HE.out.1.trans HR.out.2.1.symm),rfl,rfl⟩,⟨rfl,rfl,rfl,rfl,rfl,rfl,HV.out.2.1.trans HE.out.2,rfl,rfl⟩⟩
    clear hRr hreg hEw hm6 hR6 hE6 hS6 hB6 hdp HSt HDp HR HV HD HD4 HV4 HE ha3 hbe3 hdl z2 z3 z4 zr HRd;go_wp2;refine bodyPost_ret (v:=.tuple #[.pointer (some ⟨a.eb,0,none⟩),.pointer (some ⟨b.eb,0,none⟩),.bool true]) (by simp[results,Tryz.results11,go_sem, *]) rfl ?_;exact HFin.out a _ {b with cb:=db} S _ _ HP6.out HLk.out.1 HLk.out.2
end Cp
open Go.RowKit Word
def regs4(r:List Int)(c:Nat→Int):Nat→List Int
 |0=>r
 |i+1=>Cp.putG (regs4 r c i) (i+1) (c i)
def callC(dn nm:Int)(c:Nat→Int)(fr:ByteArray):Array Value:= #[.int .i64 dn,.int .u32 nm,.int .u32 (c 0),.int .u32 (c 1),.int .u32 (c 2),.int .u32 (c 3),.string fr]
def set4Rel(w:World)(e:EAt)(E:En)(c:Nat→Int)(vi:Value)(wr:World):Prop:=∃i:Nat,i≤4∧vi=.int .i64 i∧EStep w wr e E e {E with r:=regs4 E.r c i}
namespace Kl
theorem set_nil{w:World}{e:EAt}{E:En}(h:Env w e E)(dn nm:Int)(c:Nat→Int)(fr:ByteArray)(hc:∀i,0≤c i∧c i≤4294967295):
  Calls Tryz.prog 15 #[.pointer (some ⟨e.eb,0,none⟩),.pointer none,.agg (callC dn nm c fr)] w fun r w'=>r=.returned (.tuple #[])∧EStep w w' e E e {E with r:=regs4 E.r c 4}:=by
 have hb:Below w.heap.size w (w.alloc (.cells (callC dn nm c fr) 51)):=Ba _;have hblk:=heap_alloc_new w (.cells (callC dn nm c fr) 51);have HCell:Hid (∀wr i,i<4→EStep (w.alloc (.cells (callC dn nm c fr) 51)) wr e E e {E with r:=regs4 E.r c i}→∀j,j<4→wr.cell? ⟨w.heap.size,2+j,none⟩=some (.int .u32 (c j))):=Lh fun wr i hi hs j hj=>by
  have hk:=(hs.mod.block _ (lQ hblk) fun g=>by have:=h.lt _ g;omega).trans hblk;unfold World.cell?;rw[hk]
  match j,hj with
  |0,_=>rfl
  |1,_=>rfl
  |2,_=>rfl
  |3,_=>rfl
 have HR0:Hid (set4Rel (w.alloc (.cells (callC dn nm c fr) 51)) e E c (.int .i64 0) (w.alloc (.cells (callC dn nm c fr) 51))):=Lh ⟨0,by omega,rfl,EStep.refl (h.below hb)⟩;have HC:=Lh hc;have HFin:Hid (∀wr,EStep (w.alloc (.cells (callC dn nm c fr) 51)) wr e E e {E with r:=regs4 E.r c 4}→EStep w wr e E e {E with r:=regs4 E.r c 4}):=Lh fun wr hs=>(EStep.of_below h hb).trans hs
 unfold callC at*;clear h hb hblk hc;generalize hw1:w.alloc (.cells #[.int .i64 dn,.int .u32 nm,.int .u32 (c 0),.int .u32 (c 1),.int .u32 (c 2),.int .u32 (c 3),.string fr] 51)=w1 at*;go_enter func15,ntmps15;go_wp2;try rw[hw1]
 clear hw1;go_loopw [6] (fun vi wr=>set4Rel w1 e E c vi wr) (fun vi _=>4 - (intOf vi).toNat)
 case atStart=>exact HR0.out
 case round=>
  obtain⟨i,hi,rfl,hs⟩:=hrel;have HSt:=Lh hs
  by_cases hin:i<4
  ·have hcl:=HCell.out wr i hin hs i hin;obtain⟨v0,v1⟩:=HC.out i;have hsr:=Cp.setReg_ok (HSt.out.env.below Br.drew).cp (i+1) (by omega) (c i) v0 v1;rw[show((i+1:Nat):Int)=(i:Int)+1 by omega] at hsr;have HSR:=Lh hsr;clear hsr;have hi16:(i:Int)<4:=by omega
   have hcpu:=Ev.cpu HSt.out.env;clear hs;generalize hv:c i=v at*;have HvR:=Lh hv;clear hv;go_wp2_with fail;refine wp_region_still_tail 8 (by kernel_rfl) (by kernel_rfl) ?_;simp only[List.take_succ_cons,List.take_zero,List.drop_succ_cons,List.drop_zero]
   repeat still_step
   still_call ((Ev.cpu (HSt.out.env.below Br.drew)).mono fun e w' ⟨g1,g2⟩=>⟨g1,g2.symm⟩)
   repeat still_step
   refine wpStill_nil ?_
   change wpList _ _ _ _ _ wr.drew
   have HSd:=Lh (HSt.out.trans (EStep.of_below HSt.out.env Br.drew));clear HSt hcl hcpu;generalize wr.drew=w6 at*;go_wp2_with fail;refine HSR.out.mono ?_;rintro r w7 ⟨rfl,hc7,hm7⟩;have hs7:=HSd.out.trans (EStep.regs HSd.out.env hc7 hm7);have HS7:Hid (EStep w1 w7 e E e {E with r:=regs4 E.r c (i+1)}):=Lh (by
    show EStep w1 w7 e E e {E with r:=Cp.putG (regs4 E.r c i) (i+1) (c i)}
    rw[HvR.out];exact hs7)
   clear hc7 hm7 hs7 HSR HSd;go_wp2;exact⟨⟨i+1,by omega,by go_num,HS7.out⟩,by simp[intOf];omega⟩
  ·obtain rfl:i=4:=by omega
   have hend:=HFin.out _ hs;clear hs HSt HFin HR0 HCell;go_wp2
   first
    |exact⟨rfl,hend⟩
    |(go_end0;exact⟨rfl,hend⟩)
end Kl
open Go.RowKit
namespace Rk
section
variable {w:World} {a:RkAt} {K:Kn} {e:RAt} {R:List Rp} {E:En}
def DoP(w:World)(a:RkAt)(e:RAt)(R:List Rp)(K:Kn)(E:En)(num:Int)(r:Ending)(w':World):Prop:=
 ∃blk a' e' R',r=.returned (.tuple #[.agg (Kl.evC (Kl.evt K E blk num)),.bool (Kl.evt K E blk num).seen])∧DkStep w w' a e R a' (Co.doK K E blk num) e' R' (Co.doE K E blk num)
theorem boxNew{w V:World}(hb:Below w.heap.size w V)(X:Obj):Below w.heap.size w (V.alloc X)∧(V.alloc X).heap[V.heap.size]? =some X∧w.heap.size≤V.heap.size∧∀n Y,V.heap[n]? =some Y→(V.alloc X).heap[n]? =some Y∧n≠V.heap.size:=by
 have h1:Below V.heap.size V (V.alloc X):=Ba _;exact⟨bQ hb h1,heap_alloc_new V X,hb.size,fun n Y hn=>⟨(h1.block n (lQ hn)).trans hn,by have:=lQ hn;omega⟩⟩
theorem ev4{V:World}{n:Nat}{u v x y:Value}{T:TypeId}(h:V.heap[n]? =some (.cells #[u,v,x,y] T (0,0))):V.cell? ⟨n,0,none⟩=some u∧V.cell? ⟨n,1,none⟩=some v∧V.cell? ⟨n,2,none⟩=some x∧V.cell? ⟨n,3,none⟩=some y∧∀i,V.frozen? ⟨n,i,none⟩=false:=by
 refine⟨?_, ?_, ?_, ?_,fun i=> ?_⟩
 ·unfold World.cell?;rw[h];rfl
 ·unfold World.cell?;rw[h];rfl
 ·unfold World.cell?;rw[h];rfl
 ·unfold World.cell?;rw[h];rfl
 ·unfold World.frozen?;rw[h];rfl
theorem turn{F:Nat→Prop}{W V V':World}{a0 a:RkAt}{K:Kn}{e0 e:RAt}{R0 R:List Rp}{E:En}(h:DkStep W V a0 e0 R0 a K e R E)(hm:Mod F V V')(hF:∀k,F k→a.tag k=0∧¬e.foot R k∧W.heap.size≤k):DkStep W V' a0 e0 R0 a K e R E where
 j:=⟨h.j.kn.keep hm fun x hx g=>hx (hF x g).1,h.j.en.keep hm fun x hx g=>(hF x g).2.1 hx,h.j.apart⟩
 same:=h.same
 mod:=h.mod.trans hm fun i _ g=>.inr (hF i g).2.2
 tag:=h.tag
 foot:=h.foot
theorem argR{w:World}{e:RAt}{R:List Rp}{E:En}(h:Renv w e R E)(n:Int):0≤E.arg n∧E.arg n≤4294967295:=by
 unfold En.arg
 split
 ·exact Cp.rg_bd h.cp.regs n
 ·omega
theorem bk{V V':World}{a a':RkAt}{K':Kn}{e e':RAt}{R R':List Rp}{E':En}(s:DkStep V V' a e R a' K' e' R' E'){n:Nat}(t:a.tag n=0∧¬e.foot R n){Y:Obj}(hY:V.heap[n]? =some Y):V'.heap[n]? =some Y∧a'.tag n=0∧¬e'.foot R' n:=by
 have hn:=lQ hY;refine⟨(s.mod.block n hn (by rintro(g|g);exact g.1 t.1;exact t.2 g)).trans hY,(s.tag n hn).trans t.1,fun g=> ?_⟩;rcases s.foot n g with q|q
 ·exact t.2 q
 ·omega
theorem fin0{num:Int}(h1:num≠1){c:Nat→Co}(hc:∀blk,Co.call K E blk num=c blk){blk:Nat}{a':RkAt}{e':RAt}{R':List Rp}{V:World}(hz:(c blk).ev=0)(q:DkStep w V a e R a' (c blk).K e' R' ((c blk).E.answer (c blk).v (c blk).y)):DoP w a e R K E num (.returned (.tuple #[.agg #[.int .u8 0,.int .i64 0,.string ByteArray.empty,.int .u32 0],.bool false])) V:=by
 refine⟨blk,a',e',R', ?_, ?_⟩
 ·unfold Kl.evt;rw[if_neg h1,hc blk];unfold evOf;rw[if_pos hz];rfl
 ·unfold Co.doK Co.doE;rw[if_neg h1,if_neg h1,hc blk];exact q
theorem page_z(K:Kn)(E:En)(b:Nat)(x:Int):(Co.page K E b x).v=0∧(Co.page K E b x).ev=0∧0≤(Co.page K E b x).y∧(Co.page K E b x).y≤6:=by
 unfold Co.page
 split
 ·simp[Co.no]
 ·split<;>simp[Co.no]
theorem drop_z(K:Kn)(E:En)(x:Int):(Co.drop K E x).v=0∧(Co.drop K E x).ev=0∧0≤(Co.drop K E x).y∧(Co.drop K E x).y≤6:=by
 unfold Co.drop
 split
 ·simp[Co.no]
 ·split<;>simp[Co.no]
theorem read_z(K:Kn)(E:En)(i n x:Int):(Co.read K E i n x).v=0∧(Co.read K E i n x).ev=0∧0≤(Co.read K E i n x).y∧(Co.read K E i n x).y≤6:=by
 unfold Co.read
 split
 ·simp[Co.no]
 ·simp only
  split<;>simp[Co.no]
theorem write_z(K:Kn)(E:En)(i n x:Int):(Co.write K E i n x).v=0∧(Co.write K E i n x).ev=0∧0≤(Co.write K E i n x).y∧(Co.write K E i n x).y≤6:=by
 unfold Co.write
 split
 ·simp[Co.no]
 ·split<;>simp[Co.no]
theorem do_yield(h:DKE w a K e R E):Calls Tryz.prog 30 #[.pointer (some ⟨a.kb,0,none⟩),.pointer (some ⟨e.eb,0,none⟩),.int .u32 2] w (DoP w a e R K E 2):=by
 have HAr:=Lh fun n n0 n1 V (hV:Below w.heap.size w V)=>Rv.arg (h.below hV).en n n0 n1
 have HE:=Lh fun V (hV:Below w.heap.size w V)=>(Rv.cells (h.below hV).en).1
 have H0:=Lh (DkStep.refl h);have HD:=Lh h;have HTag:Hid (∀k,w.heap.size≤k→a.tag k=0∧¬e.foot R k):=Lh fun k hk=>⟨Decidable.byContradiction fun q=>absurd (h.kn.lt k q) (by omega),fun q=>absurd (h.en.lt k q) (by omega)⟩
 clear h;have hc:Kl.evt K E 0 2=Evt.none∧Co.doK K E 0 2=K∧Co.doE K E 0 2=E.answer 0 0:=⟨rfl,rfl,rfl⟩;have HFin:Hid (∀V a' e' R',DkStep w V a e R a' K e' R' (E.answer 0 0)→DoP w a e R K E 2 (.returned (.tuple #[.agg #[.int .u8 0,.int .i64 0,.string ByteArray.empty,.int .u32 0],.bool false])) V):=Lh fun V a' e' R' q=>⟨0,a',e',R',by rw[hc.1];rfl,by rw[hc.2.1,hc.2.2];exact q⟩
 generalize DoP w a e R K E 2=PQ at*;clear hc;go_enter func30,ntmps30;obtain⟨hB0,hR0,_,hk0⟩:=boxNew (w:=w) (V:=w) Br (.cells #[.int .u8 0,.int .i64 0,.string ByteArray.empty,.int .u32 0] 66);have HB0:=Lh hB0;have HR0:=Lh hR0;clear hB0 hR0 hk0;go_wp2_with fail;refine(HAr.out 1 (by omega) (by omega) _ HB0.out).mono ?_;rintro r w1 ⟨rfl,rfl⟩;go_wp2_with fail;refine(HAr.out 2 (by omega) (by omega) _ HB0.out).mono ?_;rintro r w1 ⟨rfl,rfl⟩;go_wp2_with fail;refine(HAr.out 3 (by omega) (by omega) _ HB0.out).mono ?_;rintro r w1 ⟨rfl,rfl⟩;have he0:=HE.out _ HB0.out;have hsz:(w.alloc (.cells #[.int .u8 0,.int .i64 0,.string ByteArray.empty,.int .u32 0] 66)).heap.size=w.heap.size+1:=by simp
 have HSz:=Lh hsz;clear hsz;obtain⟨hB1,hX1,_,hk1⟩:=boxNew HB0.out (.cells #[.int .u8 0,.int .i64 E.num,.string ByteArray.empty,.int .u32 0] 66);obtain⟨hR1,hne⟩:=hk1 _ _ HR0.out;rw[HSz.out] at hX1;have HB1:=Lh hB1;have HD1:=Lh (H0.out.below hB1);clear hB1 hk1;have hDV:=HD1.out;have hRV:=hR1;have hXV:=hX1;have tR:=HTag.out w.heap.size (Nat.le_refl _);have tX:=HTag.out (w.heap.size+1) (by omega);clear hR1 hX1;have han:=Rv.answer hDV.j.en (0) (0) (by omega) (by omega) (by omega) (by omega);rw[hDV.same.2] at han;have HAn:=Lh han;have HDV:=Lh hDV;have HRV:=Lh (And.intro hRV tR);have HXV:=Lh (And.intro hXV tX);clear han hDV hRV hXV tR tX;go_wp2_with fail;refine HAn.out.mono ?_;rintro r w5 ⟨rfl,hst⟩;have hds:=HDV.out.right hst;obtain⟨x0,x1,x2,x3,xf⟩:=ev4 ((hst.mod.block _ (lQ HXV.out.1) HXV.out.2.2).trans HXV.out.1);obtain⟨q0,q1,q2,q3,qf⟩:=ev4 ((hst.mod.block _ (lQ HRV.out.1) HRV.out.2.2).trans HRV.out.1);have HT:=Lh fun u0 u1 u2 u3=>turn hds (show Mod (fun k=>k=w.heap.size) w5 ((((w5.setCell ⟨w.heap.size,0,none⟩ u0).setCell ⟨w.heap.size,1,none⟩ u1).setCell ⟨w.heap.size,2,none⟩ u2).setCell ⟨w.heap.size,3,none⟩ u3) from(((Mod.setCell (F:=fun k=>k=w.heap.size) (Mod.refl _ _) ⟨w.heap.size,0,none⟩ (.inl rfl) _).setCell ⟨w.heap.size,1,none⟩ (.inl rfl) _).setCell ⟨w.heap.size,2,none⟩ (.inl rfl) _).setCell ⟨w.heap.size,3,none⟩ (.inl rfl) _) (fun k hk=>by subst hk;exact⟨HRV.out.2.1,HRV.out.2.2,Nat.le_refl _⟩)
 clear hst hds;go_wp2;refine bodyPost_ret (v:=.tuple #[.agg #[.int .u8 0,.int .i64 0,.string ByteArray.empty,.int .u32 0],.bool false]) (by simp[results,Tryz.results30,go_sem, *];try rfl) rfl ?_
 exact HFin.out _ _ _ _ (HT.out _ _ _ _)
theorem do_page(h:DKE w a K e R E):Calls Tryz.prog 30 #[.pointer (some ⟨a.kb,0,none⟩),.pointer (some ⟨e.eb,0,none⟩),.int .u32 3] w (DoP w a e R K E 3):=by
 have hb1:=argR h.en 1;have hb2:=argR h.en 2;have hb3:=argR h.en 3;have HAr:=Lh fun n n0 n1 V (hV:Below w.heap.size w V)=>Rv.arg (h.below hV).en n n0 n1
 have HE:=Lh fun V (hV:Below w.heap.size w V)=>(Rv.cells (h.below hV).en).1
 have H0:=Lh (DkStep.refl h);have HD:=Lh h;have HTag:Hid (∀k,w.heap.size≤k→a.tag k=0∧¬e.foot R k):=Lh fun k hk=>⟨Decidable.byContradiction fun q=>absurd (h.kn.lt k q) (by omega),fun q=>absurd (h.en.lt k q) (by omega)⟩
 clear h;have HFin:Hid (∀V blk a' e' R',DkStep w V a e R a' (Co.page K E blk (E.arg 1)).K e' R' ((Co.page K E blk (E.arg 1)).E.answer 0 (Co.page K E blk (E.arg 1)).y)→DoP w a e R K E 3 (.returned (.tuple #[.agg #[.int .u8 0,.int .i64 0,.string ByteArray.empty,.int .u32 0],.bool false])) V):=Lh fun V blk a' e' R' q=>fin0 (num:=3) (by decide) (c:=fun blk=>Co.page K E blk (E.arg 1)) (fun blk=>rfl) (blk:=blk) (page_z K E blk (E.arg 1)).2.1 (by show DkStep _ _ _ _ _ _ _ _ _ ((Co.page K E blk (E.arg 1)).E.answer (Co.page K E blk (E.arg 1)).v (Co.page K E blk (E.arg 1)).y);rw[(page_z K E blk (E.arg 1)).1];exact q)
 generalize DoP w a e R K E 3=PQ at*;have HCl:=Lh fun V (hV:DKE V a K e R E)=>page hV (E.arg 1) hb1.1 hb1.2
 go_enter func30,ntmps30;obtain⟨hB0,hR0,_,hk0⟩:=boxNew (w:=w) (V:=w) Br (.cells #[.int .u8 0,.int .i64 0,.string ByteArray.empty,.int .u32 0] 66);have HB0:=Lh hB0;have HR0:=Lh hR0;clear hB0 hR0 hk0;go_wp2_with fail;refine(HAr.out 1 (by omega) (by omega) _ HB0.out).mono ?_;rintro r w1 ⟨rfl,rfl⟩;go_wp2_with fail;refine(HAr.out 2 (by omega) (by omega) _ HB0.out).mono ?_;rintro r w1 ⟨rfl,rfl⟩;go_wp2_with fail;refine(HAr.out 3 (by omega) (by omega) _ HB0.out).mono ?_;rintro r w1 ⟨rfl,rfl⟩;have he0:=HE.out _ HB0.out;have hsz:(w.alloc (.cells #[.int .u8 0,.int .i64 0,.string ByteArray.empty,.int .u32 0] 66)).heap.size=w.heap.size+1:=by simp
 have HSz:=Lh hsz;clear hsz;obtain⟨hB1,hX1,_,hk1⟩:=boxNew HB0.out (.cells #[.int .u8 0,.int .i64 E.num,.string ByteArray.empty,.int .u32 0] 66);obtain⟨hR1,hne⟩:=hk1 _ _ HR0.out;rw[HSz.out] at hX1;have HB1:=Lh hB1;have HD1:=Lh (H0.out.below hB1);clear hB1 hk1;have HRX:=Lh (And.intro hR1 hX1);clear hR1 hX1;go_wp2_with fail;refine(HCl.out _ HD1.out.j).mono ?_;rintro r w3 ⟨blk,a2,e2,R2,rfl,hs3⟩;obtain⟨hRV,tR⟩:=bk hs3 (HTag.out w.heap.size (Nat.le_refl _)) HRX.out.1;obtain⟨hXV,tX⟩:=bk hs3 (HTag.out (w.heap.size+1) (by omega)) HRX.out.2;have hDV:=preD HB1.out hs3;have hy:=(page_z K E blk (E.arg 1)).2.2;clear hs3;have han:=Rv.answer hDV.j.en (0) ((Co.page K E blk (E.arg 1)).y) (by omega) (by omega) (by omega) (by omega);rw[hDV.same.2] at han;have HAn:=Lh han;have HDV:=Lh hDV;have HRV:=Lh (And.intro hRV tR);have HXV:=Lh (And.intro hXV tX);clear han hDV hRV hXV tR tX;go_wp2_with fail;refine HAn.out.mono ?_;rintro r w5 ⟨rfl,hst⟩;have hds:=HDV.out.right hst;obtain⟨x0,x1,x2,x3,xf⟩:=ev4 ((hst.mod.block _ (lQ HXV.out.1) HXV.out.2.2).trans HXV.out.1);obtain⟨q0,q1,q2,q3,qf⟩:=ev4 ((hst.mod.block _ (lQ HRV.out.1) HRV.out.2.2).trans HRV.out.1);have HT:=Lh fun u0 u1 u2 u3=>turn hds (show Mod (fun k=>k=w.heap.size) w5 ((((w5.setCell ⟨w.heap.size,0,none⟩ u0).setCell ⟨w.heap.size,1,none⟩ u1).setCell ⟨w.heap.size,2,none⟩ u2).setCell ⟨w.heap.size,3,none⟩ u3) from(((Mod.setCell (F:=fun k=>k=w.heap.size) (Mod.refl _ _) ⟨w.heap.size,0,none⟩ (.inl rfl) _).setCell ⟨w.heap.size,1,none⟩ (.inl rfl) _).setCell ⟨w.heap.size,2,none⟩ (.inl rfl) _).setCell ⟨w.heap.size,3,none⟩ (.inl rfl) _) (fun k hk=>by subst hk;exact⟨HRV.out.2.1,HRV.out.2.2,Nat.le_refl _⟩)
 clear hst hds;go_wp2;refine bodyPost_ret (v:=.tuple #[.agg #[.int .u8 0,.int .i64 0,.string ByteArray.empty,.int .u32 0],.bool false]) (by simp[results,Tryz.results30,go_sem, *];try rfl) rfl ?_
 exact HFin.out _ blk _ _ _ (HT.out _ _ _ _)
theorem do_drop(h:DKE w a K e R E):Calls Tryz.prog 30 #[.pointer (some ⟨a.kb,0,none⟩),.pointer (some ⟨e.eb,0,none⟩),.int .u32 4] w (DoP w a e R K E 4):=by
 have hb1:=argR h.en 1;have hb2:=argR h.en 2;have hb3:=argR h.en 3;have HAr:=Lh fun n n0 n1 V (hV:Below w.heap.size w V)=>Rv.arg (h.below hV).en n n0 n1
 have HE:=Lh fun V (hV:Below w.heap.size w V)=>(Rv.cells (h.below hV).en).1
 have H0:=Lh (DkStep.refl h);have HD:=Lh h;have HTag:Hid (∀k,w.heap.size≤k→a.tag k=0∧¬e.foot R k):=Lh fun k hk=>⟨Decidable.byContradiction fun q=>absurd (h.kn.lt k q) (by omega),fun q=>absurd (h.en.lt k q) (by omega)⟩
 clear h;have HFin:Hid (∀V blk a' e' R',DkStep w V a e R a' (Co.drop K E (E.arg 1)).K e' R' ((Co.drop K E (E.arg 1)).E.answer 0 (Co.drop K E (E.arg 1)).y)→DoP w a e R K E 4 (.returned (.tuple #[.agg #[.int .u8 0,.int .i64 0,.string ByteArray.empty,.int .u32 0],.bool false])) V):=Lh fun V blk a' e' R' q=>fin0 (num:=4) (by decide) (c:=fun blk=>Co.drop K E (E.arg 1)) (fun blk=>rfl) (blk:=blk) (drop_z K E (E.arg 1)).2.1 (by show DkStep _ _ _ _ _ _ _ _ _ ((Co.drop K E (E.arg 1)).E.answer (Co.drop K E (E.arg 1)).v (Co.drop K E (E.arg 1)).y);rw[(drop_z K E (E.arg 1)).1];exact q)
 generalize DoP w a e R K E 4=PQ at*;have HCl:=Lh fun V (hV:DKE V a K e R E)=>drop hV (E.arg 1) hb1.1 hb1.2
 go_enter func30,ntmps30;obtain⟨hB0,hR0,_,hk0⟩:=boxNew (w:=w) (V:=w) Br (.cells #[.int .u8 0,.int .i64 0,.string ByteArray.empty,.int .u32 0] 66);have HB0:=Lh hB0;have HR0:=Lh hR0;clear hB0 hR0 hk0;go_wp2_with fail;refine(HAr.out 1 (by omega) (by omega) _ HB0.out).mono ?_;rintro r w1 ⟨rfl,rfl⟩;go_wp2_with fail;refine(HAr.out 2 (by omega) (by omega) _ HB0.out).mono ?_;rintro r w1 ⟨rfl,rfl⟩;go_wp2_with fail;refine(HAr.out 3 (by omega) (by omega) _ HB0.out).mono ?_;rintro r w1 ⟨rfl,rfl⟩;have he0:=HE.out _ HB0.out;have hsz:(w.alloc (.cells #[.int .u8 0,.int .i64 0,.string ByteArray.empty,.int .u32 0] 66)).heap.size=w.heap.size+1:=by simp
 have HSz:=Lh hsz;clear hsz;obtain⟨hB1,hX1,_,hk1⟩:=boxNew HB0.out (.cells #[.int .u8 0,.int .i64 E.num,.string ByteArray.empty,.int .u32 0] 66);obtain⟨hR1,hne⟩:=hk1 _ _ HR0.out;rw[HSz.out] at hX1;have HB1:=Lh hB1;have HD1:=Lh (H0.out.below hB1);clear hB1 hk1;have HRX:=Lh (And.intro hR1 hX1);clear hR1 hX1;go_wp2_with fail;refine(HCl.out _ HD1.out.j).mono ?_;rintro r w3 ⟨blk,a2,e2,R2,rfl,hs3⟩;obtain⟨hRV,tR⟩:=bk hs3 (HTag.out w.heap.size (Nat.le_refl _)) HRX.out.1;obtain⟨hXV,tX⟩:=bk hs3 (HTag.out (w.heap.size+1) (by omega)) HRX.out.2;have hDV:=preD HB1.out hs3;have hy:=(drop_z K E (E.arg 1)).2.2;clear hs3;have han:=Rv.answer hDV.j.en (0) ((Co.drop K E (E.arg 1)).y) (by omega) (by omega) (by omega) (by omega);rw[hDV.same.2] at han;have HAn:=Lh han;have HDV:=Lh hDV;have HRV:=Lh (And.intro hRV tR);have HXV:=Lh (And.intro hXV tX);clear han hDV hRV hXV tR tX;go_wp2_with fail;refine HAn.out.mono ?_;rintro r w5 ⟨rfl,hst⟩;have hds:=HDV.out.right hst;obtain⟨x0,x1,x2,x3,xf⟩:=ev4 ((hst.mod.block _ (lQ HXV.out.1) HXV.out.2.2).trans HXV.out.1);obtain⟨q0,q1,q2,q3,qf⟩:=ev4 ((hst.mod.block _ (lQ HRV.out.1) HRV.out.2.2).trans HRV.out.1);have HT:=Lh fun u0 u1 u2 u3=>turn hds (show Mod (fun k=>k=w.heap.size) w5 ((((w5.setCell ⟨w.heap.size,0,none⟩ u0).setCell ⟨w.heap.size,1,none⟩ u1).setCell ⟨w.heap.size,2,none⟩ u2).setCell ⟨w.heap.size,3,none⟩ u3) from(((Mod.setCell (F:=fun k=>k=w.heap.size) (Mod.refl _ _) ⟨w.heap.size,0,none⟩ (.inl rfl) _).setCell ⟨w.heap.size,1,none⟩ (.inl rfl) _).setCell ⟨w.heap.size,2,none⟩ (.inl rfl) _).setCell ⟨w.heap.size,3,none⟩ (.inl rfl) _) (fun k hk=>by subst hk;exact⟨HRV.out.2.1,HRV.out.2.2,Nat.le_refl _⟩)
 clear hst hds;go_wp2;refine bodyPost_ret (v:=.tuple #[.agg #[.int .u8 0,.int .i64 0,.string ByteArray.empty,.int .u32 0],.bool false]) (by simp[results,Tryz.results30,go_sem, *];try rfl) rfl ?_
 exact HFin.out _ blk _ _ _ (HT.out _ _ _ _)
theorem do_read(h:DKE w a K e R E)(hfit:∀id n:Int,0≤id→0≤n→Gp.hasBlock (K.g E.num) id n=true→∃t,Kn.block K.B id n=some t):Calls Tryz.prog 30 #[.pointer (some ⟨a.kb,0,none⟩),.pointer (some ⟨e.eb,0,none⟩),.int .u32 5] w (DoP w a e R K E 5):=by
 have hb1:=argR h.en 1;have hb2:=argR h.en 2;have hb3:=argR h.en 3;have HAr:=Lh fun n n0 n1 V (hV:Below w.heap.size w V)=>Rv.arg (h.below hV).en n n0 n1
 have HE:=Lh fun V (hV:Below w.heap.size w V)=>(Rv.cells (h.below hV).en).1
 have H0:=Lh (DkStep.refl h);have HD:=Lh h;have HTag:Hid (∀k,w.heap.size≤k→a.tag k=0∧¬e.foot R k):=Lh fun k hk=>⟨Decidable.byContradiction fun q=>absurd (h.kn.lt k q) (by omega),fun q=>absurd (h.en.lt k q) (by omega)⟩
 clear h;have HFin:Hid (∀V blk a' e' R',DkStep w V a e R a' (Co.read K E (E.arg 1) (E.arg 2) (E.arg 3)).K e' R' ((Co.read K E (E.arg 1) (E.arg 2) (E.arg 3)).E.answer 0 (Co.read K E (E.arg 1) (E.arg 2) (E.arg 3)).y)→DoP w a e R K E 5 (.returned (.tuple #[.agg #[.int .u8 0,.int .i64 0,.string ByteArray.empty,.int .u32 0],.bool false])) V):=Lh fun V blk a' e' R' q=>fin0 (num:=5) (by decide) (c:=fun blk=>Co.read K E (E.arg 1) (E.arg 2) (E.arg 3)) (fun blk=>rfl) (blk:=blk) (read_z K E (E.arg 1) (E.arg 2) (E.arg 3)).2.1 (by show DkStep _ _ _ _ _ _ _ _ _ ((Co.read K E (E.arg 1) (E.arg 2) (E.arg 3)).E.answer (Co.read K E (E.arg 1) (E.arg 2) (E.arg 3)).v (Co.read K E (E.arg 1) (E.arg 2) (E.arg 3)).y);rw[(read_z K E (E.arg 1) (E.arg 2) (E.arg 3)).1];exact q)
 generalize DoP w a e R K E 5=PQ at*;have HCl:=Lh fun V (hV:DKE V a K e R E)=>read hV (E.arg 1) (E.arg 2) (E.arg 3) hb1.1 hb1.2 hb2.1 hb2.2 hb3.1 hb3.2 (hfit _ _ hb1.1 hb2.1)
 go_enter func30,ntmps30;obtain⟨hB0,hR0,_,hk0⟩:=boxNew (w:=w) (V:=w) Br (.cells #[.int .u8 0,.int .i64 0,.string ByteArray.empty,.int .u32 0] 66);have HB0:=Lh hB0;have HR0:=Lh hR0;clear hB0 hR0 hk0;go_wp2_with fail;refine(HAr.out 1 (by omega) (by omega) _ HB0.out).mono ?_;rintro r w1 ⟨rfl,rfl⟩;go_wp2_with fail;refine(HAr.out 2 (by omega) (by omega) _ HB0.out).mono ?_;rintro r w1 ⟨rfl,rfl⟩;go_wp2_with fail;refine(HAr.out 3 (by omega) (by omega) _ HB0.out).mono ?_;rintro r w1 ⟨rfl,rfl⟩;have he0:=HE.out _ HB0.out;have hsz:(w.alloc (.cells #[.int .u8 0,.int .i64 0,.string ByteArray.empty,.int .u32 0] 66)).heap.size=w.heap.size+1:=by simp
 have HSz:=Lh hsz;clear hsz;obtain⟨hB1,hX1,_,hk1⟩:=boxNew HB0.out (.cells #[.int .u8 0,.int .i64 E.num,.string ByteArray.empty,.int .u32 0] 66);obtain⟨hR1,hne⟩:=hk1 _ _ HR0.out;rw[HSz.out] at hX1;have HB1:=Lh hB1;have HD1:=Lh (H0.out.below hB1);clear hB1 hk1;have HRX:=Lh (And.intro hR1 hX1);clear hR1 hX1;go_wp2_with fail;refine(HCl.out _ HD1.out.j).mono ?_;rintro r w3 ⟨blk,a2,e2,R2,rfl,hs3⟩;obtain⟨hRV,tR⟩:=bk hs3 (HTag.out w.heap.size (Nat.le_refl _)) HRX.out.1;obtain⟨hXV,tX⟩:=bk hs3 (HTag.out (w.heap.size+1) (by omega)) HRX.out.2;have hDV:=preD HB1.out hs3;have hy:=(read_z K E (E.arg 1) (E.arg 2) (E.arg 3)).2.2;clear hs3;have han:=Rv.answer hDV.j.en (0) ((Co.read K E (E.arg 1) (E.arg 2) (E.arg 3)).y) (by omega) (by omega) (by omega) (by omega);rw[hDV.same.2] at han;have HAn:=Lh han;have HDV:=Lh hDV;have HRV:=Lh (And.intro hRV tR);have HXV:=Lh (And.intro hXV tX);clear han hDV hRV hXV tR tX;go_wp2_with fail;refine HAn.out.mono ?_;rintro r w5 ⟨rfl,hst⟩;have hds:=HDV.out.right hst;obtain⟨x0,x1,x2,x3,xf⟩:=ev4 ((hst.mod.block _ (lQ HXV.out.1) HXV.out.2.2).trans HXV.out.1);obtain⟨q0,q1,q2,q3,qf⟩:=ev4 ((hst.mod.block _ (lQ HRV.out.1) HRV.out.2.2).trans HRV.out.1);have HT:=Lh fun u0 u1 u2 u3=>turn hds (show Mod (fun k=>k=w.heap.size) w5 ((((w5.setCell ⟨w.heap.size,0,none⟩ u0).setCell ⟨w.heap.size,1,none⟩ u1).setCell ⟨w.heap.size,2,none⟩ u2).setCell ⟨w.heap.size,3,none⟩ u3) from(((Mod.setCell (F:=fun k=>k=w.heap.size) (Mod.refl _ _) ⟨w.heap.size,0,none⟩ (.inl rfl) _).setCell ⟨w.heap.size,1,none⟩ (.inl rfl) _).setCell ⟨w.heap.size,2,none⟩ (.inl rfl) _).setCell ⟨w.heap.size,3,none⟩ (.inl rfl) _) (fun k hk=>by subst hk;exact⟨HRV.out.2.1,HRV.out.2.2,Nat.le_refl _⟩)
 clear hst hds;go_wp2;refine bodyPost_ret (v:=.tuple #[.agg #[.int .u8 0,.int .i64 0,.string ByteArray.empty,.int .u32 0],.bool false]) (by simp[results,Tryz.results30,go_sem, *];try rfl) rfl ?_
 exact HFin.out _ blk _ _ _ (HT.out _ _ _ _)
theorem do_write(h:DKE w a K e R E)(hfit:∀id n:Int,0≤id→0≤n→Gp.hasBlock (K.g E.num) id n=true→∃t,Kn.block K.B id n=some t):Calls Tryz.prog 30 #[.pointer (some ⟨a.kb,0,none⟩),.pointer (some ⟨e.eb,0,none⟩),.int .u32 6] w (DoP w a e R K E 6):=by
 have hb1:=argR h.en 1;have hb2:=argR h.en 2;have hb3:=argR h.en 3;have HAr:=Lh fun n n0 n1 V (hV:Below w.heap.size w V)=>Rv.arg (h.below hV).en n n0 n1
 have HE:=Lh fun V (hV:Below w.heap.size w V)=>(Rv.cells (h.below hV).en).1
 have H0:=Lh (DkStep.refl h);have HD:=Lh h;have HTag:Hid (∀k,w.heap.size≤k→a.tag k=0∧¬e.foot R k):=Lh fun k hk=>⟨Decidable.byContradiction fun q=>absurd (h.kn.lt k q) (by omega),fun q=>absurd (h.en.lt k q) (by omega)⟩
 clear h;have HFin:Hid (∀V blk a' e' R',DkStep w V a e R a' (Co.write K E (E.arg 1) (E.arg 2) (E.arg 3)).K e' R' ((Co.write K E (E.arg 1) (E.arg 2) (E.arg 3)).E.answer 0 (Co.write K E (E.arg 1) (E.arg 2) (E.arg 3)).y)→DoP w a e R K E 6 (.returned (.tuple #[.agg #[.int .u8 0,.int .i64 0,.string ByteArray.empty,.int .u32 0],.bool false])) V):=Lh fun V blk a' e' R' q=>fin0 (num:=6) (by decide) (c:=fun blk=>Co.write K E (E.arg 1) (E.arg 2) (E.arg 3)) (fun blk=>rfl) (blk:=blk) (write_z K E (E.arg 1) (E.arg 2) (E.arg 3)).2.1 (by show DkStep _ _ _ _ _ _ _ _ _ ((Co.write K E (E.arg 1) (E.arg 2) (E.arg 3)).E.answer (Co.write K E (E.arg 1) (E.arg 2) (E.arg 3)).v (Co.write K E (E.arg 1) (E.arg 2) (E.arg 3)).y);rw[(write_z K E (E.arg 1) (E.arg 2) (E.arg 3)).1];exact q)
 generalize DoP w a e R K E 6=PQ at*;have HCl:=Lh fun V (hV:DKE V a K e R E)=>write hV (E.arg 1) (E.arg 2) (E.arg 3) hb1.1 hb1.2 hb2.1 hb2.2 hb3.1 hb3.2 (hfit _ _ hb1.1 hb2.1)
 go_enter func30,ntmps30;obtain⟨hB0,hR0,_,hk0⟩:=boxNew (w:=w) (V:=w) Br (.cells #[.int .u8 0,.int .i64 0,.string ByteArray.empty,.int .u32 0] 66);have HB0:=Lh hB0;have HR0:=Lh hR0;clear hB0 hR0 hk0;go_wp2_with fail;refine(HAr.out 1 (by omega) (by omega) _ HB0.out).mono ?_;rintro r w1 ⟨rfl,rfl⟩;go_wp2_with fail;refine(HAr.out 2 (by omega) (by omega) _ HB0.out).mono ?_;rintro r w1 ⟨rfl,rfl⟩;go_wp2_with fail;refine(HAr.out 3 (by omega) (by omega) _ HB0.out).mono ?_;rintro r w1 ⟨rfl,rfl⟩;have he0:=HE.out _ HB0.out;have hsz:(w.alloc (.cells #[.int .u8 0,.int .i64 0,.string ByteArray.empty,.int .u32 0] 66)).heap.size=w.heap.size+1:=by simp
 have HSz:=Lh hsz;clear hsz;obtain⟨hB1,hX1,_,hk1⟩:=boxNew HB0.out (.cells #[.int .u8 0,.int .i64 E.num,.string ByteArray.empty,.int .u32 0] 66);obtain⟨hR1,hne⟩:=hk1 _ _ HR0.out;rw[HSz.out] at hX1;have HB1:=Lh hB1;have HD1:=Lh (H0.out.below hB1);clear hB1 hk1;have HRX:=Lh (And.intro hR1 hX1);clear hR1 hX1;go_wp2_with fail;refine(HCl.out _ HD1.out.j).mono ?_;rintro r w3 ⟨blk,a2,e2,R2,rfl,hs3⟩;obtain⟨hRV,tR⟩:=bk hs3 (HTag.out w.heap.size (Nat.le_refl _)) HRX.out.1;obtain⟨hXV,tX⟩:=bk hs3 (HTag.out (w.heap.size+1) (by omega)) HRX.out.2;have hDV:=preD HB1.out hs3;have hy:=(write_z K E (E.arg 1) (E.arg 2) (E.arg 3)).2.2;clear hs3;have han:=Rv.answer hDV.j.en (0) ((Co.write K E (E.arg 1) (E.arg 2) (E.arg 3)).y) (by omega) (by omega) (by omega) (by omega);rw[hDV.same.2] at han;have HAn:=Lh han;have HDV:=Lh hDV;have HRV:=Lh (And.intro hRV tR);have HXV:=Lh (And.intro hXV tX);clear han hDV hRV hXV tR tX;go_wp2_with fail;refine HAn.out.mono ?_;rintro r w5 ⟨rfl,hst⟩;have hds:=HDV.out.right hst;obtain⟨x0,x1,x2,x3,xf⟩:=ev4 ((hst.mod.block _ (lQ HXV.out.1) HXV.out.2.2).trans HXV.out.1);obtain⟨q0,q1,q2,q3,qf⟩:=ev4 ((hst.mod.block _ (lQ HRV.out.1) HRV.out.2.2).trans HRV.out.1);have HT:=Lh fun u0 u1 u2 u3=>turn hds (show Mod (fun k=>k=w.heap.size) w5 ((((w5.setCell ⟨w.heap.size,0,none⟩ u0).setCell ⟨w.heap.size,1,none⟩ u1).setCell ⟨w.heap.size,2,none⟩ u2).setCell ⟨w.heap.size,3,none⟩ u3) from(((Mod.setCell (F:=fun k=>k=w.heap.size) (Mod.refl _ _) ⟨w.heap.size,0,none⟩ (.inl rfl) _).setCell ⟨w.heap.size,1,none⟩ (.inl rfl) _).setCell ⟨w.heap.size,2,none⟩ (.inl rfl) _).setCell ⟨w.heap.size,3,none⟩ (.inl rfl) _) (fun k hk=>by subst hk;exact⟨HRV.out.2.1,HRV.out.2.2,Nat.le_refl _⟩)
 clear hst hds;go_wp2;refine bodyPost_ret (v:=.tuple #[.agg #[.int .u8 0,.int .i64 0,.string ByteArray.empty,.int .u32 0],.bool false]) (by simp[results,Tryz.results30,go_sem, *];try rfl) rfl ?_
 exact HFin.out _ blk _ _ _ (HT.out _ _ _ _)
end
end Rk
namespace Rk
section
variable {w:World} {a:RkAt} {K:Kn} {e:RAt} {R:List Rp} {E:En}
theorem recv_z(hq:∀x s,s∈K.N.q x→s.size≤128)(E:En)(p x m:Int):(0≤(Co.recv K E p x m).v∧(Co.recv K E p x m).v≤128)∧(Co.recv K E p x m).ev=0∧0≤(Co.recv K E p x m).y∧(Co.recv K E p x m).y≤6:=by
 unfold Co.recv
 split
 ·simp[Co.no]
 ·cases h:K.N.q p with
  |nil=>simp[Co.no]
  |cons s r=>
   have hs:=hq p s (by rw[h];exact List.mem_cons_self ..);simp only
   split
   ·simp[Co.no]
   ·split
    ·simp[Co.no]
    ·refine⟨⟨?_, ?_⟩,rfl, ?_, ?_⟩<;>simp only<;>omega
theorem do_time(h:DKE w a K e R E):Calls Tryz.prog 30 #[.pointer (some ⟨a.kb,0,none⟩),.pointer (some ⟨e.eb,0,none⟩),.int .u32 10] w (DoP w a e R K E 10):=by
 have hn0:=h.kn.ok.n0;have hn1:=h.kn.ok.n1;have HAr:=Lh fun n n0 n1 V (hV:Below w.heap.size w V)=>Rv.arg (h.below hV).en n n0 n1
 have HE:=Lh fun V (hV:Below w.heap.size w V)=>(Rv.cells (h.below hV).en).1
 have H0:=Lh (DkStep.refl h);have HD:=Lh h;have HTag:Hid (∀k,w.heap.size≤k→a.tag k=0∧¬e.foot R k):=Lh fun k hk=>⟨Decidable.byContradiction fun q=>absurd (h.kn.lt k q) (by omega),fun q=>absurd (h.en.lt k q) (by omega)⟩
 clear h;have HFin:Hid (∀V a' e' R',DkStep w V a e R a' K e' R' (E.answer (K.now) (0))→DoP w a e R K E 10 (.returned (.tuple #[.agg #[.int .u8 0,.int .i64 0,.string ByteArray.empty,.int .u32 0],.bool false])) V):=Lh fun V a' e' R' q=>fin0 (num:=10) (by omega) (c:=fun _=>(⟨K.now,0,K,E,0,ByteArray.empty⟩:Co)) (fun _=>rfl) (blk:=0) rfl q
 generalize DoP w a e R K E 10=PQ at*;go_enter func30,ntmps30;obtain⟨hB0,hR0,_,hk0⟩:=boxNew (w:=w) (V:=w) Br (.cells #[.int .u8 0,.int .i64 0,.string ByteArray.empty,.int .u32 0] 66);have HB0:=Lh hB0;have HR0:=Lh hR0;clear hB0 hR0 hk0;go_wp2_with fail;refine(HAr.out 1 (by omega) (by omega) _ HB0.out).mono ?_;rintro r w1 ⟨rfl,rfl⟩;go_wp2_with fail;refine(HAr.out 2 (by omega) (by omega) _ HB0.out).mono ?_;rintro r w1 ⟨rfl,rfl⟩;go_wp2_with fail;refine(HAr.out 3 (by omega) (by omega) _ HB0.out).mono ?_;rintro r w1 ⟨rfl,rfl⟩;have he0:=HE.out _ HB0.out;have hsz:(w.alloc (.cells #[.int .u8 0,.int .i64 0,.string ByteArray.empty,.int .u32 0] 66)).heap.size=w.heap.size+1:=by simp
 have HSz:=Lh hsz;clear hsz;obtain⟨hB1,hX1,_,hk1⟩:=boxNew HB0.out (.cells #[.int .u8 0,.int .i64 E.num,.string ByteArray.empty,.int .u32 0] 66);obtain⟨hR1,hne⟩:=hk1 _ _ HR0.out;rw[HSz.out] at hX1;have HB1:=Lh hB1;have HD1:=Lh (H0.out.below hB1);clear hB1 hk1;obtain⟨_,_,_,k3⟩:=HD1.out.j.kn.cells;have k4:((w.alloc (.cells #[.int .u8 0,.int .i64 0,.string ByteArray.empty,.int .u32 0] 66)).alloc (.cells #[.int .u8 0,.int .i64 E.num,.string ⟨#[]⟩,.int .u32 0] 66)).cell? ⟨a.kb,3,none⟩=some (.int .u32 K.now):=k3;have k5:((w.alloc (.cells #[.int .u8 0,.int .i64 0,.string ⟨#[]⟩,.int .u32 0] 66)).alloc (.cells #[.int .u8 0,.int .i64 E.num,.string ⟨#[]⟩,.int .u32 0] 66)).cell? ⟨a.kb,3,none⟩=some (.int .u32 K.now):=k3;have hDV:=HD1.out;have hRV:=hR1;have hXV:=hX1;have tR:=HTag.out w.heap.size (Nat.le_refl _);have tX:=HTag.out (w.heap.size+1) (by omega);clear hR1 hX1;have han:=Rv.answer hDV.j.en (K.now) (0) (by omega) (by omega) (by omega) (by omega);rw[hDV.same.2] at han;have HAn:=Lh han;have HDV:=Lh hDV;have HRV:=Lh (And.intro hRV tR);have HXV:=Lh (And.intro hXV tX);clear han hDV hRV hXV tR tX;go_wp2_with fail;refine HAn.out.mono ?_;rintro r w5 ⟨rfl,hst⟩;have hds:=HDV.out.right hst;obtain⟨x0,x1,x2,x3,xf⟩:=ev4 ((hst.mod.block _ (lQ HXV.out.1) HXV.out.2.2).trans HXV.out.1);obtain⟨q0,q1,q2,q3,qf⟩:=ev4 ((hst.mod.block _ (lQ HRV.out.1) HRV.out.2.2).trans HRV.out.1);have HT:=Lh fun u0 u1 u2 u3=>turn hds (show Mod (fun k=>k=w.heap.size) w5 ((((w5.setCell ⟨w.heap.size,0,none⟩ u0).setCell ⟨w.heap.size,1,none⟩ u1).setCell ⟨w.heap.size,2,none⟩ u2).setCell ⟨w.heap.size,3,none⟩ u3) from(((Mod.setCell (F:=fun k=>k=w.heap.size) (Mod.refl _ _) ⟨w.heap.size,0,none⟩ (.inl rfl) _).setCell ⟨w.heap.size,1,none⟩ (.inl rfl) _).setCell ⟨w.heap.size,2,none⟩ (.inl rfl) _).setCell ⟨w.heap.size,3,none⟩ (.inl rfl) _) (fun k hk=>by subst hk;exact⟨HRV.out.2.1,HRV.out.2.2,Nat.le_refl _⟩)
 clear hst hds;go_wp2;refine bodyPost_ret (v:=.tuple #[.agg #[.int .u8 0,.int .i64 0,.string ByteArray.empty,.int .u32 0],.bool false]) (by simp[results,Tryz.results30,go_sem, *];try rfl) rfl ?_
 exact HFin.out _ _ _ _ (HT.out _ _ _ _)
theorem do_other(h:DKE w a K e R E)(num:Int)(n0:0≤num)(hn:num=0∨10<num):Calls Tryz.prog 30 #[.pointer (some ⟨a.kb,0,none⟩),.pointer (some ⟨e.eb,0,none⟩),.int .u32 num] w (DoP w a e R K E num):=by
 have b1:(num == 1)=false:=beq_eq_false_iff_ne.2 (by omega);have b2:(num == 2)=false:=beq_eq_false_iff_ne.2 (by omega);have b3:(num == 3)=false:=beq_eq_false_iff_ne.2 (by omega);have b4:(num == 4)=false:=beq_eq_false_iff_ne.2 (by omega);have b5:(num == 5)=false:=beq_eq_false_iff_ne.2 (by omega);have b6:(num == 6)=false:=beq_eq_false_iff_ne.2 (by omega);have b7:(num == 7)=false:=beq_eq_false_iff_ne.2 (by omega);have b8:(num == 8)=false:=beq_eq_false_iff_ne.2 (by omega);have b9:(num == 9)=false:=beq_eq_false_iff_ne.2 (by omega);have b10:(num == 10)=false:=beq_eq_false_iff_ne.2 (by omega);have hcn:∀blk,Co.call K E blk num=Co.no K E 6:=fun blk=>by
  unfold Co.call;rw[if_neg (by omega),if_neg (by omega),if_neg (by omega),if_neg (by omega),if_neg (by omega),if_neg (by omega),if_neg (by omega),if_neg (by omega),if_neg (by omega)]
 have HCn:=Lh hcn;clear hcn;have HAr:=Lh fun n n0 n1 V (hV:Below w.heap.size w V)=>Rv.arg (h.below hV).en n n0 n1
 have HE:=Lh fun V (hV:Below w.heap.size w V)=>(Rv.cells (h.below hV).en).1
 have H0:=Lh (DkStep.refl h);have HD:=Lh h;have HTag:Hid (∀k,w.heap.size≤k→a.tag k=0∧¬e.foot R k):=Lh fun k hk=>⟨Decidable.byContradiction fun q=>absurd (h.kn.lt k q) (by omega),fun q=>absurd (h.en.lt k q) (by omega)⟩
 clear h;have HFin:Hid (∀V a' e' R',DkStep w V a e R a' K e' R' (E.answer (0) (6))→DoP w a e R K E num (.returned (.tuple #[.agg #[.int .u8 0,.int .i64 0,.string ByteArray.empty,.int .u32 0],.bool false])) V):=Lh fun V a' e' R' q=>fin0 (num:=num) (by omega) (c:=fun _=>Co.no K E 6) (HCn.out) (blk:=0) rfl q
 generalize DoP w a e R K E num=PQ at*;go_enter func30,ntmps30;obtain⟨hB0,hR0,_,hk0⟩:=boxNew (w:=w) (V:=w) Br (.cells #[.int .u8 0,.int .i64 0,.string ByteArray.empty,.int .u32 0] 66);have HB0:=Lh hB0;have HR0:=Lh hR0;clear hB0 hR0 hk0;go_wp2_with fail;refine(HAr.out 1 (by omega) (by omega) _ HB0.out).mono ?_;rintro r w1 ⟨rfl,rfl⟩;go_wp2_with fail;refine(HAr.out 2 (by omega) (by omega) _ HB0.out).mono ?_;rintro r w1 ⟨rfl,rfl⟩;go_wp2_with fail;refine(HAr.out 3 (by omega) (by omega) _ HB0.out).mono ?_;rintro r w1 ⟨rfl,rfl⟩;have he0:=HE.out _ HB0.out;have hsz:(w.alloc (.cells #[.int .u8 0,.int .i64 0,.string ByteArray.empty,.int .u32 0] 66)).heap.size=w.heap.size+1:=by simp
 have HSz:=Lh hsz;clear hsz;obtain⟨hB1,hX1,_,hk1⟩:=boxNew HB0.out (.cells #[.int .u8 0,.int .i64 E.num,.string ByteArray.empty,.int .u32 0] 66);obtain⟨hR1,hne⟩:=hk1 _ _ HR0.out;rw[HSz.out] at hX1;have HB1:=Lh hB1;have HD1:=Lh (H0.out.below hB1);clear hB1 hk1;obtain⟨_,_,_,k3⟩:=HD1.out.j.kn.cells;have k4:((w.alloc (.cells #[.int .u8 0,.int .i64 0,.string ByteArray.empty,.int .u32 0] 66)).alloc (.cells #[.int .u8 0,.int .i64 E.num,.string ⟨#[]⟩,.int .u32 0] 66)).cell? ⟨a.kb,3,none⟩=some (.int .u32 K.now):=k3;have k5:((w.alloc (.cells #[.int .u8 0,.int .i64 0,.string ⟨#[]⟩,.int .u32 0] 66)).alloc (.cells #[.int .u8 0,.int .i64 E.num,.string ⟨#[]⟩,.int .u32 0] 66)).cell? ⟨a.kb,3,none⟩=some (.int .u32 K.now):=k3;have hDV:=HD1.out;have hRV:=hR1;have hXV:=hX1;have tR:=HTag.out w.heap.size (Nat.le_refl _);have tX:=HTag.out (w.heap.size+1) (by omega);clear hR1 hX1;have han:=Rv.answer hDV.j.en (0) (6) (by omega) (by omega) (by omega) (by omega);rw[hDV.same.2] at han;have HAn:=Lh han;have HDV:=Lh hDV;have HRV:=Lh (And.intro hRV tR);have HXV:=Lh (And.intro hXV tX);clear han hDV hRV hXV tR tX;go_wp2_with fail;refine HAn.out.mono ?_;rintro r w5 ⟨rfl,hst⟩;have hds:=HDV.out.right hst;obtain⟨x0,x1,x2,x3,xf⟩:=ev4 ((hst.mod.block _ (lQ HXV.out.1) HXV.out.2.2).trans HXV.out.1);obtain⟨q0,q1,q2,q3,qf⟩:=ev4 ((hst.mod.block _ (lQ HRV.out.1) HRV.out.2.2).trans HRV.out.1);have HT:=Lh fun u0 u1 u2 u3=>turn hds (show Mod (fun k=>k=w.heap.size) w5 ((((w5.setCell ⟨w.heap.size,0,none⟩ u0).setCell ⟨w.heap.size,1,none⟩ u1).setCell ⟨w.heap.size,2,none⟩ u2).setCell ⟨w.heap.size,3,none⟩ u3) from(((Mod.setCell (F:=fun k=>k=w.heap.size) (Mod.refl _ _) ⟨w.heap.size,0,none⟩ (.inl rfl) _).setCell ⟨w.heap.size,1,none⟩ (.inl rfl) _).setCell ⟨w.heap.size,2,none⟩ (.inl rfl) _).setCell ⟨w.heap.size,3,none⟩ (.inl rfl) _) (fun k hk=>by subst hk;exact⟨HRV.out.2.1,HRV.out.2.2,Nat.le_refl _⟩)
 clear hst hds;go_wp2;refine bodyPost_ret (v:=.tuple #[.agg #[.int .u8 0,.int .i64 0,.string ByteArray.empty,.int .u32 0],.bool false]) (by simp[results,Tryz.results30,go_sem, *];try rfl) rfl ?_
 exact HFin.out _ _ _ _ (HT.out _ _ _ _)
theorem do_recv(h:DKE w a K e R E):Calls Tryz.prog 30 #[.pointer (some ⟨a.kb,0,none⟩),.pointer (some ⟨e.eb,0,none⟩),.int .u32 8] w (DoP w a e R K E 8):=by
 have hb1:=argR h.en 1;have hb2:=argR h.en 2;have hb3:=argR h.en 3;have hz:=recv_z h.kn.ok.q E (E.arg 1) (E.arg 2) (E.arg 3);have HAr:=Lh fun n n0 n1 V (hV:Below w.heap.size w V)=>Rv.arg (h.below hV).en n n0 n1
 have HE:=Lh fun V (hV:Below w.heap.size w V)=>(Rv.cells (h.below hV).en).1
 have H0:=Lh (DkStep.refl h);have HD:=Lh h;have HTag:Hid (∀k,w.heap.size≤k→a.tag k=0∧¬e.foot R k):=Lh fun k hk=>⟨Decidable.byContradiction fun q=>absurd (h.kn.lt k q) (by omega),fun q=>absurd (h.en.lt k q) (by omega)⟩
 clear h;have HFin:Hid (∀V a' e' R',DkStep w V a e R a' (Co.recv K E (E.arg 1) (E.arg 2) (E.arg 3)).K e' R' ((Co.recv K E (E.arg 1) (E.arg 2) (E.arg 3)).E.answer (Co.recv K E (E.arg 1) (E.arg 2) (E.arg 3)).v (Co.recv K E (E.arg 1) (E.arg 2) (E.arg 3)).y)→DoP w a e R K E 8 (.returned (.tuple #[.agg #[.int .u8 0,.int .i64 0,.string ByteArray.empty,.int .u32 0],.bool false])) V):=Lh fun V a' e' R' q=>fin0 (num:=8) (by decide) (c:=fun _=>Co.recv K E (E.arg 1) (E.arg 2) (E.arg 3)) (fun blk=>rfl) (blk:=0) hz.2.1 q
 generalize DoP w a e R K E 8=PQ at*;have HCl:=Lh fun V (hV:DKE V a K e R E)=>recv hV (E.arg 1) (E.arg 2) (E.arg 3) hb1.1 hb1.2 hb2.1 hb2.2 hb3.1 hb3.2
 go_enter func30,ntmps30;obtain⟨hB0,hR0,_,hk0⟩:=boxNew (w:=w) (V:=w) Br (.cells #[.int .u8 0,.int .i64 0,.string ByteArray.empty,.int .u32 0] 66);have HB0:=Lh hB0;have HR0:=Lh hR0;clear hB0 hR0 hk0;go_wp2_with fail;refine(HAr.out 1 (by omega) (by omega) _ HB0.out).mono ?_;rintro r w1 ⟨rfl,rfl⟩;go_wp2_with fail;refine(HAr.out 2 (by omega) (by omega) _ HB0.out).mono ?_;rintro r w1 ⟨rfl,rfl⟩;go_wp2_with fail;refine(HAr.out 3 (by omega) (by omega) _ HB0.out).mono ?_;rintro r w1 ⟨rfl,rfl⟩;have he0:=HE.out _ HB0.out;have hsz:(w.alloc (.cells #[.int .u8 0,.int .i64 0,.string ByteArray.empty,.int .u32 0] 66)).heap.size=w.heap.size+1:=by simp
 have HSz:=Lh hsz;clear hsz;obtain⟨hB1,hX1,_,hk1⟩:=boxNew HB0.out (.cells #[.int .u8 0,.int .i64 E.num,.string ByteArray.empty,.int .u32 0] 66);obtain⟨hR1,hne⟩:=hk1 _ _ HR0.out;rw[HSz.out] at hX1;have HB1:=Lh hB1;have HD1:=Lh (H0.out.below hB1);clear hB1 hk1;have HRX:=Lh (And.intro hR1 hX1);have HZ:=Lh hz;clear hR1 hX1 hz;go_wp2_with fail;refine(HCl.out _ HD1.out.j).mono ?_;rintro r w3 ⟨a2,e2,R2,rfl,hs3⟩;obtain⟨hRV,tR⟩:=bk hs3 (HTag.out w.heap.size (Nat.le_refl _)) HRX.out.1;obtain⟨hXV,tX⟩:=bk hs3 (HTag.out (w.heap.size+1) (by omega)) HRX.out.2;have hDV:=preD HB1.out hs3;have hy:=HZ.out.2.2;have hv:=HZ.out.1;clear hs3;have han:=Rv.answer hDV.j.en ((Co.recv K E (E.arg 1) (E.arg 2) (E.arg 3)).v) ((Co.recv K E (E.arg 1) (E.arg 2) (E.arg 3)).y) (by omega) (by omega) (by omega) (by omega);rw[hDV.same.2] at han;have HAn:=Lh han;have HDV:=Lh hDV;have HRV:=Lh (And.intro hRV tR);have HXV:=Lh (And.intro hXV tX);clear han hDV hRV hXV tR tX;go_wp2_with fail;refine HAn.out.mono ?_;rintro r w5 ⟨rfl,hst⟩;have hds:=HDV.out.right hst;obtain⟨x0,x1,x2,x3,xf⟩:=ev4 ((hst.mod.block _ (lQ HXV.out.1) HXV.out.2.2).trans HXV.out.1);obtain⟨q0,q1,q2,q3,qf⟩:=ev4 ((hst.mod.block _ (lQ HRV.out.1) HRV.out.2.2).trans HRV.out.1);have HT:=Lh fun u0 u1 u2 u3=>turn hds (show Mod (fun k=>k=w.heap.size) w5 ((((w5.setCell ⟨w.heap.size,0,none⟩ u0).setCell ⟨w.heap.size,1,none⟩ u1).setCell ⟨w.heap.size,2,none⟩ u2).setCell ⟨w.heap.size,3,none⟩ u3) from(((Mod.setCell (F:=fun k=>k=w.heap.size) (Mod.refl _ _) ⟨w.heap.size,0,none⟩ (.inl rfl) _).setCell ⟨w.heap.size,1,none⟩ (.inl rfl) _).setCell ⟨w.heap.size,2,none⟩ (.inl rfl) _).setCell ⟨w.heap.size,3,none⟩ (.inl rfl) _) (fun k hk=>by subst hk;exact⟨HRV.out.2.1,HRV.out.2.2,Nat.le_refl _⟩)
 clear hst hds;go_wp2;refine bodyPost_ret (v:=.tuple #[.agg #[.int .u8 0,.int .i64 0,.string ByteArray.empty,.int .u32 0],.bool false]) (by simp[results,Tryz.results30,go_sem, *];try rfl) rfl ?_
 exact HFin.out _ _ _ _ (HT.out _ _ _ _)
end
end Rk
end Go.Proofs.YtjjdjpdmgaipeaaGreat
