/- R22L, R22M, KcpP, WiP, Quad, Made in one text. -/
import Derived.Test.YtjjdjpdmgaipeaaGreatCpKdoG
import Derived.Test.YtjjdjpdmgaipeaaGreatCpGraG
import Derived.Test.YtjjdjpdmgaipeaaGreatCpR20D
import Derived.Test.YtjjdjpdmgaipeaaGreatCpCor
import Derived.Deep.QuietTactic
import Derived.BigQuiet
import Derived.Test.YtjjdjpdmgaipeaaGreatProg
import Derived.Test.YtjjdjpdmgaipeaaGreatCpBase
import Derived.OwnWalk
import Derived.Test.YtjjdjpdmgaipeaaGreatCpZa
set_option linter.unusedVariables false
set_option linter.unusedSimpArgs false
set_option maxRecDepth 100000
set_option maxHeartbeats 16000000
open Go.Proofs.Tryz
namespace Go.Proofs.YtjjdjpdmgaipeaaGreat
open Go.RowKit
namespace Rk
section
variable {w:World} {a:RkAt} {K:Kn} {e:RAt} {R:List Rp} {E:En}
theorem size0{s:ByteArray}(h:s.size=0):s=ByteArray.empty:=by
 cases s with
 |mk d=>
  have:d= #[]:=Array.eq_empty_of_size_eq_zero h;subst this;rfl
theorem send_z(K:Kn)(E:En)(x n:Int)(n0:0≤n):(Co.send K E x n).v=(Co.send K E x n).s.size∧(Co.send K E x n).s.size≤256∧(Co.send K E x n).ev=(if(Co.send K E x n).s=ByteArray.empty then 0 else 2)∧(0≤(Co.send K E x n).y∧(Co.send K E x n).y≤6)∧(Co.send K E x n).E.num=E.num:=by
 unfold Co.send
 split
 ·simp[Co.no]
 ·split
  ·simp[Co.no]
  ·unfold Kn.bytes
   by_cases hg:Sp.getE E.A x n 1=0
   ·rw[if_pos hg];have hs:=getS_size n0 hg;simp only
    split
    ·simp[Co.no]
    ·have hne:¬Sp.getS E.A x n 1=ByteArray.empty:=fun q=>by rw[q] at hs;have:ByteArray.empty.size=0:=rfl;omega
     refine⟨?_, ?_, ?_,⟨?_, ?_⟩,rfl⟩
     ·show n=((Sp.getS E.A x n 1).size:Int);omega
     ·show(Sp.getS E.A x n 1).size≤256;omega
     ·show(2:Int)=if Sp.getS E.A x n 1=ByteArray.empty then 0 else 2
      rw[if_neg hne]
     ·show(0:Int)≤0;omega
     ·show(0:Int)≤6;omega
   ·rw[if_neg hg];simp[Co.no]
theorem put_num(E:En)(s:ByteArray):(E.put s).num=E.num:=by unfold En.put;split<;>rfl
theorem put_z(K:Kn)(E:En)(x n:Int)(n0:0≤n):(Co.put K E x n).v=(Co.put K E x n).s.size∧(Co.put K E x n).s.size≤256∧(Co.put K E x n).ev=(if(Co.put K E x n).s=ByteArray.empty then 0 else 1)∧(0≤(Co.put K E x n).y∧(Co.put K E x n).y≤6)∧(Co.put K E x n).E.num=E.num:=by
 unfold Co.put
 split
 ·simp[Co.no]
 ·split
  ·simp[Co.no]
  ·unfold Kn.bytes
   by_cases hg:Sp.getE E.A x n 1=0
   ·rw[if_pos hg];have hs:=getS_size n0 hg;simp only
    split
    ·simp[Co.no]
    ·refine⟨?_, ?_, ?_,⟨?_, ?_⟩,put_num _ _⟩
     ·show n=((Sp.getS E.A x n 1).size:Int);omega
     ·show(Sp.getS E.A x n 1).size≤256;omega
     ·show(if n=0 then(0:Int) else 1)=if Sp.getS E.A x n 1=ByteArray.empty then 0 else 1
      by_cases q:n=0
      ·rw[if_pos q,if_pos (size0 (by omega))]
      ·rw[if_neg q,if_neg (fun z=>by rw[z] at hs;have:ByteArray.empty.size=0:=rfl;omega)]
     ·show(0:Int)≤0;omega
     ·show(0:Int)≤6;omega
   ·rw[if_neg hg];simp[Co.no]
theorem fin1{num:Int}(h1:num≠1){c:Nat→Co}(hc:∀blk,Co.call K E blk num=c blk){blk:Nat}{a':RkAt}{e':RAt}{R':List Rp}{V:World}{k:Int}(hk:(c blk).ev=k)(hz:k≠0)(hn:(c blk).E.num=E.num)(q:DkStep w V a e R a' (c blk).K e' R' ((c blk).E.answer (c blk).v (c blk).y)):DoP w a e R K E num (.returned (.tuple #[.agg #[.int .u8 k,.int .i64 E.num,.string (c blk).s,.int .u32 0],.bool true])) V:=by
 refine⟨blk,a',e',R', ?_, ?_⟩
 ·unfold Kl.evt;rw[if_neg h1,hc blk];unfold evOf;rw[if_neg (by rw[hk];exact hz),hk,hn];rfl
 ·unfold Co.doK Co.doE;rw[if_neg h1,if_neg h1,hc blk];exact q
theorem boxSet{V:World}{n m:Nat}{T:TypeId}{u v x y u' x':Value}{Y:Obj}(hX:V.heap[n]? =some (.cells #[u,v,x,y] T (0,0)))(hY:V.heap[m]? =some Y)(hne:m≠n):((V.setCell ⟨n,2,none⟩ x').setCell ⟨n,0,none⟩ u').heap[n]? =some (.cells #[u',v,x',y] T (0,0))∧((V.setCell ⟨n,2,none⟩ x').setCell ⟨n,0,none⟩ u').heap[m]? =some Y∧Mod (fun k=>k=n) V ((V.setCell ⟨n,2,none⟩ x').setCell ⟨n,0,none⟩ u'):=by
 have h1:=heap_setCell_same V n 2 _ _ x' hX;have h2:=heap_setCell_same (V.setCell ⟨n,2,none⟩ x') n 0 _ _ u' h1;have hm:Mod (fun k=>k=n) V ((V.setCell ⟨n,2,none⟩ x').setCell ⟨n,0,none⟩ u'):=(Mod.setCell (F:=fun k=>k=n) (Mod.refl _ _) ⟨n,2,none⟩ (.inl rfl) _).setCell ⟨n,0,none⟩ (.inl rfl) _;exact⟨h2,(hm.block m (lQ hY) hne).trans hY,hm⟩
theorem do_send(h:DKE w a K e R E)(hsn:K.N.sent.length<1000000):Calls Tryz.prog 30 #[.pointer (some ⟨a.kb,0,none⟩),.pointer (some ⟨e.eb,0,none⟩),.int .u32 7] w (DoP w a e R K E 7):=by
 have hb1:=argR h.en 1;have hb2:=argR h.en 2;have hz:=send_z K E (E.arg 1) (E.arg 2) hb2.1;have HAr:=Lh fun n n0 n1 V (hV:Below w.heap.size w V)=>Rv.arg (h.below hV).en n n0 n1
 have HE:=Lh fun V (hV:Below w.heap.size w V)=>(Rv.cells (h.below hV).en).1
 have H0:=Lh (DkStep.refl h);have HD:=Lh h;have HTag:Hid (∀k,w.heap.size≤k→a.tag k=0∧¬e.foot R k):=Lh fun k hk=>⟨Decidable.byContradiction fun q=>absurd (h.kn.lt k q) (by omega),fun q=>absurd (h.en.lt k q) (by omega)⟩
 clear h;have HCl:=Lh fun V (hV:DKE V a K e R E)=>send hV (E.arg 1) (E.arg 2) hb1.1 hb1.2 hb2.1 hb2.2 hsn
 have HF0:Hid ((Co.send K E (E.arg 1) (E.arg 2)).s=ByteArray.empty→∀V a' e' R',DkStep w V a e R a' (Co.send K E (E.arg 1) (E.arg 2)).K e' R' ((Co.send K E (E.arg 1) (E.arg 2)).E.answer (Co.send K E (E.arg 1) (E.arg 2)).v (Co.send K E (E.arg 1) (E.arg 2)).y)→DoP w a e R K E 7 (.returned (.tuple #[.agg #[.int .u8 0,.int .i64 0,.string ByteArray.empty,.int .u32 0],.bool false])) V):=Lh fun q0 V a' e' R' q=>fin0 (num:=7) (by decide) (c:=fun _=>Co.send K E (E.arg 1) (E.arg 2)) (fun blk=>rfl) (blk:=0) (by show(Co.send K E (E.arg 1) (E.arg 2)).ev=0;rw[hz.2.2.1,if_pos q0]) q
 have HF1:Hid (¬(Co.send K E (E.arg 1) (E.arg 2)).s=ByteArray.empty→∀V a' e' R',DkStep w V a e R a' (Co.send K E (E.arg 1) (E.arg 2)).K e' R' ((Co.send K E (E.arg 1) (E.arg 2)).E.answer (Co.send K E (E.arg 1) (E.arg 2)).v (Co.send K E (E.arg 1) (E.arg 2)).y)→DoP w a e R K E 7 (.returned (.tuple #[.agg #[.int .u8 2,.int .i64 E.num,.string (Co.send K E (E.arg 1) (E.arg 2)).s,.int .u32 0],.bool true])) V):=Lh fun q0 V a' e' R' q=>fin1 (num:=7) (by decide) (c:=fun _=>Co.send K E (E.arg 1) (E.arg 2)) (fun blk=>rfl) (blk:=0) (k:=2) (by show(Co.send K E (E.arg 1) (E.arg 2)).ev=2;rw[hz.2.2.1,if_neg q0]) (by decide) hz.2.2.2.2 q
 generalize DoP w a e R K E 7=PQ at*;unfold CoT at HCl;rw[hz.1] at HF0 HF1;obtain⟨_,hs,_,hy,_⟩:=hz;generalize (Co.send K E (E.arg 1) (E.arg 2)).E=E2 at*;generalize (Co.send K E (E.arg 1) (E.arg 2)).K=K2 at*;generalize (Co.send K E (E.arg 1) (E.arg 2)).y=y at*;generalize (Co.send K E (E.arg 1) (E.arg 2)).s=t at*;have wt:IntKind.u32.wrap (t.size:Int)=t.size:=wrap32 (by omega) (by omega)
 by_cases ht:t=ByteArray.empty
 ·have HF:=Lh (HF0.out ht);subst ht;go_enter func30,ntmps30;obtain⟨hB0,hR0,_,hk0⟩:=boxNew (w:=w) (V:=w) Br (.cells #[.int .u8 0,.int .i64 0,.string ByteArray.empty,.int .u32 0] 66);have HB0:=Lh hB0;have HR0:=Lh hR0;clear hB0 hR0 hk0;go_wp2_with fail;refine(HAr.out 1 (by omega) (by omega) _ HB0.out).mono ?_;rintro r w1 ⟨rfl,rfl⟩;go_wp2_with fail;refine(HAr.out 2 (by omega) (by omega) _ HB0.out).mono ?_;rintro r w1 ⟨rfl,rfl⟩;go_wp2_with fail;refine(HAr.out 3 (by omega) (by omega) _ HB0.out).mono ?_;rintro r w1 ⟨rfl,rfl⟩;have he0:=HE.out _ HB0.out;have hsz:(w.alloc (.cells #[.int .u8 0,.int .i64 0,.string ByteArray.empty,.int .u32 0] 66)).heap.size=w.heap.size+1:=by simp
  have HSz:=Lh hsz;clear hsz;obtain⟨hB1,hX1,_,hk1⟩:=boxNew HB0.out (.cells #[.int .u8 0,.int .i64 E.num,.string ByteArray.empty,.int .u32 0] 66);obtain⟨hR1,hne⟩:=hk1 _ _ HR0.out;rw[HSz.out] at hX1;have HB1:=Lh hB1;have HD1:=Lh (H0.out.below hB1);clear hB1 hk1;have HRX:=Lh (And.intro hR1 hX1);clear hR1 hX1;go_wp2_with fail;refine(HCl.out _ HD1.out.j).mono ?_;rintro r w3 ⟨a2,e2,R2,rfl,hs3⟩;have HS3:=Lh hs3;have HRk:=Lh (bk hs3 (HTag.out w.heap.size (Nat.le_refl _)) HRX.out.1);have HXk:=Lh (bk hs3 (HTag.out (w.heap.size+1) (by omega)) HRX.out.2);obtain⟨z0,z1,z2,z3,zf⟩:=ev4 HXk.out.1;clear hs3;have HBx:=Lh (boxSet (u':=.int .u8 2) (x':=.string ByteArray.empty) HXk.out.1 HRk.out.1 (by omega));have hDV:=turn (preD HB1.out HS3.out) HBx.out.2.2 (fun k hk=>by subst hk;exact⟨HXk.out.2.1,HXk.out.2.2,by omega⟩);have hRV:=HBx.out.2.1;have hXV:=HBx.out.1;have tR:=HRk.out.2;have tX:=HXk.out.2;have han:=Rv.answer hDV.j.en ((ByteArray.empty.size:Int)) (y) (by omega) (by omega) (by omega) (by omega);rw[hDV.same.2] at han;have HAn:=Lh han;have HDV:=Lh hDV;have HRV:=Lh (And.intro hRV tR);have HXV:=Lh (And.intro hXV tX);clear han hDV hRV hXV tR tX;go_wp2_with fail;refine HAn.out.mono ?_;rintro r w5 ⟨rfl,hst⟩;have hds:=HDV.out.right hst;obtain⟨x0,x1,x2,x3,xf⟩:=ev4 ((hst.mod.block _ (lQ HXV.out.1) HXV.out.2.2).trans HXV.out.1);obtain⟨q0,q1,q2,q3,qf⟩:=ev4 ((hst.mod.block _ (lQ HRV.out.1) HRV.out.2.2).trans HRV.out.1);have HT:=Lh fun u0 u1 u2 u3=>turn hds (show Mod (fun k=>k=w.heap.size) w5 ((((w5.setCell ⟨w.heap.size,0,none⟩ u0).setCell ⟨w.heap.size,1,none⟩ u1).setCell ⟨w.heap.size,2,none⟩ u2).setCell ⟨w.heap.size,3,none⟩ u3) from(((Mod.setCell (F:=fun k=>k=w.heap.size) (Mod.refl _ _) ⟨w.heap.size,0,none⟩ (.inl rfl) _).setCell ⟨w.heap.size,1,none⟩ (.inl rfl) _).setCell ⟨w.heap.size,2,none⟩ (.inl rfl) _).setCell ⟨w.heap.size,3,none⟩ (.inl rfl) _) (fun k hk=>by subst hk;exact⟨HRV.out.2.1,HRV.out.2.2,Nat.le_refl _⟩)
  clear hst hds;go_wp2;refine bodyPost_ret (v:=.tuple #[.agg #[.int .u8 0,.int .i64 0,.string ByteArray.empty,.int .u32 0],.bool false]) (by simp[results,Tryz.results30,go_sem, *];try rfl) rfl ?_
  exact HF.out _ _ _ _ (HT.out _ _ _ _)
 ·have HF:=Lh (HF1.out ht);have htl:t.toList.isEmpty=false:=nonempty_str t (Nat.pos_of_ne_zero fun q=>ht (size0 q));go_enter func30,ntmps30;obtain⟨hB0,hR0,_,hk0⟩:=boxNew (w:=w) (V:=w) Br (.cells #[.int .u8 0,.int .i64 0,.string ByteArray.empty,.int .u32 0] 66);have HB0:=Lh hB0;have HR0:=Lh hR0;clear hB0 hR0 hk0;go_wp2_with fail;refine(HAr.out 1 (by omega) (by omega) _ HB0.out).mono ?_;rintro r w1 ⟨rfl,rfl⟩;go_wp2_with fail;refine(HAr.out 2 (by omega) (by omega) _ HB0.out).mono ?_;rintro r w1 ⟨rfl,rfl⟩;go_wp2_with fail;refine(HAr.out 3 (by omega) (by omega) _ HB0.out).mono ?_;rintro r w1 ⟨rfl,rfl⟩;have he0:=HE.out _ HB0.out;have hsz:(w.alloc (.cells #[.int .u8 0,.int .i64 0,.string ByteArray.empty,.int .u32 0] 66)).heap.size=w.heap.size+1:=by simp
  have HSz:=Lh hsz;clear hsz;obtain⟨hB1,hX1,_,hk1⟩:=boxNew HB0.out (.cells #[.int .u8 0,.int .i64 E.num,.string ByteArray.empty,.int .u32 0] 66);obtain⟨hR1,hne⟩:=hk1 _ _ HR0.out;rw[HSz.out] at hX1;have HB1:=Lh hB1;have HD1:=Lh (H0.out.below hB1);clear hB1 hk1;have HRX:=Lh (And.intro hR1 hX1);clear hR1 hX1;go_wp2_with fail;refine(HCl.out _ HD1.out.j).mono ?_;rintro r w3 ⟨a2,e2,R2,rfl,hs3⟩;have HS3:=Lh hs3;have HRk:=Lh (bk hs3 (HTag.out w.heap.size (Nat.le_refl _)) HRX.out.1);have HXk:=Lh (bk hs3 (HTag.out (w.heap.size+1) (by omega)) HRX.out.2);obtain⟨z0,z1,z2,z3,zf⟩:=ev4 HXk.out.1;clear hs3;have HBx:=Lh (boxSet (u':=.int .u8 2) (x':=.string t) HXk.out.1 HRk.out.1 (by omega));have hDV:=turn (preD HB1.out HS3.out) HBx.out.2.2 (fun k hk=>by subst hk;exact⟨HXk.out.2.1,HXk.out.2.2,by omega⟩);have hRV:=HBx.out.2.1;have hXV:=HBx.out.1;have tR:=HRk.out.2;have tX:=HXk.out.2;have han:=Rv.answer hDV.j.en ((t.size:Int)) (y) (by omega) (by omega) (by omega) (by omega);rw[hDV.same.2] at han;have HAn:=Lh han;have HDV:=Lh hDV;have HRV:=Lh (And.intro hRV tR);have HXV:=Lh (And.intro hXV tX);clear han hDV hRV hXV tR tX;go_wp2_with fail;refine HAn.out.mono ?_;rintro r w5 ⟨rfl,hst⟩;have hds:=HDV.out.right hst;obtain⟨x0,x1,x2,x3,xf⟩:=ev4 ((hst.mod.block _ (lQ HXV.out.1) HXV.out.2.2).trans HXV.out.1);obtain⟨q0,q1,q2,q3,qf⟩:=ev4 ((hst.mod.block _ (lQ HRV.out.1) HRV.out.2.2).trans HRV.out.1);have HT:=Lh fun u0 u1 u2 u3=>turn hds (show Mod (fun k=>k=w.heap.size) w5 ((((w5.setCell ⟨w.heap.size,0,none⟩ u0).setCell ⟨w.heap.size,1,none⟩ u1).setCell ⟨w.heap.size,2,none⟩ u2).setCell ⟨w.heap.size,3,none⟩ u3) from(((Mod.setCell (F:=fun k=>k=w.heap.size) (Mod.refl _ _) ⟨w.heap.size,0,none⟩ (.inl rfl) _).setCell ⟨w.heap.size,1,none⟩ (.inl rfl) _).setCell ⟨w.heap.size,2,none⟩ (.inl rfl) _).setCell ⟨w.heap.size,3,none⟩ (.inl rfl) _) (fun k hk=>by subst hk;exact⟨HRV.out.2.1,HRV.out.2.2,Nat.le_refl _⟩)
  clear hst hds;go_wp2;refine bodyPost_ret (v:=.tuple #[.agg #[.int .u8 2,.int .i64 E.num,.string t,.int .u32 0],.bool true]) (by simp[results,Tryz.results30,go_sem, *];try rfl) rfl ?_
  exact HF.out _ _ _ _ (HT.out _ _ _ _)
theorem do_put(h:DKE w a K e R E):Calls Tryz.prog 30 #[.pointer (some ⟨a.kb,0,none⟩),.pointer (some ⟨e.eb,0,none⟩),.int .u32 9] w (DoP w a e R K E 9):=by
 have hb1:=argR h.en 1;have hb2:=argR h.en 2;have hz:=put_z K E (E.arg 1) (E.arg 2) hb2.1;have HAr:=Lh fun n n0 n1 V (hV:Below w.heap.size w V)=>Rv.arg (h.below hV).en n n0 n1
 have HE:=Lh fun V (hV:Below w.heap.size w V)=>(Rv.cells (h.below hV).en).1
 have H0:=Lh (DkStep.refl h);have HD:=Lh h;have HTag:Hid (∀k,w.heap.size≤k→a.tag k=0∧¬e.foot R k):=Lh fun k hk=>⟨Decidable.byContradiction fun q=>absurd (h.kn.lt k q) (by omega),fun q=>absurd (h.en.lt k q) (by omega)⟩
 clear h;have HCl:=Lh fun V (hV:DKE V a K e R E)=>put hV (E.arg 1) (E.arg 2) hb1.1 hb1.2 hb2.1 hb2.2
 have HF0:Hid ((Co.put K E (E.arg 1) (E.arg 2)).s=ByteArray.empty→∀V a' e' R',DkStep w V a e R a' (Co.put K E (E.arg 1) (E.arg 2)).K e' R' ((Co.put K E (E.arg 1) (E.arg 2)).E.answer (Co.put K E (E.arg 1) (E.arg 2)).v (Co.put K E (E.arg 1) (E.arg 2)).y)→DoP w a e R K E 9 (.returned (.tuple #[.agg #[.int .u8 0,.int .i64 0,.string ByteArray.empty,.int .u32 0],.bool false])) V):=Lh fun q0 V a' e' R' q=>fin0 (num:=9) (by decide) (c:=fun _=>Co.put K E (E.arg 1) (E.arg 2)) (fun blk=>rfl) (blk:=0) (by show(Co.put K E (E.arg 1) (E.arg 2)).ev=0;rw[hz.2.2.1,if_pos q0]) q
 have HF1:Hid (¬(Co.put K E (E.arg 1) (E.arg 2)).s=ByteArray.empty→∀V a' e' R',DkStep w V a e R a' (Co.put K E (E.arg 1) (E.arg 2)).K e' R' ((Co.put K E (E.arg 1) (E.arg 2)).E.answer (Co.put K E (E.arg 1) (E.arg 2)).v (Co.put K E (E.arg 1) (E.arg 2)).y)→DoP w a e R K E 9 (.returned (.tuple #[.agg #[.int .u8 1,.int .i64 E.num,.string (Co.put K E (E.arg 1) (E.arg 2)).s,.int .u32 0],.bool true])) V):=Lh fun q0 V a' e' R' q=>fin1 (num:=9) (by decide) (c:=fun _=>Co.put K E (E.arg 1) (E.arg 2)) (fun blk=>rfl) (blk:=0) (k:=1) (by show(Co.put K E (E.arg 1) (E.arg 2)).ev=1;rw[hz.2.2.1,if_neg q0]) (by decide) hz.2.2.2.2 q
 generalize DoP w a e R K E 9=PQ at*;unfold CoT at HCl;rw[hz.1] at HF0 HF1;obtain⟨_,hs,_,hy,_⟩:=hz;generalize (Co.put K E (E.arg 1) (E.arg 2)).E=E2 at*;generalize (Co.put K E (E.arg 1) (E.arg 2)).K=K2 at*;generalize (Co.put K E (E.arg 1) (E.arg 2)).y=y at*;generalize (Co.put K E (E.arg 1) (E.arg 2)).s=t at*;have wt:IntKind.u32.wrap (t.size:Int)=t.size:=wrap32 (by omega) (by omega)
 by_cases ht:t=ByteArray.empty
 ·have HF:=Lh (HF0.out ht);subst ht;go_enter func30,ntmps30;obtain⟨hB0,hR0,_,hk0⟩:=boxNew (w:=w) (V:=w) Br (.cells #[.int .u8 0,.int .i64 0,.string ByteArray.empty,.int .u32 0] 66);have HB0:=Lh hB0;have HR0:=Lh hR0;clear hB0 hR0 hk0;go_wp2_with fail;refine(HAr.out 1 (by omega) (by omega) _ HB0.out).mono ?_;rintro r w1 ⟨rfl,rfl⟩;go_wp2_with fail;refine(HAr.out 2 (by omega) (by omega) _ HB0.out).mono ?_;rintro r w1 ⟨rfl,rfl⟩;go_wp2_with fail;refine(HAr.out 3 (by omega) (by omega) _ HB0.out).mono ?_;rintro r w1 ⟨rfl,rfl⟩;have he0:=HE.out _ HB0.out;have hsz:(w.alloc (.cells #[.int .u8 0,.int .i64 0,.string ByteArray.empty,.int .u32 0] 66)).heap.size=w.heap.size+1:=by simp
  have HSz:=Lh hsz;clear hsz;obtain⟨hB1,hX1,_,hk1⟩:=boxNew HB0.out (.cells #[.int .u8 0,.int .i64 E.num,.string ByteArray.empty,.int .u32 0] 66);obtain⟨hR1,hne⟩:=hk1 _ _ HR0.out;rw[HSz.out] at hX1;have HB1:=Lh hB1;have HD1:=Lh (H0.out.below hB1);clear hB1 hk1;have HRX:=Lh (And.intro hR1 hX1);clear hR1 hX1;go_wp2_with fail;refine(HCl.out _ HD1.out.j).mono ?_;rintro r w3 ⟨a2,e2,R2,rfl,hs3⟩;have HS3:=Lh hs3;have HRk:=Lh (bk hs3 (HTag.out w.heap.size (Nat.le_refl _)) HRX.out.1);have HXk:=Lh (bk hs3 (HTag.out (w.heap.size+1) (by omega)) HRX.out.2);obtain⟨z0,z1,z2,z3,zf⟩:=ev4 HXk.out.1;clear hs3;have HBx:=Lh (boxSet (u':=.int .u8 1) (x':=.string ByteArray.empty) HXk.out.1 HRk.out.1 (by omega));have hDV:=turn (preD HB1.out HS3.out) HBx.out.2.2 (fun k hk=>by subst hk;exact⟨HXk.out.2.1,HXk.out.2.2,by omega⟩);have hRV:=HBx.out.2.1;have hXV:=HBx.out.1;have tR:=HRk.out.2;have tX:=HXk.out.2;have han:=Rv.answer hDV.j.en ((ByteArray.empty.size:Int)) (y) (by omega) (by omega) (by omega) (by omega);rw[hDV.same.2] at han;have HAn:=Lh han;have HDV:=Lh hDV;have HRV:=Lh (And.intro hRV tR);have HXV:=Lh (And.intro hXV tX);clear han hDV hRV hXV tR tX;go_wp2_with fail;refine HAn.out.mono ?_;rintro r w5 ⟨rfl,hst⟩;have hds:=HDV.out.right hst;obtain⟨x0,x1,x2,x3,xf⟩:=ev4 ((hst.mod.block _ (lQ HXV.out.1) HXV.out.2.2).trans HXV.out.1);obtain⟨q0,q1,q2,q3,qf⟩:=ev4 ((hst.mod.block _ (lQ HRV.out.1) HRV.out.2.2).trans HRV.out.1);have HT:=Lh fun u0 u1 u2 u3=>turn hds (show Mod (fun k=>k=w.heap.size) w5 ((((w5.setCell ⟨w.heap.size,0,none⟩ u0).setCell ⟨w.heap.size,1,none⟩ u1).setCell ⟨w.heap.size,2,none⟩ u2).setCell ⟨w.heap.size,3,none⟩ u3) from(((Mod.setCell (F:=fun k=>k=w.heap.size) (Mod.refl _ _) ⟨w.heap.size,0,none⟩ (.inl rfl) _).setCell ⟨w.heap.size,1,none⟩ (.inl rfl) _).setCell ⟨w.heap.size,2,none⟩ (.inl rfl) _).setCell ⟨w.heap.size,3,none⟩ (.inl rfl) _) (fun k hk=>by subst hk;exact⟨HRV.out.2.1,HRV.out.2.2,Nat.le_refl _⟩)
  clear hst hds;go_wp2;refine bodyPost_ret (v:=.tuple #[.agg #[.int .u8 0,.int .i64 0,.string ByteArray.empty,.int .u32 0],.bool false]) (by simp[results,Tryz.results30,go_sem, *];try rfl) rfl ?_
  exact HF.out _ _ _ _ (HT.out _ _ _ _)
 ·have HF:=Lh (HF1.out ht);have htl:t.toList.isEmpty=false:=nonempty_str t (Nat.pos_of_ne_zero fun q=>ht (size0 q));go_enter func30,ntmps30;obtain⟨hB0,hR0,_,hk0⟩:=boxNew (w:=w) (V:=w) Br (.cells #[.int .u8 0,.int .i64 0,.string ByteArray.empty,.int .u32 0] 66);have HB0:=Lh hB0;have HR0:=Lh hR0;clear hB0 hR0 hk0;go_wp2_with fail;refine(HAr.out 1 (by omega) (by omega) _ HB0.out).mono ?_;rintro r w1 ⟨rfl,rfl⟩;go_wp2_with fail;refine(HAr.out 2 (by omega) (by omega) _ HB0.out).mono ?_;rintro r w1 ⟨rfl,rfl⟩;go_wp2_with fail;refine(HAr.out 3 (by omega) (by omega) _ HB0.out).mono ?_;rintro r w1 ⟨rfl,rfl⟩;have he0:=HE.out _ HB0.out;have hsz:(w.alloc (.cells #[.int .u8 0,.int .i64 0,.string ByteArray.empty,.int .u32 0] 66)).heap.size=w.heap.size+1:=by simp
  have HSz:=Lh hsz;clear hsz;obtain⟨hB1,hX1,_,hk1⟩:=boxNew HB0.out (.cells #[.int .u8 0,.int .i64 E.num,.string ByteArray.empty,.int .u32 0] 66);obtain⟨hR1,hne⟩:=hk1 _ _ HR0.out;rw[HSz.out] at hX1;have HB1:=Lh hB1;have HD1:=Lh (H0.out.below hB1);clear hB1 hk1;have HRX:=Lh (And.intro hR1 hX1);clear hR1 hX1;go_wp2_with fail;refine(HCl.out _ HD1.out.j).mono ?_;rintro r w3 ⟨a2,e2,R2,rfl,hs3⟩;have HS3:=Lh hs3;have HRk:=Lh (bk hs3 (HTag.out w.heap.size (Nat.le_refl _)) HRX.out.1);have HXk:=Lh (bk hs3 (HTag.out (w.heap.size+1) (by omega)) HRX.out.2);obtain⟨z0,z1,z2,z3,zf⟩:=ev4 HXk.out.1;clear hs3;have HBx:=Lh (boxSet (u':=.int .u8 1) (x':=.string t) HXk.out.1 HRk.out.1 (by omega));have hDV:=turn (preD HB1.out HS3.out) HBx.out.2.2 (fun k hk=>by subst hk;exact⟨HXk.out.2.1,HXk.out.2.2,by omega⟩);have hRV:=HBx.out.2.1;have hXV:=HBx.out.1;have tR:=HRk.out.2;have tX:=HXk.out.2;have han:=Rv.answer hDV.j.en ((t.size:Int)) (y) (by omega) (by omega) (by omega) (by omega);rw[hDV.same.2] at han;have HAn:=Lh han;have HDV:=Lh hDV;have HRV:=Lh (And.intro hRV tR);have HXV:=Lh (And.intro hXV tX);clear han hDV hRV hXV tR tX;go_wp2_with fail;refine HAn.out.mono ?_;rintro r w5 ⟨rfl,hst⟩;have hds:=HDV.out.right hst;obtain⟨x0,x1,x2,x3,xf⟩:=ev4 ((hst.mod.block _ (lQ HXV.out.1) HXV.out.2.2).trans HXV.out.1);obtain⟨q0,q1,q2,q3,qf⟩:=ev4 ((hst.mod.block _ (lQ HRV.out.1) HRV.out.2.2).trans HRV.out.1);have HT:=Lh fun u0 u1 u2 u3=>turn hds (show Mod (fun k=>k=w.heap.size) w5 ((((w5.setCell ⟨w.heap.size,0,none⟩ u0).setCell ⟨w.heap.size,1,none⟩ u1).setCell ⟨w.heap.size,2,none⟩ u2).setCell ⟨w.heap.size,3,none⟩ u3) from(((Mod.setCell (F:=fun k=>k=w.heap.size) (Mod.refl _ _) ⟨w.heap.size,0,none⟩ (.inl rfl) _).setCell ⟨w.heap.size,1,none⟩ (.inl rfl) _).setCell ⟨w.heap.size,2,none⟩ (.inl rfl) _).setCell ⟨w.heap.size,3,none⟩ (.inl rfl) _) (fun k hk=>by subst hk;exact⟨HRV.out.2.1,HRV.out.2.2,Nat.le_refl _⟩)
  clear hst hds;go_wp2;refine bodyPost_ret (v:=.tuple #[.agg #[.int .u8 1,.int .i64 E.num,.string t,.int .u32 0],.bool true]) (by simp[results,Tryz.results30,go_sem, *];try rfl) rfl ?_
  exact HF.out _ _ _ _ (HT.out _ _ _ _)
end
end Rk
namespace Rk
section
variable {w:World} {a:RkAt} {K:Kn} {e:RAt} {R:List Rp} {E:En}
theorem do_exit(h:DKE w a K e R E):Calls Tryz.prog 30 #[.pointer (some ⟨a.kb,0,none⟩),.pointer (some ⟨e.eb,0,none⟩),.int .u32 1] w (DoP w a e R K E 1):=by
 have HAr:=Lh fun n n0 n1 V (hV:Below w.heap.size w V)=>Rv.arg (h.below hV).en n n0 n1
 have HE:=Lh fun V (hV:Below w.heap.size w V)=>(Rv.cells (h.below hV).en).1
 have H0:=Lh (DkStep.refl h);have HD:=Lh h;have HTag:Hid (∀k,w.heap.size≤k→a.tag k=0∧¬e.foot R k):=Lh fun k hk=>⟨Decidable.byContradiction fun q=>absurd (h.kn.lt k q) (by omega),fun q=>absurd (h.en.lt k q) (by omega)⟩
 clear h;have HFin:Hid (∀V a' e' R',DkStep w V a e R a' K e' R' (E.exit (E.arg 1))→DoP w a e R K E 1 (.returned (.tuple #[.agg #[.int .u8 3,.int .i64 E.num,.string ByteArray.empty,.int .u32 (E.arg 1)],.bool true])) V):=Lh fun V a' e' R' q=>⟨0,a',e',R',rfl,q⟩
 generalize DoP w a e R K E 1=PQ at*;go_enter func30,ntmps30;obtain⟨hB0,hR0,_,hk0⟩:=boxNew (w:=w) (V:=w) Br (.cells #[.int .u8 0,.int .i64 0,.string ByteArray.empty,.int .u32 0] 66);have HB0:=Lh hB0;have HR0:=Lh hR0;clear hB0 hR0 hk0;go_wp2_with fail;refine(HAr.out 1 (by omega) (by omega) _ HB0.out).mono ?_;rintro r w1 ⟨rfl,rfl⟩;go_wp2_with fail;refine(HAr.out 2 (by omega) (by omega) _ HB0.out).mono ?_;rintro r w1 ⟨rfl,rfl⟩;go_wp2_with fail;refine(HAr.out 3 (by omega) (by omega) _ HB0.out).mono ?_;rintro r w1 ⟨rfl,rfl⟩;have he0:=HE.out _ HB0.out;have hsz:(w.alloc (.cells #[.int .u8 0,.int .i64 0,.string ByteArray.empty,.int .u32 0] 66)).heap.size=w.heap.size+1:=by simp
 have HSz:=Lh hsz;clear hsz;obtain⟨hB1,hX1,_,hk1⟩:=boxNew HB0.out (.cells #[.int .u8 0,.int .i64 E.num,.string ByteArray.empty,.int .u32 0] 66);obtain⟨hR1,hne⟩:=hk1 _ _ HR0.out;rw[HSz.out] at hX1;have HB1:=Lh hB1;have HD1:=Lh (H0.out.below hB1);clear hB1 hk1;have HRX:=Lh (And.intro hR1 hX1);have HEx:=Lh (Rv.exit HD1.out.j.en (E.arg 1));clear hR1 hX1;go_wp2_with fail;refine HEx.out.mono ?_;rintro r w3 ⟨rfl,hst⟩;have hds:=HD1.out.right hst;have tR:=HTag.out w.heap.size (Nat.le_refl _);have tX:=HTag.out (w.heap.size+1) (by omega);have hX3:=(hst.mod.block _ (lQ HRX.out.2) tX.2).trans HRX.out.2;have hR3:=(hst.mod.block _ (lQ HRX.out.1) tR.2).trans HRX.out.1;obtain⟨x0,x1,x2,x3,xf⟩:=ev4 hX3;obtain⟨q0,q1,q2,q3,qf⟩:=ev4 hR3;have hfR:=fun k hk=>(hds.foot k hk)
 have HT:=Lh fun y0 y3 u0 u1 u2 u3=>turn hds (show Mod (fun k=>k=w.heap.size∨k=w.heap.size+1) w3 ((((((w3.setCell ⟨w.heap.size+1,0,none⟩ y0).setCell ⟨w.heap.size+1,3,none⟩ y3).setCell ⟨w.heap.size,0,none⟩ u0).setCell ⟨w.heap.size,1,none⟩ u1).setCell ⟨w.heap.size,2,none⟩ u2).setCell ⟨w.heap.size,3,none⟩ u3) from(((((Mod.setCell (F:=fun k=>k=w.heap.size∨k=w.heap.size+1) (Mod.refl _ _) ⟨w.heap.size+1,0,none⟩ (.inl (.inr rfl)) _).setCell ⟨w.heap.size+1,3,none⟩ (.inl (.inr rfl)) _).setCell ⟨w.heap.size,0,none⟩ (.inl (.inl rfl)) _).setCell ⟨w.heap.size,1,none⟩ (.inl (.inl rfl)) _).setCell ⟨w.heap.size,2,none⟩ (.inl (.inl rfl)) _).setCell ⟨w.heap.size,3,none⟩ (.inl (.inl rfl)) _) (fun k hk=>by
  have hb:=HRX.out;have l1:=lQ hb.1;have l2:=lQ hb.2;rcases hk with rfl|rfl
  ·exact⟨tR.1,fun g=>(hst.foot _ g).elim tR.2 fun z=>by omega,Nat.le_refl _⟩
  ·exact⟨tX.1,fun g=>(hst.foot _ g).elim tX.2 fun z=>by omega,by omega⟩)
 clear hst hds hX3 hR3 tR tX hfR;go_wp2;refine bodyPost_ret (v:=.tuple #[.agg #[.int .u8 3,.int .i64 E.num,.string ByteArray.empty,.int .u32 (E.arg 1)],.bool true]) (by simp[results,Tryz.results30,go_sem, *];try rfl) rfl ?_
 exact HFin.out _ _ _ _ (HT.out _ _ _ _ _ _)
theorem does(h:DKE w a K e R E)(num:Int)(n0:0≤num)(hfit:∀id n:Int,0≤id→0≤n→Gp.hasBlock (K.g E.num) id n=true→∃t,Kn.block K.B id n=some t)(hsn:K.N.sent.length<1000000):Calls Tryz.prog 30 #[.pointer (some ⟨a.kb,0,none⟩),.pointer (some ⟨e.eb,0,none⟩),.int .u32 num] w (DoP w a e R K E num):=by
 by_cases e1:num=1
 ·subst e1;exact do_exit h
 by_cases e2:num=2
 ·subst e2;exact do_yield h
 by_cases e3:num=3
 ·subst e3;exact do_page h
 by_cases e4:num=4
 ·subst e4;exact do_drop h
 by_cases e5:num=5
 ·subst e5;exact do_read h hfit
 by_cases e6:num=6
 ·subst e6;exact do_write h hfit
 by_cases e7:num=7
 ·subst e7;exact do_send h hsn
 by_cases e8:num=8
 ·subst e8;exact do_recv h
 by_cases e9:num=9
 ·subst e9;exact do_put h
 by_cases e10:num=10
 ·subst e10;exact do_time h
 exact do_other h num n0 (by omega)
end
end Rk
namespace Gp
def met(f:Int→Bool)(G:Int→Option Gr):Int→Option Gr:=fun k=>if f k=true then none else G k
theorem met_sum(f:Int→Bool)(G:Int→Option Gr):sum (met f G)=sumL f G:=sum8_congr fun k=>by
 unfold met
 split<;>rfl
theorem met_step{f f':Int→Bool}{G:Int→Option Gr}{x:Int}(h1:f x=true)(h2:f' x=false)(h3:∀y,y≠x→f' y=f y):met f' G=upd (met f G) x (G x):=by
 funext k
 unfold met upd
 by_cases e:k=x
 ·subst e;rw[if_pos rfl,h2];simp
 ·rw[if_neg e,h3 k e]
theorem met_at{f:Int→Bool}{G:Int→Option Gr}{x:Int}(h:f x=true):met f G x=none:=if_pos h
theorem met_all{f:Int→Bool}{G:Int→Option Gr}(h:∀k,(G k).isSome=true→f k=true):met f G=fun _=>none:=by
 funext k
 unfold met
 split
 ·rfl
 ·rename_i q
  cases hk:G k with
  |none=>rfl
  |some g=>exact absurd (h k (by rw[hk];rfl)) q
theorem met_none{f:Int→Bool}{G:Int→Option Gr}(h:∀k,f k=false):met f G=G:=by
 funext k
 unfold met;rw[h k];rfl
end Gp
structure CaCopy(w w':World)(a:CAt)(hp:Int)(G:Int→Option Gr)(c:CAt):Prop where
 cps:Cps w' c hp G
 hv:c.hv=a.hv
 ev:∀n,(G n).isSome=true→c.ev n=a.ev n∧c.pv n=a.pv n
 wf:∀k,c.wf G k→w.heap.size≤k∧k<w'.heap.size
 bel:Below w.heap.size w w'
structure CpB(w w4:World)(a:KAt)(K:Kn)(c:CAt)(nb mb:Nat)(V:Int→Value)(sv:Value)(ob kb:Nat):Prop where
 bel:Below w.heap.size w w4
 cps:Cps w4 c K.hp K.g
 hv:c.hv=a.c.hv
 ev:∀n,(K.g n).isSome=true→c.ev n=a.c.ev n∧c.pv n=a.c.pv n
 wf:∀k,c.wf K.g k→w.heap.size≤k∧k<w4.heap.size∧k≠ob∧k≠kb∧¬Ni.foot nb mb V sv k
 n:Ni.Nc w4 nb mb V sv K.N
 ft:∀k,Ni.foot nb mb V sv k→w.heap.size≤k∧k<w4.heap.size∧k≠ob∧k≠kb
 ol:w.heap.size≤ob∧ob<w4.heap.size
 kl:w.heap.size≤kb∧kb<w4.heap.size
 ne:kb≠ob
structure CpR(w4:World)(a:KAt)(K:Kn)(ob kb:Nat)(hd:Array Value)(i:Nat)(cur:Array Value)(wr:World):Prop where
 old:Mod (fun k=>k=ob) w4 wr
 hob:wr.heap[ob]? =some (.cells cur 35 (0,0))
 sz:cur.size=K.B.length
 hkb:wr.heap[kb]? =some (.cells hd 155 (0,0))
 row:∀(j:Nat) (v:Value) (l:List ByteArray),j<i→cur[j]? =some v→K.B[j]? =some l→SlV wr 9 1 v l.length (l.map .string)
 own:∀(j:Nat) (v:Value) (k:Nat),j<i→cur[j]? =some v→v.ownBlock=some k→w4.heap.size≤k∧k<wr.heap.size
 dist:∀(j q:Nat) (v u:Value) (k:Nat),j<i→q<i→cur[j]? =some v→cur[q]? =some u→v.ownBlock=some k→u.ownBlock=some k→j=q
theorem Knl.copied{w w4 w3:World}{a:KAt}{K:Kn}(h:Knl w a K){c:CAt}{nb mb:Nat}{V:Int→Value}{sv:Value}{ob kb:Nat}(B:CpB w w4 a K c nb mb V sv ob kb)
  {cur:Array Value} (R:CpR w4 a K ob kb #[.int .u32 K.hp,a.hv,.pointer (some ⟨c.cb,0,none⟩),.pointer (some ⟨nb,0,none⟩),.slice (some ⟨ob,0,none⟩) K.B.length K.B.length,.int .u32 K.now] K.B.length cur w3):
  ∃a',Knl w3 a' K∧a'.kb=kb∧a'.c.cb=c.cb∧a'.nb=nb∧∀k,a'.tag k≠0→w.heap.size≤k∨a.tag k=5∧a'.tag k=5:=by
 have z1:=B.bel.size;have z2:=R.old.size;have hbw3:Below w.heap.size w w3:=Mod.below B.bel R.old z1 fun k _ e=>by subst e;exact B.ol.1
 have lk:=B.kl;have lo:=B.ol;have hne:=B.ne;have hlt5:∀k,a.tag k=5→k<w.heap.size:=fun k hk=>h.lt k (by rw[hk];decide)
 have hrf:∀k,c.rf K.g k→a.tag k=5:=fun k ⟨n,hn,g⟩=>h.t5 k (.inr (.inr ⟨n,hn,by
  obtain⟨e1,e2⟩:=B.ev n hn;rw[e1,e2] at g;exact g⟩))
 have hrow:∀(i:Nat) (v:Value) (l:List ByteArray),cur.toList[i]? =some v→K.B[i]? =some l→SlV w3 9 1 v l.length (l.map .string):=fun i v l hv hl=>R.row i v l (List.getElem?_eq_some_iff.1 hl).1 (by simpa using hv) hl
 have hlen:cur.toList.length=K.B.length:=by rw[Array.length_toList];exact R.sz
 have hrb:∀(i:Nat) (v:Value) (k:Nat),cur.toList[i]? =some v→v.ownBlock=some k→w4.heap.size≤k∧k<w3.heap.size:=fun i v k hv hk=>R.own i v k (by have:=(List.getElem?_eq_some_iff.1 hv).1;omega) (by simpa using hv) hk
 have hrd:∀(i j:Nat) (v u:Value) (k:Nat),cur.toList[i]? =some v→cur.toList[j]? =some u→v.ownBlock=some k→u.ownBlock=some k→i=j:=fun i j v u k hv hu hk hk2=>R.dist i j v u k (by have:=(List.getElem?_eq_some_iff.1 hv).1;omega) (by have:=(List.getElem?_eq_some_iff.1 hu).1;omega) (by simpa using hv) (by simpa using hu) hk hk2
 have hobv:w3.heap[ob]? =some (.cells cur.toList.toArray 35 (0,0)):=by rw[Array.toArray_toList];exact R.hob
 generalize cur.toList=vs at*;obtain⟨T,hT⟩:∃T:Nat→Nat,T=fun k=>if k=kb then 1 else if k=ob then 4 else if k<w.heap.size then(if a.tag k=5 then 5 else 0) else if k<w4.heap.size then(haveI:=Classical.propDecidable (Ni.foot nb mb V sv k);if Ni.foot nb mb V sv k then 3 else 2) else if k<w3.heap.size then(match vs.findIdx? fun v=>v.ownBlock == some k with|some i=>6+i|none=>0) else 0:=⟨_,rfl⟩
 have t1:T kb=1:=by rw[hT];exact if_pos rfl
 have t4:T ob=4:=by
  rw[hT]
  show(if ob=kb then 1 else _)=4
  rw[if_neg (fun e=>hne e.symm),if_pos rfl]
 have t5:∀k,a.tag k=5→T k=5:=fun k hk=>by
  have hlt:=hlt5 k hk;rw[hT]
  show(if k=kb then 1 else _)=5
  rw[if_neg (by omega),if_neg (by omega),if_pos hlt,if_pos hk]
 have t2:∀k,c.wf K.g k→T k=2:=fun k hk=>by
  obtain⟨q1,q2,q3,q4,q5⟩:=B.wf k hk;rw[hT]
  show(if k=kb then 1 else _)=2
  rw[if_neg q4,if_neg q3,if_neg (by omega),if_pos q2,if_neg q5]
 have t3:∀k,Ni.foot nb mb V sv k→T k=3:=fun k hk=>by
  obtain⟨q1,q2,q3,q4⟩:=B.ft k hk;rw[hT]
  show(if k=kb then 1 else _)=3
  rw[if_neg q4,if_neg q3,if_neg (by omega),if_pos q2,if_pos hk]
 have t6:∀(i:Nat) (v:Value) (k:Nat),vs[i]? =some v→v.ownBlock=some k→T k=6+i:=fun i v k hv hk=>by
  obtain⟨q1,q2⟩:=hrb i v k hv hk;have hf:vs.findIdx? (fun v=>v.ownBlock == some k)=some i:=by
   rw[List.findIdx?_eq_some_iff_getElem];obtain⟨hi,hvi⟩:=List.getElem?_eq_some_iff.1 hv;refine⟨hi,by rw[hvi,hk];simp,fun j hj=> ?_⟩;intro e;have e:=beq_iff_eq.1 e;have:=hrd j i _ _ k (Zg (by omega)) hv e hk;omega
  rw[hT]
  show(if k=kb then 1 else _)=6+i
  rw[if_neg (by omega),if_neg (by omega),if_neg (by omega),if_neg (by omega),if_pos q2,hf]
 have t0:∀k,T k≠0→k<w3.heap.size∧(w.heap.size≤k∨a.tag k=5∧T k=5):=fun k hk=>by
  by_cases e1:k=kb
  ·subst e1;exact⟨by omega,.inl (by omega)⟩
  by_cases e2:k=ob
  ·subst e2;exact⟨by omega,.inl (by omega)⟩
  by_cases e3:k<w.heap.size
  ·by_cases e4:a.tag k=5
   ·exact⟨by omega,.inr ⟨e4,t5 k e4⟩⟩
   ·rw[hT] at hk;have hk:(if k=kb then 1 else _)≠0:=hk;rw[if_neg e1,if_neg e2,if_pos e3,if_neg e4] at hk;exact absurd rfl hk
  by_cases e5:k<w3.heap.size
  ·exact⟨e5,.inl (by omega)⟩
  ·rw[hT] at hk;have hk:(if k=kb then 1 else _)≠0:=hk;rw[if_neg e1,if_neg e2,if_neg e3,if_neg (by omega),if_neg e5] at hk;exact absurd rfl hk
 refine⟨⟨kb,c,nb,a.hv,.slice (some ⟨ob,0,none⟩) K.B.length K.B.length,vs,T⟩, ?_,rfl,rfl,rfl,fun k hk=>(t0 k hk).2⟩;exact {
     head:=R.hkb
     hx:=(show SlV w _ 1 a.hv _ _ from h.hx).below hbw3
     chx:=by show SlV w3 _ 1 c.hv _ _;rw[B.hv];exact(show SlV w _ 1 a.c.hv _ _ from h.chx).below hbw3
     caps:=B.cps.mod R.old fun k hk e=>by
      rcases hk with hk|hk
      ·exact(B.wf k hk).2.2.1 e
      ·have:=hlt5 k (hrf k hk);omega
     nic:=(show Ni.NicO w3 (fun k=>T k=3) nb K.N from⟨mb,V,sv,B.n.keep R.old fun k hk e=>(B.ft k hk).2.2.1 e,fun k hk=>t3 k hk⟩)
     len:=hlen
     outer:=by
      rw[hlen];refine⟨by rw[hlen,Nat.mul_one], ?_⟩
      by_cases q:K.B.length=0
      ·exact .inl ⟨q,_,by rw[q]⟩
      ·refine .inr ⟨ob,0,K.B.length,vs.toArray,rfl,hobv,Nat.le_refl _, ?_,by simp[hlen],fun j hj=>by simp⟩;exact slv_len h.outer|>fun z=>by rw[h.len] at z;exact z
     inner:=hrow
     ok:=h.ok
     t1:=t1
     t2:=fun k hk=>t2 k hk
     t4:=fun k hk=>by
      have hk:some ob=some k:=hk;cases hk;exact t4
     t5:=fun k hk=>t5 k (by
      rcases hk with g|g|g
      ·exact h.t5 k (.inl g)
      ·exact h.t5 k (.inr (.inl (by have g:c.hv.ownBlock=some k:=g;rw[B.hv] at g;exact g)))
      ·exact hrf k g)
     t6:=t6
     lt:=fun k hk=>(t0 k hk).1}
theorem CpB.parts{w p1 p2 p3 p4 w4:World}{a:KAt}{K:Kn}(h:Knl w a K){c:CAt}{nb mb:Nat}{V:Int→Value}{sv:Value}{ob kb:Nat}(b1:Below w.heap.size w p1)(hc:CaCopy p1 p2 a.c K.hp K.g c)(b3:Below p2.heap.size p2 p3)
  (hn:Ni.Nc p4 nb mb V sv K.N) (hf:∀k,Ni.foot nb mb V sv k→p3.heap.size≤k) (b4:Below p3.heap.size p3 p4) (b5:Below p4.heap.size p4 w4)
  (ho:w.heap.size≤ob∧ob<w4.heap.size∧(ob<p1.heap.size∨p2.heap.size≤ob∧ob<p3.heap.size∨p4.heap.size≤ob)) (hk:p4.heap.size≤kb∧kb<w4.heap.size) (ne:kb≠ob):CpB w w4 a K c nb mb V sv ob kb:=by
 have z1:=b1.size;have z2:=hc.bel.size;have z3:=b3.size;have z4:=b4.size;have z5:=b5.size;have b35:=bQ (bQ b3 b4) b5;exact {
     bel:=bQ (bQ b1 hc.bel) b35
     cps:=hc.cps.below b35
     hv:=hc.hv
     ev:=hc.ev
     wf:=fun k hk=>by
      obtain⟨q1,q2⟩:=hc.wf k hk;refine⟨by omega,by omega,by omega,by omega,fun g=> ?_⟩;have:=hf k g;omega
     n:=hn.keep (G:=fun _=>False) (Mod.of_below b5 _) fun _ _ g=>g
     ft:=fun k g=>by
      have q1:=hf k g;have q2:=hn.lt k g;exact⟨by omega,by omega,by omega,by omega⟩
     ol:=⟨ho.1,ho.2.1⟩
     kl:=⟨by omega,hk.2⟩
     ne:=ne}
def KCopyPost(w:World)(a:KAt)(K:Kn)(e:Ending)(w':World):Prop:=
 ∃a',e=.returned (.pointer (some ⟨a'.kb,0,none⟩))∧Knl w' a' K∧(∀k,a'.tag k≠0→w.heap.size≤k∨a.tag k=5∧a'.tag k=5)∧Below w.heap.size w w'
theorem nodup_le:∀(l m:List Int),l.Nodup→(∀x,x∈l→x∈m)→l.length≤m.length
 | [],_,_,_=>Nat.zero_le _
 |x::l,m,hn,h=>by
  obtain⟨h1,h2⟩:=List.nodup_cons.1 hn;have hx:=h x (List.mem_cons_self ..);have:=nodup_le l (m.erase x) h2 fun y hy=>by
   have hne:y≠x:=fun e=>h1 (e▸hy)
   exact(List.mem_erase_of_ne hne).2 (h y (List.mem_cons_of_mem _ hy))
  rw[List.length_erase_of_mem hx] at this;have:=List.length_pos_of_mem hx;rw[List.length_cons];omega
theorem Ni.Nc.ports{w:World}{nb mb:Nat}{V:Int→Value}{sv:Value}{S:Ni.NicS}(h:Ni.Nc w nb mb V sv S){l:List Int}(h1:l.Nodup)(h2:∀x,x∈l↔x∈S.ports):Ni.Nc w nb mb V sv {S with ports:=l}:=by
 have hl:l.length=S.ports.length:=by
  have:=nodup_le l S.ports h1 fun x hx=>(h2 x).1 hx
  have:=nodup_le S.ports l h.nodup fun x hx=>(h2 x).2 hx
  omega
 obtain⟨D,n,ho,hv,hz,hh⟩:=h.map;exact {h with
  head:=h.head
  map:=⟨D,n,ho,hv,by rw[hz];exact hl.symm,fun x=>by rw[hh];exact decide_eq_decide.2 (h2 x).symm⟩
  nodup:=h1
  range:=fun x hx=>h.range x ((h2 x).1 hx)}
namespace Wi
def gm(g:Option Gr):Option Mn:=g.map (·.m)
theorem gm_take(g:Option Gr):gm (Gp.take g)=gm g:=by
 cases g with
 |none=>rfl
 |some G=>unfold Gp.take;simp only;split<;>rfl
theorem gm_give(g:Option Gr):gm (Gp.give g)=gm g:=by
 cases g with
 |none=>rfl
 |some G=>unfold Gp.give;simp only;split<;>rfl
theorem gm_upd{G:Int→Option Gr}{n:Int}{g:Option Gr}(h:gm g=gm (G n))(k:Int):gm (Gp.upd G n g k)=gm (G k):=by
 unfold Gp.upd
 split
 ·rename_i e;rw[h,e]
 ·rfl
theorem block_gm{g g':Option Gr}(h:gm g=gm g')(id n:Int):Gp.hasBlock g id n=Gp.hasBlock g' id n:=by
 cases g<;>cases g'<;>simp[gm] at h
 ·rfl
 ·unfold Gp.hasBlock;simp only[h]
theorem setB_other{B:List (List ByteArray)}{id n:Int}{s:ByteArray}{i j:Int}(i0:0≤id)(n0:0≤n)(h:¬(i=id∧j=n)):Kn.block (Kn.setB B id n s) i j=Kn.block B i j:=by
 unfold Kn.block Kn.setB
 by_cases hc:0≤i∧0≤j
 ·rw[if_pos hc,if_pos hc,List.getElem?_modify]
  by_cases e:id.toNat=i.toNat
  ·rw[←e];cases hb:B[id.toNat]? with
   |none=>rfl
   |some l=>
    simp only[if_pos,Option.map_eq_map,Option.map_some,Option.bind_some];have hn:n.toNat≠j.toNat:=fun g=>h ⟨by omega,by omega⟩
    rw[List.getElem?_set_ne hn]
  ·simp only[if_neg e];cases B[i.toNat]? <;>rfl
 ·rw[if_neg hc,if_neg hc]
end Wi
structure KPair(w0 w:World)(a:KAt)(K:Kn)(b:RkAt)(L:Kn):Prop where
 p:Knl w a K
 d:Rkl w b L
 ap:∀k,a.tag k≠0→b.tag k=0
 bel:Below w0.heap.size w0 w
 k0:∀k,a.tag k≠0→w0.heap.size≤k
 d0:∀k,b.wf k→w0.heap.size≤k
namespace KPair
variable {w0 w w':World} {a a':KAt} {K K':Kn} {b b':RkAt} {L L':Kn}
theorem below(h:KPair w0 w a K b L)(hb:Below w.heap.size w w'):KPair w0 w' a K b L:=⟨h.p.below hb,h.d.below hb,h.ap,h.bel.trans (hb.mono h.bel.size),h.k0,h.d0⟩
theorem prog(h:KPair w0 w a K b L)(s:KStep w w' a K a' K'):KPair w0 w' a' K' b L:=
 ⟨s.k,h.d.keep s.mod fun k hk g=>hk (h.ap k g.1),fun k hk=>by
  rcases s.foot k hk with q|q
  ·exact h.ap k q
  ·exact Decidable.byContradiction fun z=>absurd (h.d.lt k z) (by omega),Mod.below h.bel s.mod h.bel.size fun i _ g=>h.k0 i g.1,fun k hk=>(s.foot k hk).elim (h.k0 k) fun g=>Nat.le_trans h.bel.size g,h.d0⟩
theorem doc(h:KPair w0 w a K b L)(s:RkStep w w' b L b' L'):KPair w0 w' a K b' L':=
 ⟨h.p.keep s.mod fun k hk g=>g.1 (h.ap k hk),s.k,fun k hk=>by
  rcases Nat.lt_or_ge k w.heap.size with q|q
  ·rw[s.tag k q];exact h.ap k hk
  ·exact absurd (h.p.lt k hk) (by omega),Mod.below h.bel s.mod h.bel.size fun i _ g=>h.d0 i g,h.k0,fun k hk=>(s.wfoot k hk).elim (h.d0 k) fun g=>Nat.le_trans h.bel.size g⟩
theorem weaken{w00:World}(h:KPair w0 w a K b L)(hb:Below w00.heap.size w00 w0):KPair w00 w a K b L:=
 {h with bel:=bQ hb h.bel,k0:=fun x hx=>Nat.le_trans hb.size (h.k0 x hx),d0:=fun x hx=>Nat.le_trans hb.size (h.d0 x hx)}
end KPair
structure Quad(w0 w:World)(a:KAt)(K:Kn)(e:EAt)(E:En)(b:RkAt)(L:Kn)(f:RAt)(R:List Rp)(F:En):Prop where
 p:KEn w0 w a K e E
 d:DKE w b L f R F
 ap:∀k,(a.tag k≠0∨e.foot E.A k)→b.tag k=0∧¬f.foot R k
 d0:∀k,b.wf k∨f.foot R k→w0.heap.size≤k
namespace Quad
variable {w0 w w':World} {a a':KAt} {K K':Kn} {e e':EAt} {E E':En} {b b':RkAt} {L L':Kn} {f f':RAt} {R R':List Rp} {F F':En}
theorem below(h:Quad w0 w a K e E b L f R F)(hb:Below w.heap.size w w'):Quad w0 w' a K e E b L f R F:=⟨h.p.below hb,h.d.below hb,h.ap,h.d0⟩
theorem prog(h:Quad w0 w a K e E b L f R F)(s:JStep w w' a e E.A a' K' e' E')(hn:E'.num=E.num):Quad w0 w' a' K' e' E' b L f R F:=
 ⟨h.p.step s hn,⟨h.d.kn.keep s.mod fun k hk g=>hk (h.ap k (g.imp (·.1) id)).1,h.d.en.keep s.mod fun k hk g=>(h.ap k (g.imp (·.1) id)).2 hk,h.d.apart⟩,fun k hk=>by
  rcases Nat.lt_or_ge k w.heap.size with q|q
  ·refine h.ap k (hk.imp (fun z=> ?_) fun z=>(s.foot k z).resolve_right (by omega));rw[←s.tag k q];exact z
  ·exact⟨Decidable.byContradiction fun z=>absurd (h.d.kn.lt k z) (by omega),fun z=>absurd (h.d.en.lt k z) (by omega)⟩,h.d0⟩
theorem doc(h:Quad w0 w a K e E b L f R F)(s:DkStep w w' b f R b' L' f' R' F'):Quad w0 w' a K e E b' L' f' R' F':=
 ⟨{
   kn:=h.p.kn.keep s.mod fun k hk g=>g.elim (fun z=>z.1 (h.ap k (.inl hk)).1) (h.ap k (.inl hk)).2
   en:=h.p.en.keep s.mod fun k hk g=>g.elim (fun z=>z.1 (h.ap k (.inr hk)).1) (h.ap k (.inr hk)).2
   apart:=h.p.apart
   bel:=Mod.below h.p.bel s.mod h.p.bel.size fun i _ g=>h.d0 i g
   k0:=h.p.k0
   e0:=h.p.e0
   num:=h.p.num},s.j,fun k hk=>by
  have hl:k<w.heap.size:=hk.elim (h.p.kn.lt k) (h.p.en.lt k);refine⟨by rw[s.tag k hl];exact(h.ap k hk).1,fun z=> ?_⟩;rcases s.foot k z with q|q
  ·exact(h.ap k hk).2 q
  ·omega,fun k hk=>by
  rcases Nat.lt_or_ge k w.heap.size with q|q
  ·refine h.d0 k (hk.imp (fun z=> ?_) fun z=>(s.foot k z).resolve_right (by omega));unfold RkAt.wf at z⊢;rw[←s.tag k q];exact z
  ·exact Nat.le_trans h.p.bel.size q⟩
theorem left(h:Quad w0 w a K e E b L f R F)(s:KStep w w' a K a' K'):Quad w0 w' a' K' e E b L f R F:=h.prog ((JStep.refl h.p.ke).left s) rfl
theorem right(h:Quad w0 w a K e E b L f R F)(s:EStep w w' e E e' E')(hn:E'.num=E.num):Quad w0 w' a K e' E' b L f R F:=h.prog ((JStep.refl h.p.ke).right s) hn
theorem dleft(h:Quad w0 w a K e E b L f R F)(s:RkStep w w' b L b' L'):Quad w0 w' a K e E b' L' f R F:=h.doc ((DkStep.refl h.d).left s)
theorem dright(h:Quad w0 w a K e E b L f R F)(s:RvStep w w' f R F f' R' F'):Quad w0 w' a K e E b L f' R' F':=h.doc ((DkStep.refl h.d).right s)
theorem of(h:KPair w0 w a K b L)(p:EPair w w' e E f R F)(hn:1≤E.num∧E.num≤8):Quad w0 w' a K e E b L f R F:=by
 have h1:=h.below p.bel;refine⟨⟨h1.p,p.env,fun x hx=> ?_,h1.bel,h1.k0,fun x hx=>Nat.le_trans h.bel.size (p.a0 x hx),hn⟩,⟨h1.d,p.ren,fun x hx=> ?_⟩,fun k hk=> ?_,fun k hk=> ?_⟩
 ·have:=p.a0 x hx;exact Decidable.byContradiction fun z=>absurd (h.p.lt x z) (by omega)
 ·have:=p.b0 x hx;exact Decidable.byContradiction fun z=>absurd (h.d.lt x z) (by omega)
 ·rcases hk with g|g
  ·exact⟨h.ap k g,fun z=>by have:=p.b0 k z;have:=h.p.lt k g;omega⟩
  ·exact⟨Decidable.byContradiction fun z=>absurd (h.d.lt k z) (by have:=p.a0 k g;omega),p.apart k g⟩
 ·rcases hk with g|g
  ·exact h.d0 k g
  ·exact Nat.le_trans h.bel.size (p.b0 k g)
theorem swap(h:Quad w0 w a K e E b L f R F)(hk:Knl w' a' K)(ht:∀k,a'.tag k≠0→w.heap.size≤k∨a.tag k=5∧a'.tag k=5)(hb:Below w.heap.size w w'):
  Quad w0 w' a' K e E b L f R F∧Knl w' a K∧(∀k,a'.tag k≠0→a.tag k=0∨a.tag k=5):=by
 have h1:=h.below hb;have hz:=h.p.bel.size;refine⟨⟨⟨hk,h1.p.en,fun x hx=> ?_,h1.p.bel,fun x hx=> ?_,h1.p.e0,h1.p.num⟩,h1.d,fun k hk=> ?_,h1.d0⟩,h1.p.kn,fun k hk=> ?_⟩
 ·refine Decidable.byContradiction fun z=> ?_
  rcases ht x z with q|q
  ·have:=h.p.en.lt x hx;omega
  ·have:=h.p.apart x hx;omega
 ·rcases ht x hx with q|q
  ·omega
  ·exact h.p.k0 x (by omega)
 ·rcases hk with g|g
  ·rcases ht k g with q|q
   ·exact⟨Decidable.byContradiction fun z=>absurd (h.d.kn.lt k z) (by omega),fun z=>absurd (h.d.en.lt k z) (by omega)⟩
   ·exact h.ap k (.inl (by omega))
  ·exact h.ap k (.inr g)
 ·rcases ht k hk with q|q
  ·exact .inl (Decidable.byContradiction fun z=>absurd (h.p.kn.lt k z) (by omega))
  ·exact .inr q.1
theorem aside{x x':KAt}{X X':Kn}(h:Quad w0 w a K e E b L f R F)(hx:∀k,a.tag k≠0→x.tag k=0∨x.tag k=5)(he:∀k,e.foot E.A k→x.tag k=0)(hd:∀k,b.tag k≠0∨f.foot R k→x.tag k=0)(h0:∀k,x.tag k≠0→w0.heap.size≤k)(s:KStep w w' x X x' X'):
  Quad w0 w' a K e E b L f R F∧(∀k,a.tag k≠0→x'.tag k=0∨x'.tag k=5)∧(∀k,e.foot E.A k→x'.tag k=0)∧(∀k,b.tag k≠0∨f.foot R k→x'.tag k=0)∧∀k,x'.tag k≠0→w0.heap.size≤k:=by
 have nx:∀k,a.tag k≠0→¬x.wf k:=fun k hk g=>(hx k hk).elim g.1 g.2
 refine⟨⟨{
       kn:=h.p.kn.keep s.mod nx
       en:=h.p.en.keep s.mod fun k hk g=>g.1 (he k hk)
       apart:=h.p.apart
       bel:=Mod.below h.p.bel s.mod h.p.bel.size fun i _ g=>h0 i g.1
       k0:=h.p.k0
       e0:=h.p.e0
       num:=h.p.num},⟨h.d.kn.keep s.mod fun k hk g=>g.1 (hd k (.inl hk)),h.d.en.keep s.mod fun k hk g=>g.1 (hd k (.inr hk)),h.d.apart⟩,h.ap,h.d0⟩,fun k hk=> ?_,fun k hk=> ?_,fun k hk=> ?_,fun k hk=> ?_⟩
 ·rw[s.tag k (h.p.kn.lt k hk)];exact hx k hk
 ·rw[s.tag k (h.p.en.lt k hk)];exact he k hk
 ·rw[s.tag k (hk.elim (h.d.kn.lt k) (h.d.en.lt k))];exact hd k hk
 ·rcases s.foot k hk with q|q
  ·exact h0 k q
  ·exact Nat.le_trans h.p.bel.size q
end Quad
namespace Wi
theorem set_some(K:Kn)(id n:Int)(s:ByteArray)(i j:Int):(Kn.block (K.setBlock id n s).B i j).isSome=(Kn.block K.B i j).isSome:=by
 unfold Kn.setBlock
 split
 ·rename_i h0
  have hb:(Kn.block K.B id n).isSome=true:=by
   unfold Kn.setE at h0;cases hq:(Kn.block K.B id n).isSome with
   |true=>rfl
   |false=>
    rw[if_pos (.inl (by rw[←Option.not_isSome,hq];rfl))] at h0;omega
  obtain⟨t,ht⟩:=Option.isSome_iff_exists.1 hb;obtain⟨p,q,l,rfl,rfl,hl,hs⟩:=Kn.block_some ht
  show(Kn.block (Kn.setB K.B p q s) i j).isSome=_
  by_cases e:i=p∧j=q
  ·rw[e.1,e.2,Kn.setB_eq hl,hb];have hp:=(List.getElem?_eq_some_iff.1 hl).1;have hq:=(List.getElem?_eq_some_iff.1 hs).1;rw[Kn.block_of (l:=l.set q s) (s:=s) (List.getElem?_set_self hp) (List.getElem?_set_self hq)];rfl
  ·rw[setB_other (by omega) (by omega) e]
 ·rfl
theorem doK_some(K:Kn)(E:En)(b:Nat)(num:Int)(i j:Int):(Kn.block (Co.doK K E b num).B i j).isSome=(Kn.block K.B i j).isSome:=by
 unfold Co.doK
 split
 ·rfl
 ·unfold Co.call
  repeat' split
  all_goals try rfl
  ·unfold Co.page;repeat' split
   all_goals rfl
  ·unfold Co.drop;repeat' split
   all_goals rfl
  ·unfold Co.read
   split
   ·rfl
   ·simp only;split<;>rfl
  ·unfold Co.write
   split
   ·rfl
   ·split
    ·rfl
    ·exact set_some _ _ _ _ _ _
  ·unfold Co.send;repeat' split
   all_goals rfl
  ·unfold Co.recv;repeat' split
   all_goals rfl
  ·unfold Co.put;repeat' split
   all_goals rfl
end Wi
theorem infoByte:(Tryz.prog.info? 5).map (fun i=>(i.zero,i.size,i.bytes))=some (some (.int .u8 0),1,1):=by kernel_rfl
theorem run_makeBytes(n:Nat)(hn:n≤140737488355328)(w:World):(Instr.makeSlice 30 (.int .i64 n) (.int .i64 n)).run Tryz.prog w=.ok (.slice (some ⟨w.heap.size,0,none⟩) n n) (w.alloc (.cells (List.replicate n (Value.int .u8 0)).toArray 5)):=by
 obtain⟨i0,hi,hz0,hz1,hz2⟩:=info_parts infoByte;have h:=run_make (P:=Tryz.prog) w 30 5 i0 (.int .u8 0) Tryz.underlying30 hi hz0 .i64 .i64 n n (by omega) (by omega) (by rw[hz2];omega) (by omega);rw[h,hz1];have e:madeCells (Value.int .u8 0).cells ((n:Int).toNat*1)=(List.replicate n (Value.int .u8 0)).toArray:=by
  apply Array.toList_inj.1
  rw[show(Value.int .u8 0).cells= #[.int .u8 0] from rfl,toList_madeCells_one]
  simp
 rw[e];rfl
theorem made_str(n:Nat)(w:World):(convert 30 9 (.slice (some ⟨w.heap.size,0,none⟩) n n)).run Tryz.prog (w.alloc (.cells (List.replicate n (Value.int .u8 0)).toArray 5))=.ok (.string (strOfNums (List.replicate n 0))) (w.alloc (.cells (List.replicate n (Value.int .u8 0)).toArray 5)):=by
 refine run_convert_bytes_arg (P:=Tryz.prog) _ 30 5 Tryz.underlying30 Tryz.underlying5 w.heap.size 0 n n (List.replicate n 0) List.length_replicate (fun i hi=> ?_) 9 Tryz.underlying9;rw[Nat.zero_add,World.cell?_alloc_mark];simp[hi]
end Go.Proofs.YtjjdjpdmgaipeaaGreat
