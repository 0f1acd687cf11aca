/- Quad, Wi22A, ReadA, RdP, Rd22 in one text. -/
import Derived.Test.YtjjdjpdmgaipeaaGreatCwR22C
import Derived.Test.YtjjdjpdmgaipeaaGreatCwKdoG
import Derived.Test.YtjjdjpdmgaipeaaGreatCwGraG
import Derived.Test.YtjjdjpdmgaipeaaGreatCwTskG
import Derived.Test.YtjjdjpdmgaipeaaGreatCwRegU
import Derived.Deep.Slices
import Derived.Deep.Fields
import Derived.ChangeSame
import Derived.SizedLaws
import Derived.ChangeArms
import Derived.Below
import Derived.OpenShut
import Derived.Test.YtjjdjpdmgaipeaaGreatCwRefW
import Derived.Test.YtjjdjpdmgaipeaaGreatCwR19
import Derived.Test.YtjjdjpdmgaipeaaGreatCwZa
set_option linter.unusedVariables false
set_option linter.unusedSimpArgs false
set_option maxRecDepth 100000
set_option maxHeartbeats 16000000
open Go.Proofs.Tryz
namespace Go.Proofs.YtjjdjpdmgaipeaaGreat
open Go.RowKit
structure KPair(w0 w:World)(a:KAt)(K:Kn)(b:RkAt)(L:Kn):Prop where
 p:Knl w a K
 d:Rkl w b L
 ap:∀k,a.tag k≠0→b.tag k=0
 bel:Below w0.heap.size w0 w
 k0:∀k,a.tag k≠0→w0.heap.size≤k
 d0:∀k,b.wf k→w0.heap.size≤k
namespace KPair
variable {w0 w w':World} {a a':KAt} {K K':Kn} {b b':RkAt} {L L':Kn}
theorem below(h:KPair w0 w a K b L)(hb:Below w.heap.size w w'):KPair w0 w' a K b L:=⟨h.p.below hb,h.d.below hb,h.ap,h.bel.trans (hb.mono h.bel.size),h.k0,h.d0⟩
theorem prog(h:KPair w0 w a K b L)(s:KStep w w' a K a' K'):KPair w0 w' a' K' b L:=
 ⟨s.k,h.d.keep s.mod fun k hk g=>hk (h.ap k g.1),fun k hk=>by
  rcases s.foot k hk with q|q
  ·exact h.ap k q
  ·exact Decidable.byContradiction fun z=>absurd (h.d.lt k z) (by omega),Mod.below h.bel s.mod h.bel.size fun i _ g=>h.k0 i g.1,fun k hk=>(s.foot k hk).elim (h.k0 k) fun g=>Nat.le_trans h.bel.size g,h.d0⟩
theorem doc(h:KPair w0 w a K b L)(s:RkStep w w' b L b' L'):KPair w0 w' a K b' L':=
 ⟨h.p.keep s.mod fun k hk g=>g.1 (h.ap k hk),s.k,fun k hk=>by
  rcases Nat.lt_or_ge k w.heap.size with q|q
  ·rw[s.tag k q];exact h.ap k hk
  ·exact absurd (h.p.lt k hk) (by omega),Mod.below h.bel s.mod h.bel.size fun i _ g=>h.d0 i g,h.k0,fun k hk=>(s.wfoot k hk).elim (h.d0 k) fun g=>Nat.le_trans h.bel.size g⟩
theorem weaken{w00:World}(h:KPair w0 w a K b L)(hb:Below w00.heap.size w00 w0):KPair w00 w a K b L:=
 {h with bel:=below_th hb h.bel,k0:=fun x hx=>Nat.le_trans hb.size (h.k0 x hx),d0:=fun x hx=>Nat.le_trans hb.size (h.d0 x hx)}
end KPair
structure Quad(w0 w:World)(a:KAt)(K:Kn)(e:EAt)(E:En)(b:RkAt)(L:Kn)(f:RAt)(R:List Rp)(F:En):Prop where
 p:KEn w0 w a K e E
 d:DKE w b L f R F
 ap:∀k,(a.tag k≠0∨e.foot E.A k)→b.tag k=0∧¬f.foot R k
 d0:∀k,b.wf k∨f.foot R k→w0.heap.size≤k
namespace Quad
variable {w0 w w':World} {a a':KAt} {K K':Kn} {e e':EAt} {E E':En} {b b':RkAt} {L L':Kn} {f f':RAt} {R R':List Rp} {F F':En}
theorem below(h:Quad w0 w a K e E b L f R F)(hb:Below w.heap.size w w'):Quad w0 w' a K e E b L f R F:=⟨h.p.below hb,h.d.below hb,h.ap,h.d0⟩
theorem prog(h:Quad w0 w a K e E b L f R F)(s:JStep w w' a e E.A a' K' e' E')(hn:E'.num=E.num):Quad w0 w' a' K' e' E' b L f R F:=
 ⟨h.p.step s hn,⟨h.d.kn.keep s.mod fun k hk g=>hk (h.ap k (g.imp (·.1) id)).1,h.d.en.keep s.mod fun k hk g=>(h.ap k (g.imp (·.1) id)).2 hk,h.d.apart⟩,fun k hk=>by
  rcases Nat.lt_or_ge k w.heap.size with q|q
  ·refine h.ap k (hk.imp (fun z=> ?_) fun z=>(s.foot k z).resolve_right (by omega));rw[←s.tag k q];exact z
  ·exact⟨Decidable.byContradiction fun z=>absurd (h.d.kn.lt k z) (by omega),fun z=>absurd (h.d.en.lt k z) (by omega)⟩,h.d0⟩
theorem doc(h:Quad w0 w a K e E b L f R F)(s:DkStep w w' b f R b' L' f' R' F'):Quad w0 w' a K e E b' L' f' R' F':=
 ⟨{
   kn:=h.p.kn.keep s.mod fun k hk g=>g.elim (fun z=>z.1 (h.ap k (.inl hk)).1) (h.ap k (.inl hk)).2
   en:=h.p.en.keep s.mod fun k hk g=>g.elim (fun z=>z.1 (h.ap k (.inr hk)).1) (h.ap k (.inr hk)).2
   apart:=h.p.apart
   bel:=Mod.below h.p.bel s.mod h.p.bel.size fun i _ g=>h.d0 i g
   k0:=h.p.k0
   e0:=h.p.e0
   num:=h.p.num},s.j,fun k hk=>by
  have hl:k<w.heap.size:=hk.elim (h.p.kn.lt k) (h.p.en.lt k);refine⟨by rw[s.tag k hl];exact(h.ap k hk).1,fun z=> ?_⟩;rcases s.foot k z with q|q
  ·exact(h.ap k hk).2 q
  ·omega,fun k hk=>by
  rcases Nat.lt_or_ge k w.heap.size with q|q
  ·refine h.d0 k (hk.imp (fun z=> ?_) fun z=>(s.foot k z).resolve_right (by omega));unfold RkAt.wf at z⊢;rw[←s.tag k q];exact z
  ·exact Nat.le_trans h.p.bel.size q⟩
theorem left(h:Quad w0 w a K e E b L f R F)(s:KStep w w' a K a' K'):Quad w0 w' a' K' e E b L f R F:=h.prog ((JStep.refl h.p.ke).left s) rfl
theorem right(h:Quad w0 w a K e E b L f R F)(s:EStep w w' e E e' E')(hn:E'.num=E.num):Quad w0 w' a K e' E' b L f R F:=h.prog ((JStep.refl h.p.ke).right s) hn
theorem of(h:KPair w0 w a K b L)(p:EPair w w' e E f R F)(hn:1≤E.num∧E.num≤8):Quad w0 w' a K e E b L f R F:=by
 have h1:=h.below p.bel;refine⟨⟨h1.p,p.env,fun x hx=> ?_,h1.bel,h1.k0,fun x hx=>Nat.le_trans h.bel.size (p.a0 x hx),hn⟩,⟨h1.d,p.ren,fun x hx=> ?_⟩,fun k hk=> ?_,fun k hk=> ?_⟩
 ·have:=p.a0 x hx;exact Decidable.byContradiction fun z=>absurd (h.p.lt x z) (by omega)
 ·have:=p.b0 x hx;exact Decidable.byContradiction fun z=>absurd (h.d.lt x z) (by omega)
 ·rcases hk with g|g
  ·exact⟨h.ap k g,fun z=>by have:=p.b0 k z;have:=h.p.lt k g;omega⟩
  ·exact⟨Decidable.byContradiction fun z=>absurd (h.d.lt k z) (by have:=p.a0 k g;omega),p.apart k g⟩
 ·rcases hk with g|g
  ·exact h.d0 k g
  ·exact Nat.le_trans h.bel.size (p.b0 k g)
end Quad
namespace Wi
theorem set_some(K:Kn)(id n:Int)(s:ByteArray)(i j:Int):(Kn.block (K.setBlock id n s).B i j).isSome=(Kn.block K.B i j).isSome:=by
 unfold Kn.setBlock
 split
 ·rename_i h0
  have hb:(Kn.block K.B id n).isSome=true:=by
   unfold Kn.setE at h0;cases hq:(Kn.block K.B id n).isSome with
   |true=>rfl
   |false=>
    rw[if_pos (.inl (by rw[←Option.not_isSome,hq];rfl))] at h0;omega
  obtain⟨t,ht⟩:=Option.isSome_iff_exists.1 hb;obtain⟨p,q,l,rfl,rfl,hl,hs⟩:=Kn.block_some ht
  show(Kn.block (Kn.setB K.B p q s) i j).isSome=_
  by_cases e:i=p∧j=q
  ·rw[e.1,e.2,Kn.setB_eq hl,hb];have hp:=(List.getElem?_eq_some_iff.1 hl).1;have hq:=(List.getElem?_eq_some_iff.1 hs).1;rw[Kn.block_of (l:=l.set q s) (s:=s) (List.getElem?_set_self hp) (List.getElem?_set_self hq)];rfl
  ·rw[setB_other (by omega) (by omega) e]
 ·rfl
theorem doK_some(K:Kn)(E:En)(b:Nat)(num:Int)(i j:Int):(Kn.block (Co.doK K E b num).B i j).isSome=(Kn.block K.B i j).isSome:=by
 unfold Co.doK
 split
 ·rfl
 ·unfold Co.call
  repeat' split
  all_goals try rfl
  ·unfold Co.page;repeat' split
   all_goals rfl
  ·unfold Co.drop;repeat' split
   all_goals rfl
  ·unfold Co.read
   split
   ·rfl
   ·simp only;split<;>rfl
  ·unfold Co.write
   split
   ·rfl
   ·split
    ·rfl
    ·exact set_some _ _ _ _ _ _
  ·unfold Co.send;repeat' split
   all_goals rfl
  ·unfold Co.recv;repeat' split
   all_goals rfl
  ·unfold Co.put;repeat' split
   all_goals rfl
end Wi
namespace L22
def BlsP(w:World)(K X:Kn)(e:Ending)(w':World):Prop:=
 ∃c o:Int,e=.returned (.tuple #[.int .i64 c,.int .i64 o])∧((∀id n:Int,0≤id→0≤n→Kn.block K.B id n=Kn.block X.B id n)→c=0)∧((∀id n:Int,0≤id→0≤n→Kn.block K.B id n=Kn.block X.B id n∨Gp.hasBlock (X.g 1) id n=true)→o=0)∧Below w.heap.size w w'
def blO(w1:World)(K X:Kn)(xs:List Int)(v6 v7 v8:Value)(wr:World):Prop:=
 ∃(i:Nat) (c o:Int),i≤xs.length∧v6=.int .i64 c∧v7=.int .i64 o∧v8=.int .u32 i∧((∀id n:Int,0≤id→0≤n→Kn.block K.B id n=Kn.block X.B id n)→c=0)∧((∀id n:Int,0≤id→0≤n→Kn.block K.B id n=Kn.block X.B id n∨Gp.hasBlock (X.g 1) id n=true)→o=0)∧Below w1.heap.size w1 wr
def blI(w1:World)(K X:Kn)(y:Nat)(v6 v7 v9:Value)(wr:World):Prop:=
 ∃(n:Nat) (c o:Int),n≤y∧v6=.int .i64 c∧v7=.int .i64 o∧v9=.int .u32 n∧((∀id n:Int,0≤id→0≤n→Kn.block K.B id n=Kn.block X.B id n)→c=0)∧((∀id n:Int,0≤id→0≤n→Kn.block K.B id n=Kn.block X.B id n∨Gp.hasBlock (X.g 1) id n=true)→o=0)∧Below w1.heap.size w1 wr
theorem blocks{w:World}{a x:KAt}{K X:Kn}(hk:Knl w a K)(hx:Knl w x X){la:Option Addr}{cap:Nat}{hp:Int}{xs:List Int}(hw:Rs.Words w la xs)(hb0:∀y,y∈xs→0≤y∧y≤4294967295)(hl:xs.length≤16):
  Calls Tryz.prog 91 #[.pointer (some ⟨a.kb,0,none⟩),.pointer (some ⟨x.kb,0,none⟩),.agg #[.int .u32 hp,.slice la xs.length cap]] w (BlsP w K X):=by
 have hb:Below w.heap.size w (w.alloc (.cells #[.int .u32 hp,.slice la xs.length cap] 25)):=(Below.refl _ _).alloc (Nat.le_refl _) _;have hbx:=heap_alloc_new w (.cells #[.int .u32 hp,.slice la xs.length cap] 25);have HB:=Lh hb;obtain⟨w1,hw1⟩:∃w1,w.alloc (.cells #[.int .u32 hp,.slice la xs.length cap] 25)=w1:=⟨_,rfl⟩;obtain⟨bx,hbxe⟩:∃bx,w.heap.size=bx:=⟨_,rfl⟩;have HW:=Lh (Ca.words_below hw hb);have hk1:=hk.below hb;have hx1:=hx.below hb;rw[hw1] at hbx HB HW hk1 hx1;rw[hbxe] at hbx;have HK:=Lh fun V (hV:Below w1.heap.size w1 V)=>hk1.below hV
 have HX:=Lh fun V (hV:Below w1.heap.size w1 V)=>hx1.below hV
 have HBd:=Lh hb0;have HC:Hid (∀V,Below w1.heap.size w1 V→V.cell? ⟨bx,1,none⟩=some (.slice la xs.length cap)):=Lh fun V hV=>by
  unfold World.cell?;rw[(hV.block _ (lt_of_block hbx)).trans hbx];rfl
 have HFin:Hid (∀V c o,((∀id n:Int,0≤id→0≤n→Kn.block K.B id n=Kn.block X.B id n)→c=0)→((∀id n:Int,0≤id→0≤n→Kn.block K.B id n=Kn.block X.B id n∨Gp.hasBlock (X.g 1) id n=true)→o=0)→Below w1.heap.size w1 V→BlsP w K X (.returned (.tuple #[.int .i64 c,.int .i64 o])) V):=Lh fun V c o h1 h2 h3=>⟨c,o,rfl,h1,h2,below_th HB.out h3⟩
 have HR0:Hid (blO w1 K X xs (.int .i64 0) (.int .i64 0) (.int .u32 0) w1):=Lh ⟨0,0,0,Nat.zero_le _,rfl,rfl,rfl,fun _=>rfl,fun _=>rfl,Below.refl _ _⟩;generalize BlsP w K X=PQ at*;have c1:=HC.out w1 (Below.refl _ _);clear hb hbx hk hx hk1 hx1 hw hb0;go_enter func91,ntmps91;go_wp2;try rw[hw1]
 try rw[hbxe]
 clear hw1 hbxe c1;go_loopw [6,7,8,9,10,11,12,13] (fun v6 v7 v8 _ _ _ _ _ wr=>blO w1 K X xs v6 v7 v8 wr) (fun _ _ v8 _ _ _ _ _ _=>xs.length - (intOf v8).toNat)
 case atStart=>exact HR0.out
 case round=>
  clear HR0;obtain⟨i,c,o,hi,rfl,rfl,rfl,hc,ho,hbw⟩:=hrel;have HBw:=Lh hbw;have c1:=HC.out wr hbw;have wl:IntKind.u32.wrap (xs.length:Int)=xs.length:=wrap32 (by omega) (by omega);have HCc:=Lh hc;have HOo:=Lh ho;clear hbw hc ho
  by_cases hin:i<xs.length
  ·have ii:(i:Int)<xs.length:=by omega
   have hyb:=HBd.out _ (List.getElem_mem hin);obtain⟨y,hy⟩:∃y:Nat,xs[i]=(y:Int):=⟨xs[i].toNat,by omega⟩;have HR1:Hid (blI w1 K X y (.int .i64 c) (.int .i64 o) (.int .u32 0) wr):=Lh ⟨0,c,o,Nat.zero_le _,rfl,rfl,rfl,HCc.out,HOo.out,HBw.out⟩;rw[hy] at hyb;have HY:=Lh hy;have HYb:=Lh hyb;clear hy hyb;go_wp2;clear c1 HBw HCc HOo;generalize wr=wo at*;go_loopw [6,7,9,10,11,12,13] (fun v6 v7 v9 _ _ _ _ wr=>blI w1 K X y v6 v7 v9 wr) (fun _ _ v9 _ _ _ _ _=>y - (intOf v9).toNat)
   case atStart=>exact HR1.out
   case round=>
    clear HR1;obtain⟨n,c,o,hn,rfl,rfl,rfl,hc,ho,hbw⟩:=hrel;have HBw:=Lh hbw;have c1:=HC.out wr hbw;have HCc:=Lh hc;have HOo:=Lh ho;obtain⟨g,q,ea,hcell⟩:=(Ca.words_below HW.out hbw).cell i hin;rw[HY.out] at hcell;subst ea;clear hbw hc ho;have hyb:=HYb.out
    by_cases hny:n<y
    ·have nn:(n:Int)<y:=by omega
     have nw:IntKind.u32.wrap ((n:Int)+1)=n+1:=wrap32 (by omega) (by omega);have hb1:=Lh (Kl.block (HK.out wr HBw.out) (i:Int) (n:Int) (by omega) (by omega) (by omega) (by omega));have hb2:=Lh (Kl.block (HX.out wr HBw.out) (i:Int) (n:Int) (by omega) (by omega) (by omega) (by omega));obtain⟨s,hs⟩:∃s,Kl.blkS (Kn.block K.B i n)=s:=⟨_,rfl⟩;obtain⟨t,ht⟩:∃t,Kl.blkS (Kn.block X.B i n)=t:=⟨_,rfl⟩;rw[hs] at hb1;rw[ht] at hb2;obtain⟨y1,hy1⟩:∃y1,Kl.blkE (Kn.block K.B i n)=y1:=⟨_,rfl⟩;obtain⟨y2,hy2⟩:∃y2,Kl.blkE (Kn.block X.B i n)=y2:=⟨_,rfl⟩;rw[hy1] at hb1;rw[hy2] at hb2;have HS:=Lh hs;have HT:=Lh ht;clear hs ht hy1 hy2;cases hst:s.toList == t.toList with
     |true=>
      have fin:blI w1 K X y (.int .i64 c) (.int .i64 o) (.int .u32 ((n:Int)+1)) wr:=⟨n+1,c,o,hny,rfl,rfl,by simp,HCc.out,HOo.out,HBw.out⟩;have Fin:=Lh fin;clear fin;go_wp2_with fail;refine hb1.out.mono ?_;rintro r w5 ⟨rfl,rfl⟩;go_wp2_with fail;refine hb2.out.mono ?_;rintro r w5 ⟨rfl,rfl⟩;go_wp2;exact⟨Fin.out,by simp[intOf];omega⟩
     |false=>
      have hne:¬Kn.block K.B i n=Kn.block X.B i n:=fun e=>by
       have:s=t:=by rw[←HS.out,←HT.out,e]
       rw[this] at hst;simp at hst
      have hcap:=Lh fun V (hV:Below w1.heap.size w1 V)=>Ca.block (HX.out V hV).caps (en:=1) ⟨by decide,by decide⟩ (i:Int) (n:Int)
      obtain⟨c',hc'⟩:∃c',IntKind.i64.wrap (c+1)=c':=⟨_,rfl⟩;obtain⟨o',ho'⟩:∃o',IntKind.i64.wrap (o+1)=o':=⟨_,rfl⟩;obtain⟨bh,hbh⟩:∃bh,Gp.hasBlock (X.g 1) i n=bh:=⟨_,rfl⟩;rw[hbh] at hcap;have HNe:=Lh hne;have HBh:=Lh hbh;clear hne hbh;cases bh with
      |true=>
       have fin:∀V,Below wr.heap.size wr V→blI w1 K X y (.int .i64 c') (.int .i64 o) (.int .u32 ((n:Int)+1)) V:=fun V hV=>⟨n+1,c',o,hny,rfl,rfl,by simp,fun g=>absurd (g i n (by omega) (by omega)) HNe.out,HOo.out,below_th HBw.out hV⟩
       have Fin:=Lh fin;clear fin;go_wp2_with fail;refine hb1.out.mono ?_;rintro r w5 ⟨rfl,rfl⟩;go_wp2_with fail;refine hb2.out.mono ?_;rintro r w5 ⟨rfl,rfl⟩;go_wp2_with fail;refine(Kl.caps (HX.out _ HBw.out)).mono ?_;rintro r w5 ⟨rfl,rfl⟩;go_wp2_with fail;refine(hcap.out _ HBw.out).mono ?_;rintro r w5 ⟨rfl,hb5⟩;have HE:=Lh (Fin.out w5 hb5);clear hb5 c1 hcell;go_wp2;exact⟨HE.out,by simp[intOf];omega⟩
      |false=>
       have fin:∀V,Below wr.heap.size wr V→blI w1 K X y (.int .i64 c') (.int .i64 o') (.int .u32 ((n:Int)+1)) V:=fun V hV=>⟨n+1,c',o',hny,rfl,rfl,by simp,fun g=>absurd (g i n (by omega) (by omega)) HNe.out,fun g=>(by
        rcases g i n (by omega) (by omega) with g|g
        ·exact absurd g HNe.out
        ·rw[HBh.out] at g;cases g),below_th HBw.out hV⟩
       have Fin:=Lh fin;clear fin;go_wp2_with fail;refine hb1.out.mono ?_;rintro r w5 ⟨rfl,rfl⟩;go_wp2_with fail;refine hb2.out.mono ?_;rintro r w5 ⟨rfl,rfl⟩;go_wp2_with fail;refine(Kl.caps (HX.out _ HBw.out)).mono ?_;rintro r w5 ⟨rfl,rfl⟩;go_wp2_with fail;refine(hcap.out _ HBw.out).mono ?_;rintro r w5 ⟨rfl,hb5⟩;have HE:=Lh (Fin.out w5 hb5);clear hb5 c1 hcell;go_wp2;exact⟨HE.out,by simp[intOf];omega⟩
    ·obtain rfl:n=y:=by omega
     have nn:¬(n:Int)<n:=by omega
     have iw:IntKind.u32.wrap ((i:Int)+1)=i+1:=wrap32 (by omega) (by omega);have fin:blO w1 K X xs (.int .i64 c) (.int .i64 o) (.int .u32 ((i:Int)+1)) wr:=⟨i+1,c,o,hin,rfl,rfl,by simp,HCc.out,HOo.out,HBw.out⟩;have Fin:=Lh fin;clear fin;go_wp2;exact⟨Fin.out,by simp[intOf];omega⟩
  ·obtain rfl:i=xs.length:=by omega
   have ii:¬(xs.length:Int)<xs.length:=by omega
   have HE:=Lh (HFin.out wr c o HCc.out HOo.out HBw.out);go_wp2
   first|exact HE.out|(go_ret2;exact HE.out)
def amRel(w:World)(xs:List Int)(y:Int)(vi:Value)(wr:World):Prop:=∃i:Nat,i≤xs.length∧vi=.int .i64 i∧(∀(k:Nat) (x:Int),k<i→xs[k]? =some x→x≠y)∧wr=w
theorem among{w:World}{a:Option Addr}{ac:Nat}{xs:List Int}(h:Rs.Words w a xs)(y:Int):
  Calls Tryz.prog 200 #[.slice a xs.length ac,.int .u32 y] w fun e w'=>e=.returned (.bool (decide (y∈xs)))∧w=w':=by
 have hln:=h.len;have HA:=Lh h;have HLn:=Lh hln;clear h hln;go_enter func200,ntmps200;go_wp2;go_loopw [5] (fun vi wr=>amRel w xs y vi wr) (fun vi _=>xs.length - (intOf vi).toNat)
 case atStart=>exact⟨0,Nat.zero_le _,rfl,fun k x hk=>absurd hk (Nat.not_lt_zero _),rfl⟩
 case round=>
  obtain⟨i,hi,rfl,hno,rfl⟩:=hrel;have HNo:=Lh hno;clear hno
  by_cases hin:i<xs.length
  ·have ii:(i:Int)<xs.length:=by omega
   obtain⟨g,o,ea,hc⟩:=HA.out.cell i hin;have hxi:xs[i]? =some xs[i]:=Zg hin;have HXi:=Lh hxi;have iw:IntKind.i64.wrap ((i:Int)+1)=(i:Int)+1:=by have:=HLn.out;rw[IntKind.wrap_i64];omega
   generalize xs[i]=x at*;subst ea;clear hxi
   by_cases e:x=y
   ·subst e;have hm:decide (x∈xs)=true:=decide_eq_true (List.mem_of_getElem? HXi.out);have HM:=Lh hm;clear hm;go_wp2
    first|exact⟨by rw[HM.out],rfl⟩|(go_ret;exact⟨by rw[HM.out];rfl,rfl⟩)
   ·have ne:(x == y)=false:=beq_eq_false_iff_ne.2 e;have HNe:=Lh e;clear e;have fin:amRel wr xs y (.int .i64 ((i:Int)+1)) wr:=⟨i+1,hin,by simp,fun k z hk hz=>by
     rcases Nat.lt_or_ge k i with q|q
     ·exact HNo.out k z q hz
     ·obtain rfl:k=i:=by omega
      rw[HXi.out] at hz;cases hz;exact HNe.out,rfl⟩
    have Fin:=Lh fin;clear fin;go_wp2;exact⟨Fin.out,by simp[intOf];omega⟩
  ·obtain rfl:i=xs.length:=by omega
   have ii:¬(xs.length:Int)<xs.length:=by omega
   have hm:decide (y∈xs)=false:=decide_eq_false fun hmm=>by
    obtain⟨k,hk⟩:=List.getElem?_of_mem hmm;exact HNo.out k y (List.getElem?_eq_some_iff.1 hk).1 hk rfl
   have HM:=Lh hm;clear hm;go_wp2
   first|exact⟨by rw[HM.out],rfl⟩|(go_ret;exact⟨by rw[HM.out];rfl,rfl⟩)
end L22
end Go.Proofs.YtjjdjpdmgaipeaaGreat
namespace Go.Proofs.YtjjdjpdmgaipeaaGreat.Rd
open Go.ChangeShapes Go.WideShapes Go.Deep
section
variable {H:Type} {enc:TypeId×Value→H} {P:Program} {w:World} {base:Nat} {spare:Nat→Bool} {held:Bool}
def Wt(P:Program)(t:TypeId)(d:DataW H):Prop:=∀n,n∈d.weights P t→n≤reachBytes
theorem wt_of{ts:List TypeId}{ds:List (DataW H)}(h:(DataW.weightsEach P ts ds).all (·≤reachBytes)=true){j:Nat}{t:TypeId}{d:DataW H}(ht:ts[j]? =some t)(hd:ds[j]? =some d):Wt P t d:=by
 intro n hn;have:=List.all_eq_true.1 h n (DataW.weights_mem_each ht hd n hn)
 simpa using this
theorem wt_str{t:TypeId}{l:List UInt8}(h:Wt P t (.lit (.string l):DataW H)):l.length<140737488355328:=
 Nat.lt_of_le_of_lt (h l.length (by simp[DataW.weights])) (by decide)
theorem wt_field{t:TypeId}{fs:Array Field}(ht:P.underlying t=some (.struct fs)){parts:List (DataW H)}(h:Wt P t (.agg parts)){j:Nat}{f:Field}{d:DataW H}(hf:fs[j]? =some f)(hd:parts[j]? =some d):Wt P f.type d:=by
 intro n hn;refine h n ?_;simp only[DataW.weights,ht];exact DataW.weights_mem_each (by simpa using (show(fs.toList.map (·.type))[j]? =some f.type by simp[hf])) hd n hn
theorem mem_weightsAll{e:TypeId}{d:DataW H}{n:Nat}:∀ {l:List (DataW H)},d∈l→n∈d.weights P e→n∈DataW.weightsAll P e l
 |x::r,hd,hn=>by
  simp only[DataW.weightsAll,List.mem_append];rcases List.mem_cons.1 hd with rfl|h
  ·exact .inl hn
  ·exact .inr (mem_weightsAll h hn)
theorem wt_elem{t e:TypeId}(ht:P.underlying t=some (.slice e)){elems sp:List (DataW H)}(h:Wt P t (.slice elems sp)){d:DataW H}(hd:d∈elems):Wt P e d:=by
 intro n hn;refine h n ?_;simp only[DataW.weights,ht,List.mem_cons,List.mem_append];exact .inr (.inl (mem_weightsAll hd hn))
theorem wt_len{t e:TypeId}(ht:P.underlying t=some (.slice e)){elems sp:List (DataW H)}(h:Wt P t (.slice elems sp)):elems.length*P.bytesOf e<140737488355328:=by
 have:=h ((elems.length+sp.length)*P.bytesOf e) (by simp[DataW.weights,ht]);have h2:elems.length*P.bytesOf e≤(elems.length+sp.length)*P.bytesOf e:=Nat.mul_le_mul_right _ (by omega);exact Nat.lt_of_le_of_lt (Nat.le_trans h2 this) (by decide)
variable {t:TypeId} {fuel:Nat} {v:Value} {y:DataW H×List MemPlace}
theorem rd_int{k:IntKind}(ht:P.underlying t=some (.int k))(h:DataW.trod enc P w base spare held fuel t [v]=some y):∃n,v=.int k n∧(Lit.int k n).wf=true:=by
 obtain⟨n,hc,_,hw⟩:=DataW.trod_int ht h;simp at hc;exact⟨n,hc,hw⟩
theorem rd_bool(ht:P.underlying t=some .bool)(h:DataW.trod enc P w base spare held fuel t [v]=some y):∃b,v=.bool b:=by
 obtain⟨n,hc,_⟩:=DataW.trod_bool ht h;simp at hc;exact⟨n,hc⟩
theorem rd_str(ht:P.underlying t=some .string)(h:DataW.trod enc P w base spare held fuel t [v]=some y)(hw:Wt P t y.1):∃s:ByteArray,v=.string s∧s.size<140737488355328:=by
 obtain⟨s,hc,rfl,_⟩:=DataW.trod_string ht h;simp at hc;have:=wt_str hw;rw[Array.length_toList] at this;exact⟨s,hc,this⟩
theorem rd_struct{fs:Array Field}(ht:P.underlying t=some (.struct fs))(hone:oneCellFields P fs=true)(hC:P.cellsOf t=fs.size){cs:List Value}(h:DataW.trod enc P w base spare held fuel t cs=some y)(hw:Wt P t y.1):
  cs.length=fs.size∧∀(j:Nat) (f:Field),fs[j]? =some f→∃(v:Value) (z:DataW H×List MemPlace) (n:Nat),cs[j]? =some v∧DataW.trod enc P w base spare held n f.type [v]=some z∧Wt P f.type z.1:=by
 obtain⟨xs,n,_,rfl,hlen,hxl,hf⟩:=DataW.trod_struct ht h;rw[hC] at hlen;refine⟨hlen,fun j f hj=> ?_⟩;obtain⟨ho,hk⟩:=hone_of hone j f hj;have hjl:j<fs.size:=(Array.getElem?_eq_some_iff.1 hj).1;have h1:=hf j f hj;rw[ho,hk] at h1;have hone':(cs.drop j).take 1=[cs[j]'(by omega)]:=by
  rw[List.drop_eq_getElem_cons (by omega)];rfl
 rw[hone'] at h1;have hys:xs[j]? =some (xs[j]'(by omega)):=Zg (by omega);exact⟨_,_,n,Zg (by omega),h1.trans hys,wt_field ht hw hj (by rw[List.getElem?_map,hys];rfl)⟩
theorem list_choose{X:Type}(n:Nat)(Q:Nat→X→Prop)(h:∀i,i<n→∃x,Q i x):∃xs:List X,xs.length=n∧∀i x,xs[i]? =some x→Q i x:=by
 induction n with
 |zero=>exact⟨[],rfl,fun i x hx=>by simp at hx⟩
 |succ n ih=>
  obtain⟨xs,hl,hx⟩:=ih fun i hi=>h i (by omega)
  obtain⟨x,hq⟩:=h n (by omega);refine⟨xs++[x],by simp[hl],fun i y hy=> ?_⟩
  by_cases hi:i<n
  ·exact hx i y (by rwa [List.getElem?_append_left (by omega)] at hy)
  ·rw[List.getElem?_append_right (by omega)] at hy;have:i - xs.length=0:=by
    rcases Nat.eq_zero_or_pos (i - xs.length) with g|g
    ·exact g
    ·rw[List.getElem?_eq_none (by simp;omega)] at hy;cases hy
   rw[this] at hy;simp at hy;obtain rfl:i=n:=by omega
   exact hy▸hq
def Sl{X:Type}(w:World)(C:Nat)(Q:(Nat→Option Value)→X→Prop)(a:Option Addr)(cap:Nat)(xs:List X):Prop:=
 xs.length≤cap∧cap≤maxLen∧(xs=[]∨∃b off,a=some ⟨b,off,none⟩∧∀i x,xs[i]? =some x→Q (fun j=>w.cell? ⟨b,off+i*C+j,none⟩) x)∧(a=none→cap=0)
theorem rd_slice{e:TypeId}(ht:P.underlying t=some (.slice e))(C:Nat)(hC:P.cellsOf e=C)(hC0:0<C){X:Type}(Q:(Nat→Option Value)→X→Prop)
  (hQ:∀(cs:List Value) (n:Nat) (z:DataW H×List MemPlace) (g:Nat→Option Value),DataW.trod enc P w base spare held n e cs=some z→Wt P e z.1→cs.length=C→(∀j,j<C→g j=cs[j]?)→∃x,Q g x)
  (h:DataW.trod enc P w base spare held fuel t [v]=some y) (hw:Wt P t y.1):
  ∃(a:Option Addr) (cap:Nat) (xs:List X),v=.slice a xs.length cap∧Sl w C Q a cap xs∧xs.length*P.bytesOf e<140737488355328:=by
 rcases open_slice ht h with⟨hc,_⟩|⟨a,len,cap,m,n,D,Pl,hcs,hb,hl,hm,hmm,rfl,hi⟩
 ·simp at hc;exact⟨none,0,[],hc,⟨Nat.le_refl _,Nat.zero_le _,.inl rfl,fun _=>rfl⟩,by simp⟩
 ·simp at hcs;have hml:len≤m:=by rw[hmm];split<;>omega
  obtain⟨b,off,spot⟩:=a;have hsp:0<len→spot=none:=by
   intro h0;obtain⟨cs',h1,h2⟩:=hi 0 (by omega);rw[hC] at h1;obtain⟨_,hcl,hat⟩:=World.cells?_some h1;have:=hat 0 hC0;have hz:cs'[0]? =some (cs'[0]'(by omega)):=Zg (by omega);rw[hz] at this;cases spot with
   |none=>rfl
   |some s=>simp[Addr.add,World.cell?] at this;split at this<;>simp at this
  obtain⟨xs,hxl,hx⟩:=list_choose len (fun i x=>Q (fun j=>w.cell? ⟨b,off+i*C+j,none⟩) x) (fun i hi'=>by
   obtain⟨cs',h1,h2⟩:=hi i (by omega);rw[hC] at h1;obtain⟨_,hcl,hat⟩:=World.cells?_some h1;refine hQ cs' n _ _ h2 (wt_elem ht hw (List.mem_map.2 ⟨i,List.mem_range.2 hi',rfl⟩)) hcl fun j hj=> ?_
   have hs:=hsp (by omega);subst hs;rw[←hat j hj]
   congr 1
   unfold Addr.add
   by_cases e1:i*C=0
   ·by_cases e2:j=0<;>simp[e1,e2]
   ·by_cases e2:j=0<;>simp[e1,e2,Nat.add_assoc])
  have hlen:len=xs.length:=hxl.symm;have hwl:=wt_len ht hw;rw[List.length_map,List.length_range] at hwl;rw[hlen] at hcs hwl hl;refine⟨_,cap,xs,hcs,⟨hl,hm, ?_,fun h=>by cases h⟩,hwl⟩;cases xs with
  |nil=>exact .inl rfl
  |cons x r=>
   have hs:=hsp (by rw[hlen];simp);subst hs;exact .inr ⟨b,off,rfl,hx⟩
end
end Go.Proofs.YtjjdjpdmgaipeaaGreat.Rd
namespace Go.Proofs.YtjjdjpdmgaipeaaGreat.Cp
open Go.RowKit
structure St.pre(w:World)(x:St):Prop where
 rrow:RowN .u32 w x.ra x.rn x.rf
 rbd:∀i,i<x.rn→0≤x.rf i∧x.rf i≤4294967295
 rlen:x.rn≤9223372036854775807
 p0:0≤x.pc
 p1:x.pc≤4294967295
 prow:RowN .u8 w x.pa x.pn x.pf
 pbd:∀i,i<x.pn→0≤x.pf i∧x.pf i≤255
 a0:0≤x.at'
 a1:x.at'≤65535
 crow:Code w x.ca x.cn x.cf
 cbd:∀i,i<x.cn→(x.cf i).ok
 w0:0≤x.wh
 w1:x.wh≤65535
def insQ(g:Nat→Option Value)(x:Ins):Prop:=(g 0=some (.int .u8 x.op)∧g 1=some (.int .u8 x.d)∧g 2=some (.int .u8 x.a)∧g 3=some (.int .u8 x.b)∧g 4=some (.int .u32 x.imm))∧x.ok
theorem bounds_u8'{n:Int}(h:(Lit.int .u8 n).wf=true):0≤n∧n≤255:=by
 simp[Lit.wf,IntKind.min,IntKind.max,IntKind.signed,IntKind.bits] at h;omega
theorem bounds_u16'{n:Int}(h:(Lit.int .u16 n).wf=true):0≤n∧n≤65535:=by
 simp[Lit.wf,IntKind.min,IntKind.max,IntKind.signed,IntKind.bits] at h;omega
theorem ins_read{H:Type}{enc:TypeId×Value→H}{w:World}{base:Nat}{spare:Nat→Bool}{held:Bool}(cs:List Value)(n:Nat)(z:DataW H×List MemPlace)(g:Nat→Option Value)
  (h:DataW.trod enc Tryz.prog w base spare held n 213 cs=some z) (hw:Rd.Wt Tryz.prog 213 z.1) (hl:cs.length=5) (hg:∀j,j<5→g j=cs[j]?):∃x:Ins,insQ g x:=by
 obtain⟨_,hs⟩:=Rd.rd_struct Tryz.underlying213 (by kernel_rfl) (by kernel_rfl) h hw;obtain⟨v0,z0,n0,e0,t0,q0⟩:=hs 0 _ rfl;obtain⟨x0,rfl,w0⟩:=Rd.rd_int Tryz.underlying5 t0;obtain⟨v1,z1,n1,e1,t1,q1⟩:=hs 1 _ rfl;obtain⟨x1,rfl,w1⟩:=Rd.rd_int Tryz.underlying5 t1;obtain⟨v2,z2,n2,e2,t2,q2⟩:=hs 2 _ rfl;obtain⟨x2,rfl,w2⟩:=Rd.rd_int Tryz.underlying5 t2;obtain⟨v3,z3,n3,e3,t3,q3⟩:=hs 3 _ rfl;obtain⟨x3,rfl,w3⟩:=Rd.rd_int Tryz.underlying5 t3;obtain⟨v4,z4,n4,e4,t4,q4⟩:=hs 4 _ rfl;obtain⟨x4,rfl,w4⟩:=Rd.rd_int Tryz.underlying22 t4;have b0:=bounds_u8' w0;have b1:=bounds_u8' w1;have b2:=bounds_u8' w2;have b3:=bounds_u8' w3;have b4:=bounds_u32 w4;exact⟨⟨x0,x1,x2,x3,x4⟩,⟨(hg 0 (by omega)).trans e0,(hg 1 (by omega)).trans e1,(hg 2 (by omega)).trans e2,(hg 3 (by omega)).trans e3,(hg 4 (by omega)).trans e4⟩,⟨b0.1,b0.2,b1.1,b1.2,b2.1,b2.2,b3.1,b3.2,b4.1,b4.2⟩⟩
def numQ(k:IntKind)(g:Nat→Option Value)(x:Int):Prop:=g 0=some (.int k x)∧(Lit.int k x).wf=true
theorem num_read{H:Type}{enc:TypeId×Value→H}{w:World}{base:Nat}{spare:Nat→Bool}{held:Bool}{k:IntKind}{t:TypeId}(ht:Tryz.prog.underlying t=some (.int k))(cs:List Value)(n:Nat)(z:DataW H×List MemPlace)(g:Nat→Option Value)
  (h:DataW.trod enc Tryz.prog w base spare held n t cs=some z) (hw:Rd.Wt Tryz.prog t z.1) (hl:cs.length=1) (hg:∀j,j<1→g j=cs[j]?):∃x:Int,numQ k g x:=by
 match cs,hl with
 | [v],_=>
  obtain⟨x,rfl,wx⟩:=Rd.rd_int ht h;exact⟨x,hg 0 (by omega),wx⟩
theorem sl_num{k:IntKind}{w:World}{a:Option Addr}{cap:Nat}{xs:List Int}(h:Rd.Sl w 1 (numQ k) a cap xs):RowN k w a xs.length (fun i=>xs.getD i 0)∧∀i,i<xs.length→(Lit.int k (xs.getD i 0)).wf=true:=by
 obtain⟨_,_,h,_⟩:=h;rcases h with rfl|⟨b,off,rfl,h⟩
 ·exact⟨fun g=>absurd g (by simp),fun i hi=>absurd hi (by simp)⟩
 ·have hg:∀i,i<xs.length→xs[i]? =some (xs.getD i 0):=fun i hi=>by rw[List.getD,Zg hi];rfl
  have hc:∀i,i<xs.length→w.cell? ⟨b,off+i,none⟩=some (.int k (xs.getD i 0)):=fun i hi=>by
   have:=(h i _ (hg i hi)).1
   simpa using this
  refine⟨fun hn=>⟨b,off,rfl, ?_,hc⟩,fun i hi=>(h i _ (hg i hi)).2⟩;have:=hc 0 hn;unfold World.cell? at this;cases hq:w.heap[b]? with
  |none=>rw[hq] at this;cases this
  |some _=>exact lt_of_block hq
theorem sl_ins{w:World}{a:Option Addr}{cap:Nat}{xs:List Ins}(h:Rd.Sl w 5 insQ a cap xs):Code w a xs.length (fun i=>xs.getD i Ins.nix)∧∀i,i<xs.length→(xs.getD i Ins.nix).ok:=by
 obtain⟨_,_,h,_⟩:=h;rcases h with rfl|⟨b,off,rfl,h⟩
 ·exact⟨fun g=>absurd g (by simp),fun i hi=>absurd hi (by simp)⟩
 ·have hg:∀i,i<xs.length→xs[i]? =some (xs.getD i Ins.nix):=fun i hi=>by rw[List.getD,Zg hi];rfl
  refine⟨fun _=>⟨b,off,rfl,fun i hi=> ?_⟩,fun i hi=>(h i _ (hg i hi)).2⟩;obtain⟨⟨c0,c1,c2,c3,c4⟩,_⟩:=h i _ (hg i hi);exact⟨c0,c1,c2,c3,c4⟩
theorem state_read{H:Type}{enc:TypeId×Value→H}{w:World}{base:Nat}{spare:Nat→Bool}{held:Bool}(cs:List Value)(n:Nat)(z:DataW H×List MemPlace)
  (h:DataW.trod enc Tryz.prog w base spare held n 34 cs=some z) (hw:Rd.Wt Tryz.prog 34 z.1) (hl:cs.length=7):∃x:St,cs=x.cells.toList∧x.pre w:=by
 obtain⟨_,hs⟩:=Rd.rd_struct Tryz.underlying34 (by kernel_rfl) (by kernel_rfl) h hw;obtain⟨v0,z0,n0,e0,t0,q0⟩:=hs 0 _ rfl;obtain⟨a0,cap0,x0,rfl,s0,l0⟩:=Rd.rd_slice Tryz.underlying23 1 (by kernel_rfl) (by omega) (numQ .u32) (fun cs n z g=>num_read Tryz.underlying22 cs n z g) t0 q0;obtain⟨v1,z1,n1,e1,t1,q1⟩:=hs 1 _ rfl;obtain⟨x1,rfl,w1⟩:=Rd.rd_int Tryz.underlying22 t1;obtain⟨v2,z2,n2,e2,t2,q2⟩:=hs 2 _ rfl;obtain⟨a2,cap2,x2,rfl,s2,l2⟩:=Rd.rd_slice Tryz.underlying30 1 (by kernel_rfl) (by omega) (numQ .u8) (fun cs n z g=>num_read Tryz.underlying5 cs n z g) t2 q2;obtain⟨v3,z3,n3,e3,t3,q3⟩:=hs 3 _ rfl;obtain⟨x3,rfl,w3⟩:=Rd.rd_int Tryz.underlying31 t3;obtain⟨v4,z4,n4,e4,t4,q4⟩:=hs 4 _ rfl;obtain⟨a4,cap4,x4,rfl,s4,l4⟩:=Rd.rd_slice Tryz.underlying32 5 (by kernel_rfl) (by omega) insQ (fun cs n z g=>ins_read cs n z g) t4 q4;obtain⟨v5,z5,n5,e5,t5,q5⟩:=hs 5 _ rfl;obtain⟨x5,rfl,w5⟩:=Rd.rd_int Tryz.underlying31 t5;obtain⟨v6,z6,n6,e6,t6,q6⟩:=hs 6 _ rfl;obtain⟨x6,rfl,w6⟩:=Rd.rd_str Tryz.underlying9 t6 q6;have r0:=sl_num s0;have r2:=sl_num s2;have r4:=sl_ins s4;have b1:=bounds_u32 w1;have b3:=bounds_u16' w3;have b5:=bounds_u16' w5;have hlen:x0.length≤9223372036854775807:=by have h1:=s0.1;have h2:=s0.2.1;unfold maxLen at h2;omega
 refine⟨⟨a0,x0.length,cap0,fun i=>x0.getD i 0,x1,a2,x2.length,cap2,fun i=>x2.getD i 0,x3,a4,x4.length,cap4,fun i=>x4.getD i Ins.nix,x5,x6⟩, ?_,⟨r0.1,fun i hi=>bounds_u32 (r0.2 i hi),hlen,b1.1,b1.2,r2.1,fun i hi=>bounds_u8' (r2.2 i hi),b3.1,b3.2,r4.1,r4.2,b5.1,b5.2⟩⟩;refine List.ext_getElem? fun j=> ?_
 match j with
 |0=>exact e0
 |1=>exact e1
 |2=>exact e2
 |3=>exact e3
 |4=>exact e4
 |5=>exact e5
 |6=>exact e6
 |j+7=>rw[List.getElem?_eq_none (by omega),List.getElem?_eq_none (by simp[St.cells])]
end Go.Proofs.YtjjdjpdmgaipeaaGreat.Cp
namespace Go.Proofs.YtjjdjpdmgaipeaaGreat.Rd
open Go.ChangeShapes Go.WideShapes Go.Deep
section
variable {H:Type} {enc:TypeId×Value→H} {P:Program} {w:World} {base:Nat} {spare:Nat→Bool} {held:Bool}
variable {t:TypeId} {fuel:Nat} {v:Value} {y:DataW H×List MemPlace}
theorem rd_part{fs:Array Field}(ht:P.underlying t=some (.struct fs)){cs:List Value}(h:DataW.trod enc P w base spare held fuel t cs=some y)(hw:Wt P t y.1)(j:Nat)(f:Field)(hj:fs[j]? =some f):
  ∃(z:DataW H×List MemPlace) (n:Nat),DataW.trod enc P w base spare held n f.type ((cs.drop f.offset).take (P.cellsOf f.type))=some z∧Wt P f.type z.1:=by
 obtain⟨xs,n,_,rfl,hlen,hxl,hf⟩:=DataW.trod_struct ht h;have hjl:j<fs.size:=(Array.getElem?_eq_some_iff.1 hj).1;have hys:xs[j]? =some (xs[j]'(by omega)):=Zg (by omega);exact⟨_,n,(hf j f hj).trans hys,wt_field ht hw hj (by rw[List.getElem?_map,hys];rfl)⟩
theorem rd_four{e:TypeId}{k:IntKind}(ht:P.underlying t=some (.array 4 e))(he:P.underlying e=some (.int k))(hC:P.cellsOf e=1)(hC4:P.cellsOf t=4){cs:List Value}(h:DataW.trod enc P w base spare held fuel t cs=some y):
  ∃c:Nat→Int,cs=[.int k (c 0),.int k (c 1),.int k (c 2),.int k (c 3)]∧∀i,i<4→(Lit.int k (c i)).wf=true:=by
 obtain⟨xs,m,_,_,hlen,hxl,hf⟩:=DataW.trod_array ht h;rw[hC4] at hlen;have hone:∀i,i<4→∃x,cs[i]? =some (.int k x)∧(Lit.int k x).wf=true:=fun i hi=>by
  have h1:=hf i hi;rw[hC,Nat.mul_one] at h1;have h2:(cs.drop i).take 1=[cs[i]'(by omega)]:=by
   rw[List.drop_eq_getElem_cons (by omega)];rfl
  rw[h2,Zg (by omega)] at h1;obtain⟨x,hx,hw⟩:=rd_int he h1;exact⟨x,by rw[Zg (by omega),hx],hw⟩
 obtain⟨x0,e0,w0⟩:=hone 0 (by omega);obtain⟨x1,e1,w1⟩:=hone 1 (by omega);obtain⟨x2,e2,w2⟩:=hone 2 (by omega);obtain⟨x3,e3,w3⟩:=hone 3 (by omega);refine⟨fun i=>if i=0 then x0 else if i=1 then x1 else if i=2 then x2 else x3,List.ext_getElem? fun j=> ?_,fun i hi=> ?_⟩
 ·match j with
  |0=>exact e0
  |1=>exact e1
  |2=>exact e2
  |3=>exact e3
  |j+4=>rw[List.getElem?_eq_none (by omega),List.getElem?_eq_none (by simp)]
 ·match i,hi with
  |0,_=>exact w0
  |1,_=>exact w1
  |2,_=>exact w2
  |3,_=>exact w3
end
end Go.Proofs.YtjjdjpdmgaipeaaGreat.Rd
namespace Go.Proofs.YtjjdjpdmgaipeaaGreat.In
open Go.RowKit
structure MnI where
 m:Mn
 ea:Option Addr
 ecap:Nat
 pa:Option Addr
 pcap:Nat
def MnI.ev(x:MnI):Value:=.slice x.ea x.m.ext.length x.ecap
def MnI.pv(x:MnI):Value:=.slice x.pa x.m.ports.length x.pcap
structure MnI.pre(w:World)(x:MnI):Prop where
 i:MnIn w x.ev x.pv x.m
 ok:x.m.ok
theorem MnI.pre.below{w w':World}{x:MnI}(h:x.pre w)(hb:Below w.heap.size w w'):x.pre w':=⟨h.i.below hb,h.ok⟩
def extQ(g:Nat→Option Value)(x:Int×Int):Prop:=(g 0=some (.int .u32 x.1)∧g 1=some (.int .u32 x.2))∧(0≤x.1∧x.1≤4294967295)∧0≤x.2∧x.2≤4294967295
theorem ext_read{H:Type}{enc:TypeId×Value→H}{w:World}{base:Nat}{spare:Nat→Bool}{held:Bool}(cs:List Value)(n:Nat)(z:DataW H×List MemPlace)(g:Nat→Option Value)
  (h:DataW.trod enc Tryz.prog w base spare held n 273 cs=some z) (hw:Rd.Wt Tryz.prog 273 z.1) (hl:cs.length=2) (hg:∀j,j<2→g j=cs[j]?):∃x:Int×Int,extQ g x:=by
 obtain⟨_,hs⟩:=Rd.rd_struct Tryz.underlying273 (by kernel_rfl) (by kernel_rfl) h hw;obtain⟨v0,z0,n0,e0,t0,q0⟩:=hs 0 _ rfl;obtain⟨x0,rfl,w0⟩:=Rd.rd_int Tryz.underlying22 t0;obtain⟨v1,z1,n1,e1,t1,q1⟩:=hs 1 _ rfl;obtain⟨x1,rfl,w1⟩:=Rd.rd_int Tryz.underlying22 t1;exact⟨(x0,x1),⟨(hg 0 (by omega)).trans e0,(hg 1 (by omega)).trans e1⟩,bounds_u32 w0,bounds_u32 w1⟩
theorem sl_rw{w:World}{a:Option Addr}{cap s:Nat}{X:Type}{Q:(Nat→Option Value)→X→Prop}{xs:List X}{C:X→List Value}(hC:∀x,(C x).length=s)(hs:0<s)(hQ:∀g x,Q g x→∀j u,(C x)[j]? =some u→g j=some u)(h:Rd.Sl w s Q a cap xs):RwV w s (.slice a xs.length cap) xs.length (xs.flatMap C):=by
 obtain⟨h1,h2,h3,_⟩:=h;have hlen:∀l:List X,(l.flatMap C).length=l.length*s:=fun l=>by
  induction l with
  |nil=>simp
  |cons x l ih=>rw[List.flatMap_cons,List.length_append,ih,hC,List.length_cons,Nat.add_mul];omega
 have hat:∀(l:List X) (j:Nat),(l.flatMap C)[j]? =(l[j / s]?).bind fun x=>(C x)[j % s]? :=fun l=>by
  induction l with
  |nil=>intro j;simp
  |cons x l ih=>
   intro j;rw[List.flatMap_cons]
   by_cases q:j<s
   ·rw[List.getElem?_append_left (by rw[hC];exact q),Nat.div_eq_of_lt q,Nat.mod_eq_of_lt q];rfl
   ·rw[List.getElem?_append_right (by rw[hC];omega),hC,ih (j - s)];have e1:j / s=(j - s) / s+1:=by
     have:=Nat.add_div_right (j - s) hs;rw[show j - s+s=j by omega] at this;exact this
    have e2:j % s=(j - s) % s:=by
     have:=Nat.add_mod_right (j - s) s;rw[show j - s+s=j by omega] at this;exact this
    rw[e1,e2,List.getElem?_cons_succ]
 refine⟨hlen xs,⟨a,cap,rfl,fun j u hu=> ?_⟩,Nat.le_trans h1 h2⟩;rcases h3 with rfl|⟨b,off,rfl,h⟩
 ·simp at hu
 ·rw[hat] at hu;cases hx:xs[j / s]? with
  |none=>rw[hx] at hu;cases hu
  |some x=>
   rw[hx] at hu;have:=hQ _ _ (h _ _ hx) _ _ hu;refine⟨b,off,rfl, ?_⟩;rw[←this];have e:off+j / s*s+j % s=off+j:=by
    have:=Nat.div_add_mod j s;rw[Nat.mul_comm] at this;generalize j / s*s=p at*;omega
   first|rw[e]|(rw[show off+j / s*s+j % s=off+j from e])
theorem man_read{H:Type}{enc:TypeId×Value→H}{w:World}{base:Nat}{spare:Nat→Bool}{held:Bool}(cs:List Value)(n:Nat)(z:DataW H×List MemPlace)
  (h:DataW.trod enc Tryz.prog w base spare held n 29 cs=some z) (hw:Rd.Wt Tryz.prog 29 z.1) (hl:cs.length=4):∃x:MnI,cs=(x.m.cells x.ev x.pv).toList∧x.pre w:=by
 obtain⟨_,hs⟩:=Rd.rd_struct Tryz.underlying29 (by kernel_rfl) (by kernel_rfl) h hw;obtain⟨v0,z0,n0,e0,t0,q0⟩:=hs 0 _ rfl;obtain⟨x0,rfl,w0⟩:=Rd.rd_int Tryz.underlying22 t0;obtain⟨v1,z1,n1,e1,t1,q1⟩:=hs 1 _ rfl;obtain⟨a1,cap1,x1,rfl,s1,l1⟩:=Rd.rd_slice Tryz.underlying26 2 (by kernel_rfl) (by omega) extQ (fun cs n z g=>ext_read cs n z g) t1 q1;obtain⟨v2,z2,n2,e2,t2,q2⟩:=hs 2 _ rfl;obtain⟨a2,cap2,x2,rfl,s2,l2⟩:=Rd.rd_slice Tryz.underlying27 1 (by kernel_rfl) (by omega) (Cp.numQ .u16) (fun cs n z g=>Cp.num_read Tryz.underlying31 cs n z g) t2 q2;obtain⟨v3,z3,n3,e3,t3,q3⟩:=hs 3 _ rfl;obtain⟨x3,rfl⟩:=Rd.rd_bool Tryz.underlying4 t3;have b0:=bounds_u32 w0;have r1:=sl_rw (s:=2) (C:=fun x:Int×Int=>[.int .u32 x.1,.int .u32 x.2]) (fun x=>rfl) (by omega) (fun g x hq j u hu=>by
  obtain⟨⟨q0,q1⟩,_⟩:=hq
  match j with
  |0=>simp at hu;subst hu;exact q0
  |1=>simp at hu;subst hu;exact q1
  |j+2=>simp at hu) s1
 have r2:=sl_rw (s:=1) (C:=fun x:Int=>[Value.int .u16 x]) (fun x=>rfl) (by omega) (fun g x hq j u hu=>by
  obtain⟨q0,_⟩:=hq
  match j with
  |0=>simp at hu;subst hu;exact q0
  |j+1=>simp at hu) s2
 have hmem:∀ {X:Type} {C:Nat} {Q:(Nat→Option Value)→X→Prop} {a:Option Addr} {cap:Nat} {xs:List X},Rd.Sl w C Q a cap xs→∀x,x∈xs→∃g,Q g x:=fun hsl x hx=>by
  obtain⟨i,hi⟩:=List.getElem?_of_mem hx;rcases hsl.2.2.1 with rfl|⟨b,off,_,hq⟩
  ·cases hx
  ·exact⟨_,hq i x hi⟩
 refine⟨⟨⟨x0,x1,x2,x3⟩,a1,cap1,a2,cap2⟩, ?_,⟨⟨?_, ?_⟩,⟨b0.1,b0.2,fun x hx=> ?_,fun x hx=> ?_⟩⟩⟩
 ·refine List.ext_getElem? fun j=> ?_
  match j with
  |0=>exact e0
  |1=>exact e1
  |2=>exact e2
  |3=>exact e3
  |j+4=>rw[List.getElem?_eq_none (by omega),List.getElem?_eq_none (by simp[Mn.cells])]
 ·exact r1
 ·have e:∀l:List Int,l.flatMap (fun x:Int=>[Value.int .u16 x])=l.map (Value.int .u16):=fun l=>by
   induction l with
   |nil=>rfl
   |cons x l ih=>rw[List.flatMap_cons,ih];rfl
  rw[←e x2];exact r2
 ·obtain⟨g,_,q1,q2⟩:=hmem s1 x hx;exact⟨q1.1,q1.2,q2.1,q2.2⟩
 ·obtain⟨g,_,q1⟩:=hmem s2 x hx;have:=Cp.bounds_u16' q1;omega
structure HdI where
 p:Int
 a:Option Addr
 cap:Nat
 l:List Int
def HdI.v(h:HdI):Value:=.slice h.a h.l.length h.cap
structure HdI.pre(w:World)(h:HdI):Prop where
 p0:0≤h.p
 p1:h.p≤4294967295
 w:Rs.Words w h.a h.l
 bd:∀x,x∈h.l→0≤x∧x≤4294967295
theorem hard_read{H:Type}{enc:TypeId×Value→H}{w:World}{base:Nat}{spare:Nat→Bool}{held:Bool}(cs:List Value)(n:Nat)(z:DataW H×List MemPlace)
  (h:DataW.trod enc Tryz.prog w base spare held n 25 cs=some z) (hw:Rd.Wt Tryz.prog 25 z.1) (hl:cs.length=2):∃x:HdI,cs=[.int .u32 x.p,x.v]∧x.pre w:=by
 obtain⟨_,hs⟩:=Rd.rd_struct Tryz.underlying25 (by kernel_rfl) (by kernel_rfl) h hw;obtain⟨v0,z0,n0,e0,t0,q0⟩:=hs 0 _ rfl;obtain⟨x0,rfl,w0⟩:=Rd.rd_int Tryz.underlying22 t0;obtain⟨v1,z1,n1,e1,t1,q1⟩:=hs 1 _ rfl;obtain⟨a1,cap1,x1,rfl,s1,l1⟩:=Rd.rd_slice Tryz.underlying23 1 (by kernel_rfl) (by omega) (Cp.numQ .u32) (fun cs n z g=>Cp.num_read Tryz.underlying22 cs n z g) t1 q1;have b0:=bounds_u32 w0;refine⟨⟨x0,a1,cap1,x1⟩, ?_,⟨b0.1,b0.2,⟨fun i hi=> ?_, ?_⟩,fun x hx=> ?_⟩⟩
 ·refine List.ext_getElem? fun j=> ?_
  match j with
  |0=>exact e0
  |1=>exact e1
  |j+2=>rw[List.getElem?_eq_none (by omega),List.getElem?_eq_none (by simp)]
 ·rcases s1.2.2.1 with rfl|⟨b,off,rfl,hq⟩
  ·exact absurd hi (by simp)
  ·have:=(hq i _ (Zg hi)).1;refine⟨b,off,rfl, ?_⟩
   simpa using this
 ·have h1:=s1.1;have h2:=s1.2.1;unfold maxLen at h2
  first|(show x1.length≤_;omega)|omega
 ·obtain⟨i,hi⟩:=List.getElem?_of_mem hx;rcases s1.2.2.1 with rfl|⟨b,off,_,hq⟩
  ·cases hx
  ·exact bounds_u32 (hq i x hi).2
end Go.Proofs.YtjjdjpdmgaipeaaGreat.In
namespace Go.Proofs.YtjjdjpdmgaipeaaGreat.In
open Go.RowKit
def strQ(g:Nat→Option Value)(s:ByteArray):Prop:=g 0=some (.string s)∧s.size<140737488355328
theorem str_read{H:Type}{enc:TypeId×Value→H}{w:World}{base:Nat}{spare:Nat→Bool}{held:Bool}(cs:List Value)(n:Nat)(z:DataW H×List MemPlace)(g:Nat→Option Value)
  (h:DataW.trod enc Tryz.prog w base spare held n 9 cs=some z) (hw:Rd.Wt Tryz.prog 9 z.1) (hl:cs.length=1) (hg:∀j,j<1→g j=cs[j]?):∃s:ByteArray,strQ g s:=by
 match cs,hl with
 | [v],_=>
  obtain⟨s,rfl,ws⟩:=Rd.rd_str Tryz.underlying9 h hw;exact⟨s,hg 0 (by omega),ws⟩
structure Txs(w:World)(a:Option Addr)(l:List ByteArray):Prop where
 cell:∀i (h:i<l.length),∃g o,a=some ⟨g,o,none⟩∧w.cell? ⟨g,o+i,none⟩=some (.string l[i])
 sz:∀s,s∈l→s.size<140737488355328
 len:l.length≤9223372036854775807
theorem cell_lt{w:World}{b i:Nat}{v:Value}(h:w.cell? ⟨b,i,none⟩=some v):b<w.heap.size:=by
 unfold World.cell? at h;cases hg:w.heap[b]? with
 |none=>rw[hg] at h;cases h
 |some _=>exact lt_of_block hg
theorem Txs.below{w w':World}{a:Option Addr}{l:List ByteArray}(h:Txs w a l)(hb:Below w.heap.size w w'):Txs w' a l:=
 ⟨fun i hi=>by
  obtain⟨g,o,e,hc⟩:=h.cell i hi;exact⟨g,o,e,(hb.cell (p:=⟨g,_,none⟩) (cell_lt hc)).trans hc⟩,h.sz,h.len⟩
theorem sl_txs{w:World}{a:Option Addr}{cap:Nat}{xs:List ByteArray}(h:Rd.Sl w 1 strQ a cap xs):Txs w a xs:=by
 refine⟨fun i hi=> ?_,fun s hs=> ?_,by have h1:=h.1;have h2:=h.2.1;unfold maxLen at h2;omega⟩
 ·rcases h.2.2.1 with rfl|⟨b,off,rfl,hq⟩
  ·exact absurd hi (by simp)
  ·have:=(hq i _ (Zg hi)).1;refine⟨b,off,rfl, ?_⟩
   simpa using this
 ·obtain⟨i,hi⟩:=List.getElem?_of_mem hs;rcases h.2.2.1 with rfl|⟨b,off,_,hq⟩
  ·cases hs
  ·exact(hq i s hi).2
structure ClI where
 dn:Int
 nm:Int
 c:Nat→Int
 fr:ByteArray
structure ClI.ok(x:ClI):Prop where
 d: -9223372036854775808≤x.dn∧x.dn≤9223372036854775807
 n:0≤x.nm∧x.nm≤4294967295
 c:∀i,i<4→0≤x.c i∧x.c i≤4294967295
 f:x.fr.size<140737488355328
def clQ(g:Nat→Option Value)(x:ClI):Prop:=(∀j,j<7→g j=(callC x.dn x.nm x.c x.fr)[j]?)∧x.ok
theorem call_read{H:Type}{enc:TypeId×Value→H}{w:World}{base:Nat}{spare:Nat→Bool}{held:Bool}(cs:List Value)(n:Nat)(z:DataW H×List MemPlace)(g:Nat→Option Value)
  (h:DataW.trod enc Tryz.prog w base spare held n 51 cs=some z) (hw:Rd.Wt Tryz.prog 51 z.1) (hl:cs.length=7) (hg:∀j,j<7→g j=cs[j]?):∃x:ClI,clQ g x:=by
 match cs,hl with
 | [c0,c1,c2,c3,c4,c5,c6],_=>
  have hs:=Rd.rd_part Tryz.underlying51 h hw;obtain⟨z0,n0,t0,q0⟩:=hs 0 _ rfl;obtain⟨z1,n1,t1,q1⟩:=hs 1 _ rfl;obtain⟨z2,n2,t2,q2⟩:=hs 2 _ rfl;obtain⟨z3,n3,t3,q3⟩:=hs 3 _ rfl;have t0:DataW.trod enc Tryz.prog w base spare held n0 3 (([c0,c1,c2,c3,c4,c5,c6].drop 0).take (Tryz.prog.cellsOf 3))=some z0:=t0;rw[show Tryz.prog.cellsOf 3=1 from by kernel_rfl] at t0;have t1:DataW.trod enc Tryz.prog w base spare held n1 22 (([c0,c1,c2,c3,c4,c5,c6].drop 1).take (Tryz.prog.cellsOf 22))=some z1:=t1;rw[show Tryz.prog.cellsOf 22=1 from by kernel_rfl] at t1;have t2:DataW.trod enc Tryz.prog w base spare held n2 49 (([c0,c1,c2,c3,c4,c5,c6].drop 2).take (Tryz.prog.cellsOf 49))=some z2:=t2;rw[show Tryz.prog.cellsOf 49=4 from by kernel_rfl] at t2;have t3:DataW.trod enc Tryz.prog w base spare held n3 9 (([c0,c1,c2,c3,c4,c5,c6].drop 6).take (Tryz.prog.cellsOf 9))=some z3:=t3;rw[show Tryz.prog.cellsOf 9=1 from by kernel_rfl] at t3;have q3:Rd.Wt Tryz.prog 9 z3.1:=q3;obtain⟨x0,rfl,w0⟩:=Rd.rd_int Tryz.underlying3 (v:=c0) t0;obtain⟨x1,rfl,w1⟩:=Rd.rd_int Tryz.underlying22 (v:=c1) t1;obtain⟨c,hc,wc⟩:=Rd.rd_four (cs:=[c2,c3,c4,c5]) Tryz.underlying49 Tryz.underlying22 (by kernel_rfl) (by kernel_rfl) t2;obtain⟨x3,rfl,w3⟩:=Rd.rd_str Tryz.underlying9 (v:=c6) t3 q3;simp only[List.cons.injEq,and_true] at hc;obtain⟨rfl,rfl,rfl,rfl⟩:=hc;refine⟨⟨x0,x1,c,x3⟩,fun j hj=>(hg j hj).trans ?_,⟨bounds_i64 w0,bounds_u32 w1,fun i hi=>bounds_u32 (wc i hi),w3⟩⟩
  match j,hj with
  |0,_=>rfl
  |1,_=>rfl
  |2,_=>rfl
  |3,_=>rfl
  |4,_=>rfl
  |5,_=>rfl
  |6,_=>rfl
structure Cls(w:World)(a:Option Addr)(l:List ClI):Prop where
 cell:∀i (h:i<l.length),∃g o,a=some ⟨g,o,none⟩∧∀j,j<7→w.cell? ⟨g,o+i*7+j,none⟩=(callC l[i].dn l[i].nm l[i].c l[i].fr)[j]?
 ok:∀i (h:i<l.length),l[i].ok
 len:l.length≤9223372036854775807
theorem Cls.below{w w':World}{a:Option Addr}{l:List ClI}(h:Cls w a l)(hb:Below w.heap.size w w'):Cls w' a l:=
 ⟨fun i hi=>by
  obtain⟨g,o,e,hc⟩:=h.cell i hi;exact⟨g,o,e,fun j hj=>(hb.cell (p:=⟨g,_,none⟩) (cell_lt (by rw[hc 0 (by omega)];rfl))).trans (hc j hj)⟩,h.ok,h.len⟩
theorem sl_cls{w:World}{a:Option Addr}{cap:Nat}{xs:List ClI}(h:Rd.Sl w 7 clQ a cap xs):Cls w a xs:=by
 refine⟨fun i hi=> ?_,fun i hi=> ?_,by have h1:=h.1;have h2:=h.2.1;unfold maxLen at h2;omega⟩
 ·rcases h.2.2.1 with rfl|⟨b,off,rfl,hq⟩
  ·exact absurd hi (by simp)
  ·exact⟨b,off,rfl,(hq i _ (Zg hi)).1⟩
 ·rcases h.2.2.1 with rfl|⟨b,off,rfl,hq⟩
  ·exact absurd hi (by simp)
  ·exact(hq i _ (Zg hi)).2
structure WdI where
 h:HdI
 m:MnI
 x:Cp.St
 ba:Option Addr
 bcap:Nat
 bl:List ByteArray
def WdI.cells(d:WdI):Array Value:= #[.int .u32 d.h.p,d.h.v,.int .u32 d.m.m.pages,d.m.ev,d.m.pv,.bool d.m.m.con,.slice d.x.ra d.x.rn d.x.rcap,.int .u32 d.x.pc,.slice d.x.pa d.x.pn d.x.pcap,.int .u16 d.x.at',.slice d.x.ca d.x.cn d.x.ccap,.int .u16 d.x.wh,.string d.x.text,.slice d.ba d.bl.length d.bcap]
structure WdI.pre(w:World)(d:WdI):Prop where
 h:d.h.pre w
 m:d.m.pre w
 x:d.x.pre w
 b:Txs w d.ba d.bl
theorem world_read{H:Type}{enc:TypeId×Value→H}{w:World}{base:Nat}{spare:Nat→Bool}{held:Bool}(cs:List Value)(n:Nat)(z:DataW H×List MemPlace)
  (h:DataW.trod enc Tryz.prog w base spare held n 37 cs=some z) (hw:Rd.Wt Tryz.prog 37 z.1) (hl:cs.length=14):∃d:WdI,cs=d.cells.toList∧d.pre w:=by
 match cs,hl with
 | [c0,c1,c2,c3,c4,c5,c6,c7,c8,c9,c10,c11,c12,c13],_=>
  have hs:=Rd.rd_part Tryz.underlying37 h hw;obtain⟨z0,n0,t0,q0⟩:=hs 0 _ rfl;obtain⟨z1,n1,t1,q1⟩:=hs 1 _ rfl;obtain⟨z2,n2,t2,q2⟩:=hs 2 _ rfl;obtain⟨z3,n3,t3,q3⟩:=hs 3 _ rfl;have t0:DataW.trod enc Tryz.prog w base spare held n0 25 (([c0,c1,c2,c3,c4,c5,c6,c7,c8,c9,c10,c11,c12,c13].drop 0).take (Tryz.prog.cellsOf 25))=some z0:=t0;rw[show Tryz.prog.cellsOf 25=2 from by kernel_rfl] at t0;have q0:Rd.Wt Tryz.prog 25 z0.1:=q0;have t1:DataW.trod enc Tryz.prog w base spare held n1 29 (([c0,c1,c2,c3,c4,c5,c6,c7,c8,c9,c10,c11,c12,c13].drop 2).take (Tryz.prog.cellsOf 29))=some z1:=t1;rw[show Tryz.prog.cellsOf 29=4 from by kernel_rfl] at t1;have q1:Rd.Wt Tryz.prog 29 z1.1:=q1;have t2:DataW.trod enc Tryz.prog w base spare held n2 34 (([c0,c1,c2,c3,c4,c5,c6,c7,c8,c9,c10,c11,c12,c13].drop 6).take (Tryz.prog.cellsOf 34))=some z2:=t2;rw[show Tryz.prog.cellsOf 34=7 from by kernel_rfl] at t2;have q2:Rd.Wt Tryz.prog 34 z2.1:=q2;have t3:DataW.trod enc Tryz.prog w base spare held n3 35 (([c0,c1,c2,c3,c4,c5,c6,c7,c8,c9,c10,c11,c12,c13].drop 13).take (Tryz.prog.cellsOf 35))=some z3:=t3;rw[show Tryz.prog.cellsOf 35=1 from by kernel_rfl] at t3;have q3:Rd.Wt Tryz.prog 35 z3.1:=q3;obtain⟨hd,hh,ph⟩:=hard_read [c0,c1] n0 z0 t0 q0 rfl;obtain⟨m,hm,pm⟩:=man_read [c2,c3,c4,c5] n1 z1 t1 q1 rfl;obtain⟨x,hx,px⟩:=Cp.state_read [c6,c7,c8,c9,c10,c11,c12] n2 z2 t2 q2 rfl;obtain⟨ba,bcap,bl,rfl,sb,lb⟩:=Rd.rd_slice (v:=c13) Tryz.underlying35 1 (by kernel_rfl) (by omega) strQ (fun cs n z g=>str_read cs n z g) t3 q3;refine⟨⟨hd,m,x,ba,bcap,bl⟩, ?_,⟨ph,pm,px,sl_txs sb⟩⟩
  show [c0,c1]++[c2,c3,c4,c5]++[c6,c7,c8,c9,c10,c11,c12]++[_]=_
  rw[hh,hm,hx];rfl
end Go.Proofs.YtjjdjpdmgaipeaaGreat.In
