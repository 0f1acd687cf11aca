/- R22C, R22D, R22E, R22F, R22G, R22H, R22I in one text. -/
import Derived.Test.YtjjdjpdmgaipeaaGreatCpR20D
import Derived.Test.YtjjdjpdmgaipeaaGreatCpRefW
import Derived.Test.YtjjdjpdmgaipeaaGreatCpZa
set_option linter.unusedVariables false
set_option linter.unusedSimpArgs false
set_option maxRecDepth 100000
set_option maxHeartbeats 16000000
open Go.Proofs.Tryz
namespace Go.Proofs.YtjjdjpdmgaipeaaGreat
open Go.RowKit
structure DKE(w:World)(a:RkAt)(K:Kn)(e:RAt)(R:List Rp)(E:En):Prop where
 kn:Rkl w a K
 en:Renv w e R E
 apart:∀x,e.foot R x→a.tag x=0
structure DkStep(W w:World)(a0:RkAt)(e0:RAt)(R0:List Rp)(a:RkAt)(K:Kn)(e:RAt)(R:List Rp)(E:En):Prop where
 j:DKE w a K e R E
 same:(a.kb=a0.kb∧a.c.rb=a0.c.rb∧a.n.rb=a0.n.rb)∧e.eb=e0.eb
 mod:Mod (fun x=>a0.wf x∨e0.foot R0 x) W w
 tag:∀k,k<W.heap.size→a.tag k=a0.tag k
 foot:∀k,e.foot R k→e0.foot R0 k∨W.heap.size≤k
namespace DKE
variable {w w':World} {a a':RkAt} {K K':Kn} {e e':RAt} {R R':List Rp} {E E':En}
theorem below(h:DKE w a K e R E)(hb:Below w.heap.size w w'):DKE w' a K e R E:=⟨h.kn.below hb,h.en.below hb,h.apart⟩
theorem left(h:DKE w a K e R E)(s:RkStep w w' a K a' K'):DKE w' a' K' e R E:=
 ⟨s.k,h.en.keep s.mod fun x hx g=>g.1 (h.apart x hx),fun x hx=>(s.tag x (h.en.lt x hx)).trans (h.apart x hx)⟩
theorem right(h:DKE w a K e R E)(s:RvStep w w' e R E e' R' E'):DKE w' a K e' R' E':=
 ⟨h.kn.keep s.mod fun x hx g=>hx (h.apart x g),s.ren,fun x hx=>by
  rcases s.foot x hx with g|g
  ·exact h.apart x g
  ·exact Decidable.byContradiction fun q=>absurd (h.kn.lt x q) (by omega)⟩
end DKE
namespace DkStep
variable {W w w':World} {a0 a a':RkAt} {K K':Kn} {e0 e e':RAt} {R0 R R':List Rp} {E E':En}
theorem refl(h:DKE w a K e R E):DkStep w w a e R a K e R E:=⟨h,⟨⟨rfl,rfl,rfl⟩,rfl⟩,Mod.refl _ _,fun _ _=>rfl,fun _ g=>.inl g⟩
theorem below(h:DkStep W w a0 e0 R0 a K e R E)(hb:Below w.heap.size w w'):DkStep W w' a0 e0 R0 a K e R E:=
 {h with j:=h.j.below hb,mod:=h.mod.trans (Mod.of_below hb (fun _=>False)) fun _ _ g=>g.elim}
theorem left(h:DkStep W w a0 e0 R0 a K e R E)(s:RkStep w w' a K a' K'):DkStep W w' a0 e0 R0 a' K' e R E where
 j:=h.j.left s
 same:=⟨⟨s.same.1.trans h.same.1.1,s.same.2.1.trans h.same.1.2.1,s.same.2.2.trans h.same.1.2.2⟩,h.same.2⟩
 mod:=h.mod.trans s.mod fun i _ g=>by
  rcases Nat.lt_or_ge i W.heap.size with q|q
  ·exact .inl (.inl ⟨by rw[←h.tag i q];exact g.1,by rw[←h.tag i q];exact g.2⟩)
  ·exact .inr q
 tag:=fun k hk=>(s.tag k (Nat.lt_of_lt_of_le hk h.mod.size)).trans (h.tag k hk)
 foot:=h.foot
theorem right(h:DkStep W w a0 e0 R0 a K e R E)(s:RvStep w w' e R E e' R' E'):DkStep W w' a0 e0 R0 a K e' R' E' where
 j:=h.j.right s
 same:=⟨h.same.1,s.same.trans h.same.2⟩
 mod:=h.mod.trans s.mod fun i _ g=>(h.foot i g).imp .inr id
 tag:=h.tag
 foot:=fun k hk=>(s.foot k hk).elim (h.foot k) fun q=>.inr (Nat.le_trans h.mod.size q)
end DkStep
namespace Rk
section
variable {w:World} {a:RkAt} {K:Kn} {e:RAt} {R:List Rp} {E:En}
theorem took(h:Rkl w a K){c:RcAt}{G:Int→Option Gr}{w':World}(hc:Rcs w' c K.hp G)(hs:Rc.RcSame a.c c)(hm:Mod (fun k=>a.c.lv.ownBlock=some k) w w'):∃a',RkStep w w' a K a' {K with g:=G}:=
 ⟨_,RkStep.setCaps h hc hs.rb hs.hv (fun k hk=>.inl (by
  rcases hk with(z|z)|z
  ·exact .inl (.inl (by rw[z,hs.rb]))
  ·exact .inl (.inr (by rw[←hs.lv];exact z))
  ·exact .inr (hs.rf k z))) (hm.mono fun k _ z=>.inl (.inr z))⟩
theorem may(x:Int)(x0:0≤x)(x1:x≤4294967295)(w:World):Calls Tryz.prog 206 #[.int .u32 x] w fun e w'=>e=.returned (.bool (En.mayP x))∧w=w':=by
 have HM:=Lh (Rs.may x x0 x1 w);cases hm:Sp.mayB x with
 |false=>
  have e:En.mayP x=false:=by
   unfold En.mayP;unfold Sp.mayB at hm;cases g:(x % 256 == 0) with
   |false=>rfl
   |true=>rw[g,Bool.true_and] at hm;rw[hm,Bool.and_false]
  rw[hm] at HM;rw[e];clear e hm;go_enter func206,ntmps206;go_wp2_with fail;refine HM.out.mono ?_;rintro e w2 ⟨rfl,rfl⟩;go_wp2;go_ret;exact⟨rfl,rfl⟩
 |true=>
  have e:En.mayP x=decide (256≤x):=by
   unfold En.mayP;unfold Sp.mayB at hm;rw[Bool.and_eq_true] at hm;rw[hm.1,hm.2,Bool.true_and,Bool.and_true]
  rw[hm] at HM;rw[e];clear e hm;go_enter func206,ntmps206;go_wp2_with fail;refine HM.out.mono ?_;rintro e w2 ⟨rfl,rfl⟩;go_wp2;go_ret;exact⟨rfl,rfl⟩
theorem preD{W w0:World}{a':RkAt}{K':Kn}{e':RAt}{R':List Rp}{E':En}(hb:Below W.heap.size W w0){w':World}(s:DkStep w0 w' a e R a' K' e' R' E'):DkStep W w' a e R a' K' e' R' E':=
 ⟨s.j,s.same,(Mod.of_below hb _).trans s.mod fun i _ g=>.inl g,fun k hk=>s.tag k (Nat.lt_of_lt_of_le hk hb.size),fun k hk=>(s.foot k hk).imp id fun q=>Nat.le_trans hb.size q⟩
def CoP(w:World)(a:RkAt)(e:RAt)(R:List Rp)(c:Nat→Co)(r:Ending)(w':World):Prop:=
 ∃blk a' e' R',r=.returned (.int .u32 (c blk).y)∧DkStep w w' a e R a' (c blk).K e' R' (c blk).E
theorem take_full{G:Int→Option Gr}{n:Int}(h:Gp.takeE (G n)≠0):Gp.upd G n (Gp.take (G n))=G:=by
 have e:Gp.take (G n)=G n:=by
  cases g:G n with
  |none=>rfl
  |some x=>
   unfold Gp.take;unfold Gp.takeE at h;rw[g] at h
   by_cases q:x.m.pages≤x.took
   ·simp[q]
   ·simp[q] at h
 rw[e];exact Gp.upd_same G n
theorem page(h:DKE w a K e R E)(x:Int)(x0:0≤x)(x1:x≤4294967295):Calls Tryz.prog 106 #[.pointer (some ⟨a.kb,0,none⟩),.pointer (some ⟨e.eb,0,none⟩),.int .u32 x] w (CoP w a e R (fun blk=>Co.page K E blk x)):=by
 have HPm:=Lh (Rs.perm h.en.rp x x0 x1);have HMy:=Lh fun V=>may x x0 x1 V
 rw[h.en.eq] at HPm;obtain⟨e0,e1,_⟩:=Rv.cells h.en;obtain⟨c0,_⟩:=h.kn.cells;have HTk:=Lh fun V (hV:Below w.heap.size w V)=>Rc.take (h.kn.below hV).caps E.num
 have HBad:Hid (∀V,V=w→(Sp.permB E.A x=true∨En.mayP x=false)→CoP w a e R (fun blk=>Co.page K E blk x) (.returned (.int .u32 2)) V):=Lh fun V hV q=>by
  subst hV;refine⟨0,a,e,R, ?_, ?_⟩
  ·show Ending.returned (.int .u32 2)=.returned (.int .u32 (Co.page K E 0 x).y)
   unfold Co.page;rw[if_pos q];rfl
  ·show DkStep _ _ a e R a (Co.page K E 0 x).K e R (Co.page K E 0 x).E
   unfold Co.page;rw[if_pos q];exact DkStep.refl h
 have HFull:Hid (∀V a',¬(Sp.permB E.A x=true∨En.mayP x=false)→Gp.takeE (K.g E.num)≠0→DkStep w V a e R a' {K with g:=Gp.upd K.g E.num (Gp.take (K.g E.num))} e R E→CoP w a e R (fun blk=>Co.page K E blk x) (.returned (.int .u32 4)) V):=Lh fun V a' q1 q2 q3=>by
  refine⟨0,a',e,R, ?_, ?_⟩
  ·show Ending.returned (.int .u32 4)=.returned (.int .u32 (Co.page K E 0 x).y)
   unfold Co.page;rw[if_neg q1,if_pos q2];rfl
  ·show DkStep _ _ a e R a' (Co.page K E 0 x).K e R (Co.page K E 0 x).E
   unfold Co.page;rw[if_neg q1,if_pos q2];rw[take_full q2] at q3;exact q3
 have HOk:Hid (∀V blk a' e' R',¬(Sp.permB E.A x=true∨En.mayP x=false)→Gp.takeE (K.g E.num)=0→DkStep w V a e R a' {K with g:=Gp.upd K.g E.num (Gp.take (K.g E.num))} e' R' (E.page x blk)→CoP w a e R (fun blk=>Co.page K E blk x) (.returned (.int .u32 0)) V):=Lh fun V blk a' e' R' q1 q2 q3=>by
  refine⟨blk,a',e',R', ?_, ?_⟩
  ·show Ending.returned (.int .u32 0)=.returned (.int .u32 (Co.page K E blk x).y)
   unfold Co.page;rw[if_neg q1,if_neg (by omega)];rfl
  ·show DkStep _ _ a e R a' (Co.page K E blk x).K e' R' (Co.page K E blk x).E
   unfold Co.page;rw[if_neg q1,if_neg (by omega)];exact q3
 generalize hPQ:CoP w a e R (fun blk=>Co.page K E blk x)=PQ at*;clear hPQ;cases hp:Sp.permB E.A x with
 |true=>
  rw[hp] at HPm;have hend:=HBad.out w rfl (.inl hp);clear hp h;generalize Sp.permV E.A x=pv at*;obtain⟨bm,hbm⟩:∃b,En.mayP x=b:=⟨_,rfl⟩;rw[hbm] at HMy;clear hbm;cases bm with
  |true=>
   go_enter func106,ntmps106;go_wp2_with fail;refine HPm.out.mono ?_;rintro r w1 ⟨rfl,rfl⟩;go_wp2_with fail;refine(HMy.out _).mono ?_;rintro r w1 ⟨rfl,rfl⟩;go_wp2
   first
    |exact hend
    |(go_ret;exact hend)
  |false=>
   go_enter func106,ntmps106;go_wp2_with fail;refine HPm.out.mono ?_;rintro r w1 ⟨rfl,rfl⟩;go_wp2_with fail;refine(HMy.out _).mono ?_;rintro r w1 ⟨rfl,rfl⟩;go_wp2
   first
    |exact hend
    |(go_ret;exact hend)
 |false=>
  rw[hp] at HPm;cases hm:En.mayP x with
  |false=>
   rw[hm] at HMy;have hend:=HBad.out w rfl (.inr hm);clear hp hm h;generalize Sp.permV E.A x=pv at*;go_enter func106,ntmps106;go_wp2_with fail;refine HPm.out.mono ?_;rintro r w1 ⟨rfl,rfl⟩;go_wp2_with fail;refine(HMy.out _).mono ?_;rintro r w1 ⟨rfl,rfl⟩;go_wp2
   first
    |exact hend
    |(go_ret;exact hend)
  |true=>
   rw[hm] at HMy;have HN:Hid (¬(Sp.permB E.A x=true∨En.mayP x=false)):=Lh (by rw[hp,hm];simp);have H:=Lh h;clear hp hm h;generalize Sp.permV E.A x=pv at*;have hd:Below w.heap.size w w.drew:=Br.drew;have htk:=HTk.out _ hd;obtain⟨z,hz⟩:∃z,Gp.takeE (K.g E.num)=z:=⟨_,rfl⟩;rw[hz] at htk;have HT:=Lh htk;have HZ:=Lh hz;clear htk hz
   by_cases z0:z=0
   ·subst z0;go_enter func106,ntmps106;go_wp2_with fail;refine HPm.out.mono ?_;rintro r w1 ⟨rfl,rfl⟩;go_wp2_with fail;refine(HMy.out _).mono ?_;rintro r w1 ⟨rfl,rfl⟩;go_wp2;refine B (fun V=>V.cell? ⟨a.kb,0,none⟩=some (.pointer (some ⟨a.c.rb,0,none⟩))∧V.cell? ⟨e.eb,0,none⟩=some (.int .i64 E.num)∧True) ⟨c0,e0,trivial⟩ fun wd hwd hS=> ?_
    subst hwd;refine T 0 hS ?_;refine T 1 hS ?_;refine T 2 hS ?_;refine T 3 hS ?_;refine T 4 hS ?_;refine T 5 hS ?_;refine T 6 hS ?_;refine T 7 hS ?_;refine U 8 fun Kq hKq=> ?_
    go_simp;go_at_call 207;refine HT.out.mono ?_;rintro r w2 ⟨rfl,c',hc',hs',hm'⟩;obtain⟨a2,hst⟩:=took (H.out.kn.below hd) hc' hs' hm';have hds:=(DkStep.refl (H.out.below hd)).left hst;have hS2:w2.cell? ⟨a.kb,0,none⟩=some (.pointer (some ⟨a.c.rb,0,none⟩))∧w2.cell? ⟨e.eb,0,none⟩=some (.int .i64 E.num)∧True:=by
     have h1:=hst.k.cells.1;rw[hst.same.1,hst.same.2.1] at h1;exact⟨h1,(Rv.cells hds.j.en).1,trivial⟩
    have HSt:=Lh hst;have HDs:=Lh hds;clear hc' hs' hm' hst hds hS;refine V hKq hS2 ?_;clear hKq Kq;refine T 9 hS2 ?_;refine wpAnyH_done (by kernel_rfl) ?_ _;clear hS2;have HPg:=Lh (Rv.page HDs.out.j.en x x0 x1);go_wp2_with fail;refine HPg.out.mono ?_;rintro r w3 ⟨blk,b',R',rfl,hrv⟩;have hend:=HOk.out w3 blk a2 b' R' HN.out HZ.out (preD hd (HDs.out.right hrv));clear hrv;go_wp2
    first
     |exact hend
     |(go_ret;exact hend)
   ·have zb:(z != 0)=true:=bne_iff_ne.2 z0;go_enter func106,ntmps106;go_wp2_with fail;refine HPm.out.mono ?_;rintro r w1 ⟨rfl,rfl⟩;go_wp2_with fail;refine(HMy.out _).mono ?_;rintro r w1 ⟨rfl,rfl⟩;go_wp2;refine B (fun V=>V.cell? ⟨a.kb,0,none⟩=some (.pointer (some ⟨a.c.rb,0,none⟩))∧V.cell? ⟨e.eb,0,none⟩=some (.int .i64 E.num)∧True) ⟨c0,e0,trivial⟩ fun wd hwd hS=> ?_
    subst hwd;refine T 0 hS ?_;refine T 1 hS ?_;refine T 2 hS ?_;refine T 3 hS ?_;refine T 4 hS ?_;refine T 5 hS ?_;refine T 6 hS ?_;refine T 7 hS ?_;refine U 8 fun Kq hKq=> ?_
    go_simp;go_at_call 207;refine HT.out.mono ?_;rintro r w2 ⟨rfl,c',hc',hs',hm'⟩;obtain⟨a2,hst⟩:=took (H.out.kn.below hd) hc' hs' hm';have hds:=(DkStep.refl (H.out.below hd)).left hst;have hS2:w2.cell? ⟨a.kb,0,none⟩=some (.pointer (some ⟨a.c.rb,0,none⟩))∧w2.cell? ⟨e.eb,0,none⟩=some (.int .i64 E.num)∧True:=by
     have h1:=hst.k.cells.1;rw[hst.same.1,hst.same.2.1] at h1;exact⟨h1,(Rv.cells hds.j.en).1,trivial⟩
    have HSt:=Lh hst;have HDs:=Lh hds;clear hc' hs' hm' hst hds hS;refine V hKq hS2 ?_;clear hKq Kq;refine T 9 hS2 ?_;refine wpAnyH_done (by kernel_rfl) ?_ _;clear hS2;have hend:=HFull.out w2 a2 HN.out (by rw[HZ.out];exact z0) (preD hd HDs.out);go_wp2
    first
     |exact hend
     |(go_ret;exact hend)
end
end Rk
namespace Rk
section
variable {w:World} {a:RkAt} {K:Kn} {e:RAt} {R:List Rp} {E:En}
theorem CoP.of{c:Nat→Co}{blk:Nat}{a':RkAt}{e':RAt}{R':List Rp}{w':World}{y:Int}{K':Kn}{E':En}(hc:(c blk).y=y∧(c blk).K=K'∧(c blk).E=E')(h:DkStep w w' a e R a' K' e' R' E'):CoP w a e R c (.returned (.int .u32 y)) w':=by
 obtain⟨rfl,rfl,rfl⟩:=hc;exact⟨blk,a',e',R',rfl,h⟩
theorem drop(h:DKE w a K e R E)(x:Int)(x0:0≤x)(x1:x≤4294967295):Calls Tryz.prog 107 #[.pointer (some ⟨a.kb,0,none⟩),.pointer (some ⟨e.eb,0,none⟩),.int .u32 x] w (CoP w a e R (fun _=>Co.drop K E x)):=by
 have HDr:=Lh (Rv.drop h.en x x0 x1);obtain⟨c0,_⟩:=h.kn.cells;have HNo:Hid (∀V e' R',RvStep w V e R E e' R' (E.drop x)→E.dropE x≠0→DkStep w V a e R a K e' R' E):=Lh fun V e' R' s hne=>by
  have s2:=(DkStep.refl h).right s;rw[drop_same h.en.ok hne] at s2;exact s2
 have HYes:Hid (∀V e' R',RvStep w V e R E e' R' (E.drop x)→DkStep w V a e R a K e' R' (E.drop x)):=Lh fun V e' R' s=>(DkStep.refl h).right s
 have HFin:Hid (∀V y a' K' e' R' E',DkStep w V a e R a' K' e' R' E'→(Co.drop K E x).y=y∧(Co.drop K E x).K=K'∧(Co.drop K E x).E=E'→CoP w a e R (fun _=>Co.drop K E x) (.returned (.int .u32 y)) V):=Lh fun V y a' K' e' R' E' s q=>CoP.of (c:=fun _=>Co.drop K E x) (blk:=0) q s
 generalize CoP w a e R (fun _=>Co.drop K E x)=PQ at*;have HNm:=Lh (drop_num E x)
 by_cases h2:E.dropE x=2
 ·rw[h2] at HDr;have HV:Hid ((Co.drop K E x).y=2∧(Co.drop K E x).K=K∧(Co.drop K E x).E=E):=Lh (by unfold Co.drop;rw[if_pos h2];exact⟨rfl,rfl,rfl⟩);have HZ:=Lh h2;clear h h2;go_enter func107,ntmps107;go_wp2_with fail;refine HDr.out.mono ?_;rintro r w1 ⟨b',R',rfl,hs⟩;have hend:=HFin.out _ _ _ _ _ _ _ (HNo.out _ _ _ hs (by rw[HZ.out];decide)) HV.out;clear hs;go_wp2
  first
   |exact hend
   |(go_ret;exact hend)
 ·by_cases h0:E.dropE x=0
  ·rw[h0] at HDr;have HV:Hid ((Co.drop K E x).y=0∧(Co.drop K E x).K= {K with g:=Gp.upd K.g E.num (Gp.give (K.g E.num))}∧(Co.drop K E x).E=E.drop x):=Lh (by unfold Co.drop;rw[if_neg h2,if_pos h0];exact⟨rfl,rfl,rfl⟩);clear h h2 h0;go_enter func107,ntmps107;go_wp2_with fail;refine HDr.out.mono ?_;rintro r w1 ⟨b',R',rfl,hs⟩;have hds:=HYes.out _ _ _ hs;have d0:=hds.j.kn.cells.1;have d1:=(Rv.cells hds.j.en).1;have hsame:=hds.same;rw[hs.same,HNm.out] at d1;have hd:Below w1.heap.size w1 w1.drew:=Br.drew;have HG:=Lh (Rc.give (hds.j.kn.below hd).caps E.num);have HDs:=Lh hds;clear hds hs hsame;go_wp2;refine B (fun V=>V.cell? ⟨a.kb,0,none⟩=some (.pointer (some ⟨a.c.rb,0,none⟩))∧V.cell? ⟨e.eb,0,none⟩=some (.int .i64 E.num)∧True) ⟨d0,d1,trivial⟩ fun wd hwd hS=> ?_
   subst hwd;refine T 0 hS ?_;refine T 1 hS ?_;refine T 2 hS ?_;refine T 3 hS ?_;refine T 4 hS ?_;refine T 5 hS ?_;refine T 6 hS ?_;refine T 7 hS ?_;refine U 8 fun Kq hKq=> ?_
   go_simp;go_at_call 210;refine HG.out.mono ?_;rintro r w2 ⟨rfl,c',hc',hs',hm'⟩;obtain⟨a2,hst⟩:=took (HDs.out.j.kn.below hd) hc' hs' hm';have hj2:=(HDs.out.below hd).left hst;have hend:=HFin.out _ _ _ _ _ _ _ hj2 HV.out;have hS2:w2.cell? ⟨a.kb,0,none⟩=some (.pointer (some ⟨a.c.rb,0,none⟩))∧w2.cell? ⟨e.eb,0,none⟩=some (.int .i64 E.num)∧True:=by
    have h1:=hst.k.cells.1;rw[hst.same.1,hst.same.2.1] at h1;have h2:=(Rv.cells hj2.j.en).1;rw[hj2.same.2,HNm.out] at h2;exact⟨h1,h2,trivial⟩
   clear hc' hs' hm' hst hS hj2;refine V hKq hS2 ?_;clear hKq Kq;refine wpAnyH_done (by kernel_rfl) ?_ _;go_wp2
   first
    |exact hend
    |(go_ret;exact hend)
  ·have HV:Hid ((Co.drop K E x).y=3∧(Co.drop K E x).K=K∧(Co.drop K E x).E=E):=Lh (by unfold Co.drop;rw[if_neg h2,if_neg h0];exact⟨rfl,rfl,rfl⟩);have HZ:=Lh h0;have g2:(E.dropE x == 2)=false:=beq_eq_false_iff_ne.2 h2;have g0:(E.dropE x != 0)=true:=bne_iff_ne.2 h0;generalize E.dropE x=z at*;clear h h2 h0;go_enter func107,ntmps107;go_wp2_with fail;refine HDr.out.mono ?_;rintro r w1 ⟨b',R',rfl,hs⟩;have hend:=HFin.out _ _ _ _ _ _ _ (HNo.out _ _ _ hs HZ.out) HV.out;clear hs;go_wp2
   first
    |exact hend
    |(go_ret;exact hend)
end
end Rk
namespace Rk
section
variable {w:World} {a:RkAt} {K:Kn} {e:RAt} {R:List Rp} {E:En}
theorem rv_put{w':World}{R':List Rp}(h:Renv w e R E)(s:RStep w w' e.rb e.lv R e.lv R'){x:Int}{t:ByteArray}(hA:rpgs R'=Sp.putA (rpgs R) x 2 t):RvStep w w' e R E e R' {E with A:=Sp.putA E.A x 2 t}:=
 RvStep.space (lv':=e.lv) (r:=E.r) (pc:=E.pc) h (h.cp.keep s.mod h.cs) s.sp (s.mod.mono fun k _ g=>.inr g) s.foot (by rw[hA,h.eq]) (putA_own h.ok x 2 t)
theorem rowsS{V:World}(h:Rkl V a K){g off cap i rg roff rc j:Nat}{l:List ByteArray}{t:ByteArray}(hbv:a.bv=.slice (some ⟨g,off,none⟩) K.B.length cap)(hri:a.rows[i]? =some (.slice (some ⟨rg,roff,none⟩) l.length rc))(hl:K.B[i]? =some l)(ht:l[j]? =some t):V.cell? ⟨g,off+i,none⟩=some (.slice (some ⟨rg,roff,none⟩) l.length rc)∧V.cell? ⟨rg,roff+j,none⟩=some (.string t):=by
 have ho:=h.outer;have hi:=(List.getElem?_eq_some_iff.1 hl).1;have hj:=(List.getElem?_eq_some_iff.1 ht).1;rw[hbv,h.len] at ho;have hin:=h.inner i _ l hri hl;exact⟨by rw[ho.cell i (by omega),hri],by rw[hin.cell j (by omega),List.getElem?_map,ht];rfl⟩
theorem read(h:DKE w a K e R E)(id n x:Int)(i0:0≤id)(i1:id≤4294967295)(n0:0≤n)(n1:n≤4294967295)(x0:0≤x)(x1:x≤4294967295)(hfit:Gp.hasBlock (K.g E.num) id n=true→∃t,Kn.block K.B id n=some t):
  Calls Tryz.prog 108 #[.pointer (some ⟨a.kb,0,none⟩),.pointer (some ⟨e.eb,0,none⟩),.int .u32 5,.int .u32 id,.int .u32 n,.int .u32 x] w (CoP w a e R (fun _=>Co.read K E id n x)):=by
 obtain⟨c0,_⟩:=h.kn.cells;obtain⟨e0,_⟩:=Rv.cells h.en;have hd:Below w.heap.size w w.drew:=Br.drew;have HBk:=Lh (Rc.block (h.kn.below hd).caps E.num id n n0);have HFin:Hid (∀V y a' K' e' R' E',DkStep w V a e R a' K' e' R' E'→(Co.read K E id n x).y=y∧(Co.read K E id n x).K=K'∧(Co.read K E id n x).E=E'→CoP w a e R (fun _=>Co.read K E id n x) (.returned (.int .u32 y)) V):=Lh fun V y a' K' e' R' E' s q=>CoP.of (c:=fun _=>Co.read K E id n x) (blk:=0) q s
 generalize CoP w a e R (fun _=>Co.read K E id n x)=PQ at*;have H0:=Lh (DkStep.refl h);cases hb:Gp.hasBlock (K.g E.num) id n with
 |false=>
  rw[hb] at HBk;have HV:Hid ((Co.read K E id n x).y=1∧(Co.read K E id n x).K=K∧(Co.read K E id n x).E=E):=Lh (by unfold Co.read;rw[if_pos hb];exact⟨rfl,rfl,rfl⟩);clear h hb hfit;go_enter func108,ntmps108;go_wp2;refine B (fun V=>V.cell? ⟨a.kb,0,none⟩=some (.pointer (some ⟨a.c.rb,0,none⟩))∧V.cell? ⟨e.eb,0,none⟩=some (.int .i64 E.num)∧True) ⟨c0,e0,trivial⟩ fun wd hwd hS=> ?_
  subst hwd;refine T 0 hS ?_;refine T 1 hS ?_;refine T 2 hS ?_;refine T 3 hS ?_;refine T 4 hS ?_;refine T 5 hS ?_;refine T 6 hS ?_;refine T 7 hS ?_;refine T 8 hS ?_;refine T 9 hS ?_;refine U 10 fun Kq hKq=> ?_
  go_simp;go_at_call 211;refine HBk.out.mono ?_;rintro r w2 ⟨rfl,hb2⟩;refine V hKq ⟨cQ hb2 hS.1,cQ hb2 hS.2.1,trivial⟩ ?_;clear hKq Kq;refine T 11 ⟨cQ hb2 hS.1,cQ hb2 hS.2.1,trivial⟩ ?_;refine wpAnyH_done (by kernel_rfl) ?_ _;clear hS;have hend:=HFin.out _ _ _ _ _ _ _ (H0.out.below (bQ hd hb2)) HV.out;clear hb2;go_wp2
  first
   |exact hend
   |(go_ret;exact hend)
 |true=>
  rw[hb] at HBk;obtain⟨t,hbt⟩:=hfit hb;have hv1:Co.read K E id n x=if Sp.fitsE E.A x t.size 2≠0 then Co.no K E 2 else Co.no K {E with A:=Sp.putA E.A x 2 t} 0:=by
   unfold Co.read;rw[if_neg (by rw[hb];decide),hbt];rfl
  obtain⟨i,j,l,rfl,rfl,hl,ht⟩:=Kn.block_some hbt;have hts:t.size=64:=h.kn.ok.bs i l hl t (List.mem_of_getElem? ht);obtain⟨g,off,cap,ro,rc,hbv,hrow,hri,hin⟩:=h.kn.row_at hl;have hi:=(List.getElem?_eq_some_iff.1 hl).1;have hj:=(List.getElem?_eq_some_iff.1 ht).1;rcases hin.2 with⟨z0,_⟩|⟨rg,roff,rcap,rcur,er,_⟩
  ·omega
  rw[er] at hri;have HS:Hid (∀V R' E',DKE V a K e R' E'→V.cell? ⟨a.kb,2,none⟩=some (.slice (some ⟨g,off,none⟩) K.B.length cap)∧V.cell? ⟨g,off+i,none⟩=some (.slice (some ⟨rg,roff,none⟩) l.length rcap)∧V.cell? ⟨rg,roff+j,none⟩=some (.string t)∧V.cell? ⟨e.eb,1,none⟩=some (.pointer (some ⟨e.rb,0,none⟩))∧True):=Lh fun V R' E' hV=>by
   obtain⟨_,_,q2,_⟩:=hV.kn.cells;rw[hbv] at q2;obtain⟨q3,q4⟩:=rowsS hV.kn hbv hri hl ht;exact⟨q2,q3,q4,(Rv.cells hV.en).2.1,trivial⟩
  have hil:=h.kn.bl.1;have hjl:=h.kn.bl.2 i l hl;have ii:(i:Int)<K.B.length:=by omega
  have jj:(j:Int)<l.length:=by omega
  have HPt:=Lh fun V (hV:Below w.heap.size w V)=>Rs.put_in (h.below hV).en.rp x 2 t x0 x1 (by omega) (by omega) (by omega)
  rw[h.en.eq] at HPt;have HRt:=Lh fun V (hV:Below w.heap.size w V) V' R' (s:RStep V V' e.rb e.lv R e.lv R') (q:rpgs R'=Sp.putA E.A x 2 t)=>(H0.out.below hV).right (rv_put (h.below hV).en s (by rw[h.en.eq];exact q))
  have HDk:=Lh fun V (hV:Below w.heap.size w V)=>h.below hV
  have HSm:=Lh (fun q:Sp.fitsE E.A x t.size 2≠0=>putA_same (need:=2) q);have HNo:Hid (Sp.fitsE E.A x t.size 2≠0→(Co.read K E i j x).y=2∧(Co.read K E i j x).K=K∧(Co.read K E i j x).E= {E with A:=Sp.putA E.A x 2 t}):=Lh fun q=>by
   rw[hv1,if_pos q,putA_same q];exact⟨rfl,rfl,rfl⟩
  have HYes:Hid (Sp.fitsE E.A x t.size 2=0→(Co.read K E i j x).y=0∧(Co.read K E i j x).K=K∧(Co.read K E i j x).E= {E with A:=Sp.putA E.A x 2 t}):=Lh fun q=>by
   rw[hv1,if_neg (by rw[q];decide)];exact⟨rfl,rfl,rfl⟩
  obtain⟨z,hz⟩:∃z,Sp.fitsE E.A x t.size 2=z:=⟨_,rfl⟩;rw[hz] at HPt HNo HYes;clear h hb hbt hv1 hl ht hts hbv hrow hri hin hz er HSm;generalize K.B.length=nb at*;generalize l.length=nl at*
  by_cases z0:z=0
  ·subst z0;go_enter func108,ntmps108;go_wp2;refine B (fun V=>V.cell? ⟨a.kb,0,none⟩=some (.pointer (some ⟨a.c.rb,0,none⟩))∧V.cell? ⟨e.eb,0,none⟩=some (.int .i64 E.num)∧True) ⟨c0,e0,trivial⟩ fun wd hwd hS=> ?_
   subst hwd;refine T 0 hS ?_;refine T 1 hS ?_;refine T 2 hS ?_;refine T 3 hS ?_;refine T 4 hS ?_;refine T 5 hS ?_;refine T 6 hS ?_;refine T 7 hS ?_;refine T 8 hS ?_;refine T 9 hS ?_;refine U 10 fun Kq hKq=> ?_
   go_simp;go_at_call 211;refine HBk.out.mono ?_;rintro r w2 ⟨rfl,hb2⟩;refine V hKq ⟨cQ hb2 hS.1,cQ hb2 hS.2.1,trivial⟩ ?_;clear hKq Kq;refine T 11 ⟨cQ hb2 hS.1,cQ hb2 hS.2.1,trivial⟩ ?_;refine wpAnyH_done (by kernel_rfl) ?_ _;clear hS;have hbw:=bQ hd hb2;have HBw:=Lh hbw;obtain⟨d0,d1,d2,d3,_⟩:=HS.out _ _ _ (HDk.out _ hbw);clear hb2 hbw;go_wp2;have HBd:=Lh (bQ HBw.out (Br.drew));refine B (fun V=>V.cell? ⟨a.kb,2,none⟩=some (.slice (some ⟨g,off,none⟩) nb cap)∧V.cell? ⟨g,off+i,none⟩=some (.slice (some ⟨rg,roff,none⟩) nl rcap)∧V.cell? ⟨rg,roff+j,none⟩=some (.string t)∧V.cell? ⟨e.eb,1,none⟩=some (.pointer (some ⟨e.rb,0,none⟩))∧True) ⟨d0,d1,d2,d3,trivial⟩ fun wd hwd hS=> ?_
   subst hwd;refine T 0 hS ?_;refine T 1 hS ?_;refine T 2 hS ?_;refine T 3 hS ?_;refine T 4 hS ?_;refine T 5 hS ?_;refine T 6 hS ?_;refine T 7 hS ?_;refine T 8 hS ?_;refine T 9 hS ?_;refine T 10 hS ?_;refine T 11 hS ?_;refine T 12 hS ?_;refine T 13 hS ?_;refine T 14 hS ?_;refine U 15 fun Kq hKq=> ?_
   go_simp;go_at_call 182;refine(HPt.out _ HBd.out).mono ?_;rintro r w3 ⟨R',rfl,hR',hs3⟩;have hds:=HRt.out _ HBd.out _ _ hs3 hR';have hS3:=HS.out _ _ _ hds.j;clear hR' hs3 hS;refine V hKq hS3 ?_;clear hKq Kq;refine T 16 hS3 ?_;refine wpAnyH_done (by kernel_rfl) ?_ _;clear hS3 d0 d1 d2 d3;have hend:=HFin.out _ _ _ _ _ _ _ hds (HYes.out (by first|rfl|trivial));clear hds;go_wp2
   first
    |exact hend
    |(go_ret;exact hend)
  ·have zb:(z != 0)=true:=bne_iff_ne.2 z0;go_enter func108,ntmps108;go_wp2;refine B (fun V=>V.cell? ⟨a.kb,0,none⟩=some (.pointer (some ⟨a.c.rb,0,none⟩))∧V.cell? ⟨e.eb,0,none⟩=some (.int .i64 E.num)∧True) ⟨c0,e0,trivial⟩ fun wd hwd hS=> ?_
   subst hwd;refine T 0 hS ?_;refine T 1 hS ?_;refine T 2 hS ?_;refine T 3 hS ?_;refine T 4 hS ?_;refine T 5 hS ?_;refine T 6 hS ?_;refine T 7 hS ?_;refine T 8 hS ?_;refine T 9 hS ?_;refine U 10 fun Kq hKq=> ?_
   go_simp;go_at_call 211;refine HBk.out.mono ?_;rintro r w2 ⟨rfl,hb2⟩;refine V hKq ⟨cQ hb2 hS.1,cQ hb2 hS.2.1,trivial⟩ ?_;clear hKq Kq;refine T 11 ⟨cQ hb2 hS.1,cQ hb2 hS.2.1,trivial⟩ ?_;refine wpAnyH_done (by kernel_rfl) ?_ _;clear hS;have hbw:=bQ hd hb2;have HBw:=Lh hbw;obtain⟨d0,d1,d2,d3,_⟩:=HS.out _ _ _ (HDk.out _ hbw);clear hb2 hbw;go_wp2;have HBd:=Lh (bQ HBw.out (Br.drew));refine B (fun V=>V.cell? ⟨a.kb,2,none⟩=some (.slice (some ⟨g,off,none⟩) nb cap)∧V.cell? ⟨g,off+i,none⟩=some (.slice (some ⟨rg,roff,none⟩) nl rcap)∧V.cell? ⟨rg,roff+j,none⟩=some (.string t)∧V.cell? ⟨e.eb,1,none⟩=some (.pointer (some ⟨e.rb,0,none⟩))∧True) ⟨d0,d1,d2,d3,trivial⟩ fun wd hwd hS=> ?_
   subst hwd;refine T 0 hS ?_;refine T 1 hS ?_;refine T 2 hS ?_;refine T 3 hS ?_;refine T 4 hS ?_;refine T 5 hS ?_;refine T 6 hS ?_;refine T 7 hS ?_;refine T 8 hS ?_;refine T 9 hS ?_;refine T 10 hS ?_;refine T 11 hS ?_;refine T 12 hS ?_;refine T 13 hS ?_;refine T 14 hS ?_;refine U 15 fun Kq hKq=> ?_
   go_simp;go_at_call 182;refine(HPt.out _ HBd.out).mono ?_;rintro r w3 ⟨R',rfl,hR',hs3⟩;have hds:=HRt.out _ HBd.out _ _ hs3 hR';have hS3:=HS.out _ _ _ hds.j;clear hR' hs3 hS;refine V hKq hS3 ?_;clear hKq Kq;refine T 16 hS3 ?_;refine wpAnyH_done (by kernel_rfl) ?_ _;clear hS3 d0 d1 d2 d3;have hend:=HFin.out _ _ _ _ _ _ _ hds (HNo.out z0);clear hds;go_wp2
   first
    |exact hend
    |(go_ret;exact hend)
end
end Rk
namespace Rk
section
variable {w:World} {a:RkAt} {K:Kn} {e:RAt} {R:List Rp} {E:En}
theorem write(h:DKE w a K e R E)(id n x:Int)(i0:0≤id)(i1:id≤4294967295)(n0:0≤n)(n1:n≤4294967295)(x0:0≤x)(x1:x≤4294967295)(hfit:Gp.hasBlock (K.g E.num) id n=true→∃t,Kn.block K.B id n=some t):
  Calls Tryz.prog 108 #[.pointer (some ⟨a.kb,0,none⟩),.pointer (some ⟨e.eb,0,none⟩),.int .u32 6,.int .u32 id,.int .u32 n,.int .u32 x] w (CoP w a e R (fun _=>Co.write K E id n x)):=by
 obtain⟨c0,_⟩:=h.kn.cells;obtain⟨e0,_⟩:=Rv.cells h.en;have hd:Below w.heap.size w w.drew:=Br.drew;have HBk:=Lh (Rc.block (h.kn.below hd).caps E.num id n n0);have HFin:Hid (∀V y a' K' e' R' E',DkStep w V a e R a' K' e' R' E'→(Co.write K E id n x).y=y∧(Co.write K E id n x).K=K'∧(Co.write K E id n x).E=E'→CoP w a e R (fun _=>Co.write K E id n x) (.returned (.int .u32 y)) V):=Lh fun V y a' K' e' R' E' s q=>CoP.of (c:=fun _=>Co.write K E id n x) (blk:=0) q s
 generalize CoP w a e R (fun _=>Co.write K E id n x)=PQ at*;have H0:=Lh (DkStep.refl h);cases hb:Gp.hasBlock (K.g E.num) id n with
 |false=>
  rw[hb] at HBk;have HV:Hid ((Co.write K E id n x).y=1∧(Co.write K E id n x).K=K∧(Co.write K E id n x).E=E):=Lh (by unfold Co.write;rw[if_pos hb];exact⟨rfl,rfl,rfl⟩);clear h hb hfit;go_enter func108,ntmps108;go_wp2;refine B (fun V=>V.cell? ⟨a.kb,0,none⟩=some (.pointer (some ⟨a.c.rb,0,none⟩))∧V.cell? ⟨e.eb,0,none⟩=some (.int .i64 E.num)∧True) ⟨c0,e0,trivial⟩ fun wd hwd hS=> ?_
  subst hwd;refine T 0 hS ?_;refine T 1 hS ?_;refine T 2 hS ?_;refine T 3 hS ?_;refine T 4 hS ?_;refine T 5 hS ?_;refine T 6 hS ?_;refine T 7 hS ?_;refine T 8 hS ?_;refine T 9 hS ?_;refine U 10 fun Kq hKq=> ?_
  go_simp;go_at_call 211;refine HBk.out.mono ?_;rintro r w2 ⟨rfl,hb2⟩;refine V hKq ⟨cQ hb2 hS.1,cQ hb2 hS.2.1,trivial⟩ ?_;clear hKq Kq;refine T 11 ⟨cQ hb2 hS.1,cQ hb2 hS.2.1,trivial⟩ ?_;refine wpAnyH_done (by kernel_rfl) ?_ _;clear hS;have hend:=HFin.out _ _ _ _ _ _ _ (H0.out.below (bQ hd hb2)) HV.out;clear hb2;go_wp2
  first
   |exact hend
   |(go_ret;exact hend)
 |true=>
  rw[hb] at HBk;obtain⟨t,hbt⟩:=hfit hb;have hv1:Co.write K E id n x=match Kn.bytes E x 64 with|none=>Co.no K E 2|some s=>Co.no (K.setBlock id n s) E 0:=by
   unfold Co.write;rw[if_neg (by rw[hb];decide)];cases Kn.bytes E x 64<;>rfl
  have HGt:=Lh fun V (hV:Below w.heap.size w V)=>Rs.get_any (h.below hV).en.rp x 64 1 x0 x1 (by omega) (by omega)
  rw[h.en.eq] at HGt;have HDk:=Lh fun V (hV:Below w.heap.size w V)=>h.below hV
  have HE1:=Lh fun V (hV:Below w.heap.size w V)=>(Rv.cells (h.below hV).en).2.1
  have HNo:Hid (Sp.getE E.A x 64 1≠0→(Co.write K E id n x).y=2∧(Co.write K E id n x).K=K∧(Co.write K E id n x).E=E):=Lh fun q=>by
   rw[hv1];unfold Kn.bytes;rw[if_neg q];exact⟨rfl,rfl,rfl⟩
  have HYes:Hid (Sp.getE E.A x 64 1=0→(Co.write K E id n x).y=0∧(Co.write K E id n x).K=K.setBlock id n (Sp.getS E.A x 64 1)∧(Co.write K E id n x).E=E):=Lh fun q=>by
   rw[hv1];unfold Kn.bytes;rw[if_pos q];exact⟨rfl,rfl,rfl⟩
  have HSb:Hid (Sp.getE E.A x 64 1=0→∀V,Below w.heap.size w V→Calls Tryz.prog 71 #[.pointer (some ⟨a.kb,0,none⟩),.int .u32 id,.int .u32 n,.string (Sp.getS E.A x 64 1)] V fun e w'=>e=.returned (.tuple #[])∧∃a',RkStep V w' a K a' (K.setBlock id n (Sp.getS E.A x 64 1))):=Lh fun q V hV=>setBlock (h.below hV).kn hbt _ (getS_size (by omega) q)
  obtain⟨z,hz⟩:∃z,Sp.getE E.A x 64 1=z:=⟨_,rfl⟩;rw[hz] at HGt HNo HYes HSb;clear h hb hbt hv1 hz;generalize Sp.getS E.A x 64 1=s at*
  by_cases z0:z=0
  ·subst z0;go_enter func108,ntmps108;go_wp2;refine B (fun V=>V.cell? ⟨a.kb,0,none⟩=some (.pointer (some ⟨a.c.rb,0,none⟩))∧V.cell? ⟨e.eb,0,none⟩=some (.int .i64 E.num)∧True) ⟨c0,e0,trivial⟩ fun wd hwd hS=> ?_
   subst hwd;refine T 0 hS ?_;refine T 1 hS ?_;refine T 2 hS ?_;refine T 3 hS ?_;refine T 4 hS ?_;refine T 5 hS ?_;refine T 6 hS ?_;refine T 7 hS ?_;refine T 8 hS ?_;refine T 9 hS ?_;refine U 10 fun Kq hKq=> ?_
   go_simp;go_at_call 211;refine HBk.out.mono ?_;rintro r w2 ⟨rfl,hb2⟩;refine V hKq ⟨cQ hb2 hS.1,cQ hb2 hS.2.1,trivial⟩ ?_;clear hKq Kq;refine T 11 ⟨cQ hb2 hS.1,cQ hb2 hS.2.1,trivial⟩ ?_;refine wpAnyH_done (by kernel_rfl) ?_ _;clear hS;have hbw:=bQ hd hb2;have HBw:=Lh hbw;have d1:=HE1.out _ hbw;clear hb2 hbw;go_wp2_with fail;refine(HGt.out _ HBw.out).mono ?_;rintro r w3 ⟨rfl,hb3⟩;have HBg:=Lh (bQ HBw.out hb3);clear hb3 d1;go_wp2_with fail;refine(HSb.out (by first|rfl|trivial) _ HBg.out).mono ?_;rintro r w4 ⟨rfl,a2,hst⟩;have hend:=HFin.out _ _ _ _ _ _ _ ((H0.out.below HBg.out).left hst) (HYes.out (by first|rfl|trivial));clear hst;go_wp2
   first
    |exact hend
    |(go_ret;exact hend)
  ·have zb:(z != 0)=true:=bne_iff_ne.2 z0;go_enter func108,ntmps108;go_wp2;refine B (fun V=>V.cell? ⟨a.kb,0,none⟩=some (.pointer (some ⟨a.c.rb,0,none⟩))∧V.cell? ⟨e.eb,0,none⟩=some (.int .i64 E.num)∧True) ⟨c0,e0,trivial⟩ fun wd hwd hS=> ?_
   subst hwd;refine T 0 hS ?_;refine T 1 hS ?_;refine T 2 hS ?_;refine T 3 hS ?_;refine T 4 hS ?_;refine T 5 hS ?_;refine T 6 hS ?_;refine T 7 hS ?_;refine T 8 hS ?_;refine T 9 hS ?_;refine U 10 fun Kq hKq=> ?_
   go_simp;go_at_call 211;refine HBk.out.mono ?_;rintro r w2 ⟨rfl,hb2⟩;refine V hKq ⟨cQ hb2 hS.1,cQ hb2 hS.2.1,trivial⟩ ?_;clear hKq Kq;refine T 11 ⟨cQ hb2 hS.1,cQ hb2 hS.2.1,trivial⟩ ?_;refine wpAnyH_done (by kernel_rfl) ?_ _;clear hS;have hbw:=bQ hd hb2;have HBw:=Lh hbw;have d1:=HE1.out _ hbw;clear hb2 hbw;go_wp2_with fail;refine(HGt.out _ HBw.out).mono ?_;rintro r w3 ⟨rfl,hb3⟩;have HBg:=Lh (bQ HBw.out hb3);clear hb3 d1;have hend:=HFin.out _ _ _ _ _ _ _ (H0.out.below HBg.out) (HNo.out z0);go_wp2
   first
    |exact hend
    |(go_ret;exact hend)
end
end Rk
namespace Rk
section
variable {w:World} {a:RkAt} {K:Kn} {e:RAt} {R:List Rp} {E:En}
def CoT(w:World)(a:RkAt)(e:RAt)(R:List Rp)(c:Co)(r:Ending)(w':World):Prop:=
 ∃a' e' R',r=.returned (.tuple #[.int .u32 c.y,.string c.s])∧DkStep w w' a e R a' c.K e' R' c.E
theorem CoT.of{c:Co}{a':RkAt}{e':RAt}{R':List Rp}{w':World}{y:Int}{t:ByteArray}{K':Kn}{E':En}(hc:c.y=y∧c.s=t∧c.K=K'∧c.E=E')(h:DkStep w w' a e R a' K' e' R' E'):CoT w a e R c (.returned (.tuple #[.int .u32 y,.string t])) w':=by
 obtain⟨rfl,rfl,rfl,rfl⟩:=hc;exact⟨a',e',R',rfl,h⟩
theorem put(h:DKE w a K e R E)(x n:Int)(x0:0≤x)(x1:x≤4294967295)(n0:0≤n)(n1:n≤4294967295):
  Calls Tryz.prog 111 #[.pointer (some ⟨a.kb,0,none⟩),.pointer (some ⟨e.eb,0,none⟩),.int .u32 x,.int .u32 n] w (CoT w a e R (Co.put K E x n)):=by
 obtain⟨c0,_⟩:=h.kn.cells;obtain⟨e0,_⟩:=Rv.cells h.en;have hd:Below w.heap.size w w.drew:=Br.drew;have HBk:=Lh (Rc.console (h.kn.below hd).caps E.num);have HFin:Hid (∀V y t a' K' e' R' E',DkStep w V a e R a' K' e' R' E'→(Co.put K E x n).y=y∧(Co.put K E x n).s=t∧(Co.put K E x n).K=K'∧(Co.put K E x n).E=E'→CoT w a e R (Co.put K E x n) (.returned (.tuple #[.int .u32 y,.string t])) V):=Lh fun V y t a' K' e' R' E' s q=>CoT.of q s
 have H0:=Lh (DkStep.refl h);have HGt:=Lh fun V (hV:Below w.heap.size w V)=>Rs.get_any (h.below hV).en.rp x n 1 x0 x1 (by omega) (by omega)
 rw[h.en.eq] at HGt;have HE1:=Lh fun V (hV:Below w.heap.size w V)=>(Rv.cells (h.below hV).en).2.1
 have HPu:=Lh fun s hs V (hV:Below w.heap.size w V)=>Rv.put (h.below hV).en s hs
 clear h;cases hb:Gp.con (K.g E.num) with
 |false=>
  have HV:Hid ((Co.put K E x n).y=1∧(Co.put K E x n).s=ByteArray.empty∧(Co.put K E x n).K=K∧(Co.put K E x n).E=E):=Lh (by unfold Co.put;rw[if_pos hb];exact⟨rfl,rfl,rfl,rfl⟩);generalize CoT w a e R (Co.put K E x n)=PQ at*;rw[hb] at HBk;clear hb;go_enter func111,ntmps111;go_wp2;refine B (fun V=>V.cell? ⟨a.kb,0,none⟩=some (.pointer (some ⟨a.c.rb,0,none⟩))∧V.cell? ⟨e.eb,0,none⟩=some (.int .i64 E.num)∧True) ⟨c0,e0,trivial⟩ fun wd hwd hS=> ?_
  subst hwd;refine T 0 hS ?_;refine T 1 hS ?_;refine T 2 hS ?_;refine T 3 hS ?_;refine T 4 hS ?_;refine T 5 hS ?_;refine T 6 hS ?_;refine T 7 hS ?_;refine U 8 fun Kq hKq=> ?_
  go_simp;go_at_call 218;refine HBk.out.mono ?_;rintro r w2 ⟨rfl,hb2⟩;refine V hKq ⟨cQ hb2 hS.1,cQ hb2 hS.2.1,trivial⟩ ?_;clear hKq Kq;refine T 9 ⟨cQ hb2 hS.1,cQ hb2 hS.2.1,trivial⟩ ?_;refine wpAnyH_done (by kernel_rfl) ?_ _;clear hS;have hend:=HFin.out _ _ _ _ _ _ _ _ (H0.out.below (bQ hd hb2)) HV.out;clear hb2;go_wp2
  first
   |exact hend
   |(go_ret2;exact hend)
 |true=>
  rw[hb] at HBk
  by_cases hn:256<n
  ·have HV:Hid ((Co.put K E x n).y=5∧(Co.put K E x n).s=ByteArray.empty∧(Co.put K E x n).K=K∧(Co.put K E x n).E=E):=Lh (by unfold Co.put;rw[if_neg (by rw[hb];decide),if_pos hn];exact⟨rfl,rfl,rfl,rfl⟩);generalize CoT w a e R (Co.put K E x n)=PQ at*;clear hb;go_enter func111,ntmps111;go_wp2;refine B (fun V=>V.cell? ⟨a.kb,0,none⟩=some (.pointer (some ⟨a.c.rb,0,none⟩))∧V.cell? ⟨e.eb,0,none⟩=some (.int .i64 E.num)∧True) ⟨c0,e0,trivial⟩ fun wd hwd hS=> ?_
   subst hwd;refine T 0 hS ?_;refine T 1 hS ?_;refine T 2 hS ?_;refine T 3 hS ?_;refine T 4 hS ?_;refine T 5 hS ?_;refine T 6 hS ?_;refine T 7 hS ?_;refine U 8 fun Kq hKq=> ?_
   go_simp;go_at_call 218;refine HBk.out.mono ?_;rintro r w2 ⟨rfl,hb2⟩;refine V hKq ⟨cQ hb2 hS.1,cQ hb2 hS.2.1,trivial⟩ ?_;clear hKq Kq;refine T 9 ⟨cQ hb2 hS.1,cQ hb2 hS.2.1,trivial⟩ ?_;refine wpAnyH_done (by kernel_rfl) ?_ _;clear hS;have hend:=HFin.out _ _ _ _ _ _ _ _ (H0.out.below (bQ hd hb2)) HV.out;clear hb2;go_wp2
   first
    |exact hend
    |(go_ret2;exact hend)
  ·have wn:IntKind.i64.wrap n=n:=by rw[IntKind.wrap_i64];omega
   by_cases hg:Sp.getE E.A x n 1=0
   ·have hsz:(Sp.getS E.A x n 1).size=n.toNat:=getS_size n0 hg
    by_cases hp:E.putE (Sp.getS E.A x n 1)=0
    ·have HV:Hid ((Co.put K E x n).y=0∧(Co.put K E x n).s=Sp.getS E.A x n 1∧(Co.put K E x n).K=K∧(Co.put K E x n).E=E.put (Sp.getS E.A x n 1)):=Lh (by unfold Co.put Kn.bytes;rw[if_neg (by rw[hb];decide),if_neg hn,if_pos hg];simp only;rw[if_neg (by rw[hp];decide)];exact⟨rfl,rfl,rfl,rfl⟩);generalize CoT w a e R (Co.put K E x n)=PQ at*;have HPw:=Lh (HPu.out _ (by omega:(Sp.getS E.A x n 1).size≤140737488355328));rw[hp] at HPw;rw[hg] at HGt;clear hb hg hp hsz HPu;generalize Sp.getS E.A x n 1=s at*;go_enter func111,ntmps111;go_wp2;refine B (fun V=>V.cell? ⟨a.kb,0,none⟩=some (.pointer (some ⟨a.c.rb,0,none⟩))∧V.cell? ⟨e.eb,0,none⟩=some (.int .i64 E.num)∧True) ⟨c0,e0,trivial⟩ fun wd hwd hS=> ?_
     subst hwd;refine T 0 hS ?_;refine T 1 hS ?_;refine T 2 hS ?_;refine T 3 hS ?_;refine T 4 hS ?_;refine T 5 hS ?_;refine T 6 hS ?_;refine T 7 hS ?_;refine U 8 fun Kq hKq=> ?_
     go_simp;go_at_call 218;refine HBk.out.mono ?_;rintro r w2 ⟨rfl,hb2⟩;refine V hKq ⟨cQ hb2 hS.1,cQ hb2 hS.2.1,trivial⟩ ?_;clear hKq Kq;refine T 9 ⟨cQ hb2 hS.1,cQ hb2 hS.2.1,trivial⟩ ?_;refine wpAnyH_done (by kernel_rfl) ?_ _;clear hS;have hbw:=bQ hd hb2;have HBw:=Lh hbw;have d1:=HE1.out _ hbw;clear hb2 hbw;go_wp2_with fail;refine(HGt.out _ HBw.out).mono ?_;rintro r w3 ⟨rfl,hb3⟩;have HBg:=Lh (bQ HBw.out hb3);clear hb3 d1;go_wp2_with fail;refine(HPw.out _ HBg.out).mono ?_;rintro r w4 ⟨rfl,hst⟩;have hend:=HFin.out _ _ _ _ _ _ _ _ ((H0.out.below HBg.out).right hst) HV.out;clear hst;go_wp2
     first
      |exact hend
      |(go_ret2;exact hend)
    ·have HV:Hid ((Co.put K E x n).y=4∧(Co.put K E x n).s=ByteArray.empty∧(Co.put K E x n).K=K∧(Co.put K E x n).E=E.put (Sp.getS E.A x n 1)):=Lh (by
      have e1:E.put (Sp.getS E.A x n 1)=E:=by unfold En.put;rw[if_pos hp]
      rw[e1];unfold Co.put Kn.bytes;rw[if_neg (by rw[hb];decide),if_neg hn,if_pos hg];simp only;rw[if_pos hp];exact⟨rfl,rfl,rfl,rfl⟩)
     generalize CoT w a e R (Co.put K E x n)=PQ at*;have HPw:=Lh (HPu.out _ (by omega:(Sp.getS E.A x n 1).size≤140737488355328));have pb:(E.putE (Sp.getS E.A x n 1) != 0)=true:=bne_iff_ne.2 hp;rw[hg] at HGt;clear hb hg hp hsz HPu;generalize Sp.getS E.A x n 1=s at*;generalize E.putE s=pe at*;go_enter func111,ntmps111;go_wp2;refine B (fun V=>V.cell? ⟨a.kb,0,none⟩=some (.pointer (some ⟨a.c.rb,0,none⟩))∧V.cell? ⟨e.eb,0,none⟩=some (.int .i64 E.num)∧True) ⟨c0,e0,trivial⟩ fun wd hwd hS=> ?_
     subst hwd;refine T 0 hS ?_;refine T 1 hS ?_;refine T 2 hS ?_;refine T 3 hS ?_;refine T 4 hS ?_;refine T 5 hS ?_;refine T 6 hS ?_;refine T 7 hS ?_;refine U 8 fun Kq hKq=> ?_
     go_simp;go_at_call 218;refine HBk.out.mono ?_;rintro r w2 ⟨rfl,hb2⟩;refine V hKq ⟨cQ hb2 hS.1,cQ hb2 hS.2.1,trivial⟩ ?_;clear hKq Kq;refine T 9 ⟨cQ hb2 hS.1,cQ hb2 hS.2.1,trivial⟩ ?_;refine wpAnyH_done (by kernel_rfl) ?_ _;clear hS;have hbw:=bQ hd hb2;have HBw:=Lh hbw;have d1:=HE1.out _ hbw;clear hb2 hbw;go_wp2_with fail;refine(HGt.out _ HBw.out).mono ?_;rintro r w3 ⟨rfl,hb3⟩;have HBg:=Lh (bQ HBw.out hb3);clear hb3 d1;go_wp2_with fail;refine(HPw.out _ HBg.out).mono ?_;rintro r w4 ⟨rfl,hst⟩;have hend:=HFin.out _ _ _ _ _ _ _ _ ((H0.out.below HBg.out).right hst) HV.out;clear hst;go_wp2
     first
      |exact hend
      |(go_ret2;exact hend)
   ·have HV:Hid ((Co.put K E x n).y=2∧(Co.put K E x n).s=ByteArray.empty∧(Co.put K E x n).K=K∧(Co.put K E x n).E=E):=Lh (by unfold Co.put Kn.bytes;rw[if_neg (by rw[hb];decide),if_neg hn,if_neg hg];exact⟨rfl,rfl,rfl,rfl⟩);generalize CoT w a e R (Co.put K E x n)=PQ at*;have gb:(Sp.getE E.A x n 1 != 0)=true:=bne_iff_ne.2 hg;clear hb hg HPu;generalize Sp.getS E.A x n 1=s at*;generalize Sp.getE E.A x n 1=ge at*;go_enter func111,ntmps111;go_wp2;refine B (fun V=>V.cell? ⟨a.kb,0,none⟩=some (.pointer (some ⟨a.c.rb,0,none⟩))∧V.cell? ⟨e.eb,0,none⟩=some (.int .i64 E.num)∧True) ⟨c0,e0,trivial⟩ fun wd hwd hS=> ?_
    subst hwd;refine T 0 hS ?_;refine T 1 hS ?_;refine T 2 hS ?_;refine T 3 hS ?_;refine T 4 hS ?_;refine T 5 hS ?_;refine T 6 hS ?_;refine T 7 hS ?_;refine U 8 fun Kq hKq=> ?_
    go_simp;go_at_call 218;refine HBk.out.mono ?_;rintro r w2 ⟨rfl,hb2⟩;refine V hKq ⟨cQ hb2 hS.1,cQ hb2 hS.2.1,trivial⟩ ?_;clear hKq Kq;refine T 9 ⟨cQ hb2 hS.1,cQ hb2 hS.2.1,trivial⟩ ?_;refine wpAnyH_done (by kernel_rfl) ?_ _;clear hS;have hbw:=bQ hd hb2;have HBw:=Lh hbw;have d1:=HE1.out _ hbw;clear hb2 hbw;go_wp2_with fail;refine(HGt.out _ HBw.out).mono ?_;rintro r w3 ⟨rfl,hb3⟩;have HBg:=Lh (bQ HBw.out hb3);clear hb3 d1;have hend:=HFin.out _ _ _ _ _ _ _ _ (H0.out.below HBg.out) HV.out;go_wp2
    first
     |exact hend
     |(go_ret2;exact hend)
end
end Rk
namespace Rk
theorem fromP(f:ByteArray)(hf:f.size<140737488355328)(w:World):Calls Tryz.prog 213 #[.string f] w fun e w'=>e=.returned (.tuple #[.int .u16 (Ni.portV f 20),.bool (Ni.portB f)])∧Below w.heap.size w w':=by
 have hp:=Lh fun w=>Rn.port f hf 20 (.inl rfl) w
 go_enter func213,ntmps213;go_wp2_with fail;refine(hp.out _).mono ?_;rintro e w1 ⟨rfl,hb⟩;go_wp2;go_ret2;exact⟨rfl,hb⟩
section
variable {w:World} {a:RkAt} {K:Kn} {e:RAt} {R:List Rp} {E:En}
theorem send(h:DKE w a K e R E)(x n:Int)(x0:0≤x)(x1:x≤4294967295)(n0:0≤n)(n1:n≤4294967295)(hsn:K.N.sent.length<1000000):
  Calls Tryz.prog 109 #[.pointer (some ⟨a.kb,0,none⟩),.pointer (some ⟨e.eb,0,none⟩),.int .u32 x,.int .u32 n] w (CoT w a e R (Co.send K E x n)):=by
 obtain⟨e0,e1,_⟩:=Rv.cells h.en;have HFin:Hid (∀V y t a' K' e' R' E',DkStep w V a e R a' K' e' R' E'→(Co.send K E x n).y=y∧(Co.send K E x n).s=t∧(Co.send K E x n).K=K'∧(Co.send K E x n).E=E'→CoT w a e R (Co.send K E x n) (.returned (.tuple #[.int .u32 y,.string t])) V):=Lh fun V y t a' K' e' R' E' s q=>CoT.of q s
 have H0:=Lh (DkStep.refl h);have HGt:=Lh (Rs.get_any h.en.rp x n 1 x0 x1 (by omega) (by omega));rw[h.en.eq] at HGt;have HC:=Lh fun V (hV:Below w.heap.size w V)=>(h.below hV).kn.cells
 have HE:=Lh fun V (hV:Below w.heap.size w V)=>(Rv.cells (h.below hV).en).1
 have HPo:=Lh fun p V (hV:Below w.heap.size w V)=>Rc.port (h.below hV).kn.caps E.num p
 have HSe:=Lh fun s hs V (hV:Below w.heap.size w V)=>Rn.send (h.below hV).kn.nic s hs hsn
 have HSt:Hid (∀s V V',Below w.heap.size w V→Rn.Post V a.n (Ni.sendS K.N s) V'→∃a',DkStep w V' a e R a' {K with N:=Ni.sendS K.N s} e R E):=Lh fun s V V' hV hp=>by
  have hk:=(h.below hV).kn;obtain⟨a',hst⟩:=RkStep.setNic hk hp (fun y t ht=>hk.ok.q y t (by unfold Ni.sendS at ht;split at ht<;>exact ht)) (by unfold Ni.sendS;split<;>exact hk.ok.g0);exact⟨a',((DkStep.refl h).below hV).left hst⟩
 clear h;have wn:IntKind.i64.wrap n=n:=by rw[IntKind.wrap_i64];omega
 by_cases hn:128<n
 ·have HV:Hid ((Co.send K E x n).y=5∧(Co.send K E x n).s=ByteArray.empty∧(Co.send K E x n).K=K∧(Co.send K E x n).E=E):=Lh (by unfold Co.send;rw[if_pos hn];exact⟨rfl,rfl,rfl,rfl⟩);have hend:=HFin.out _ _ _ _ _ _ _ _ H0.out HV.out;generalize CoT w a e R (Co.send K E x n)=PQ at*;go_enter func109,ntmps109;go_wp2
  first
   |exact hend
   |(go_ret2;exact hend)
 by_cases hz:n=0
 ·subst hz;have HV:Hid ((Co.send K E x 0).y=2∧(Co.send K E x 0).s=ByteArray.empty∧(Co.send K E x 0).K=K∧(Co.send K E x 0).E=E):=Lh (by unfold Co.send;rw[if_neg hn,if_pos rfl];exact⟨rfl,rfl,rfl,rfl⟩);generalize CoT w a e R (Co.send K E x 0)=PQ at*;generalize Sp.getS E.A x 0 1=s at*
  by_cases hg:Sp.getE E.A x 0 1=0
  ·rw[hg] at HGt;clear hg;go_enter func109,ntmps109;go_wp2_with fail;refine HGt.out.mono ?_;rintro r w1 ⟨rfl,hb1⟩;have hend:=HFin.out _ _ _ _ _ _ _ _ (H0.out.below hb1) HV.out;clear hb1;go_wp2
   first
    |exact hend
    |(go_ret2;exact hend)
  ·have gb:(Sp.getE E.A x 0 1 != 0)=true:=bne_iff_ne.2 hg;generalize Sp.getE E.A x 0 1=ge at*;go_enter func109,ntmps109;go_wp2_with fail;refine HGt.out.mono ?_;rintro r w1 ⟨rfl,hb1⟩;have hend:=HFin.out _ _ _ _ _ _ _ _ (H0.out.below hb1) HV.out;clear hb1;go_wp2
   first
    |exact hend
    |(go_ret2;exact hend)
 have zb:(n == 0)=false:=beq_eq_false_iff_ne.2 hz
 by_cases hg:Sp.getE E.A x n 1=0
 ·have hsz:(Sp.getS E.A x n 1).size=n.toNat:=getS_size n0 hg;have hsz2:(Sp.getS E.A x n 1).size<140737488355328:=by omega
  have hv1:Co.send K E x n=if Ni.portB (Sp.getS E.A x n 1)=false∨Gp.hasPort (K.g E.num) (Ni.portV (Sp.getS E.A x n 1) 20)=false then Co.no K E 1 else⟨n,0, {K with N:=Ni.sendS K.N (Sp.getS E.A x n 1)},E,2,Sp.getS E.A x n 1⟩:=by
   unfold Co.send Kn.bytes;rw[if_neg hn,if_neg hz,if_pos hg]
  rw[hg] at HGt;clear hg hsz;generalize Sp.getS E.A x n 1=s at*;have HFr:=Lh fun V=>fromP s hsz2 V
  have HSs:=Lh fun V hV=>HSe.out s hsz2 V hV
  have HSy:=Lh fun V V' hV hp=>HSt.out s V V' hV hp
  obtain⟨p,hp⟩:∃p,Ni.portV s 20=p:=⟨_,rfl⟩;rw[hp] at HFr hv1;clear hp HSe HSt hsz2;cases hpb:Ni.portB s with
  |false=>
   have HV:Hid ((Co.send K E x n).y=1∧(Co.send K E x n).s=ByteArray.empty∧(Co.send K E x n).K=K∧(Co.send K E x n).E=E):=Lh (by rw[hv1,if_pos (.inl hpb)];exact⟨rfl,rfl,rfl,rfl⟩);generalize CoT w a e R (Co.send K E x n)=PQ at*;rw[hpb] at HFr;clear hv1 hpb;go_enter func109,ntmps109;go_wp2_with fail;refine HGt.out.mono ?_;rintro r w1 ⟨rfl,hb1⟩;go_wp2_with fail;refine(HFr.out _).mono ?_;rintro r w2 ⟨rfl,hb2⟩;have HB:=Lh (bQ hb1 hb2);clear hb1 hb2;go_wp2;go_quiet (fail);have hend:=HFin.out _ _ _ _ _ _ _ _ (H0.out.below (bQ HB.out (Rn.below_drewN _ nq))) HV.out;go_wp2
   first
    |exact hend
    |(go_ret2;exact hend)
  |true=>
   rw[hpb] at HFr;cases hpo:Gp.hasPort (K.g E.num) p with
   |false=>
    have HV:Hid ((Co.send K E x n).y=1∧(Co.send K E x n).s=ByteArray.empty∧(Co.send K E x n).K=K∧(Co.send K E x n).E=E):=Lh (by rw[hv1,if_pos (.inr hpo)];exact⟨rfl,rfl,rfl,rfl⟩);generalize CoT w a e R (Co.send K E x n)=PQ at*;clear hv1 hpb;go_enter func109,ntmps109;go_wp2_with fail;refine HGt.out.mono ?_;rintro r w1 ⟨rfl,hb1⟩;go_wp2_with fail;refine(HFr.out _).mono ?_;rintro r w2 ⟨rfl,hb2⟩;have hb:=bQ hb1 hb2;have HB:=Lh hb;have HBd:=Lh (bQ hb (Br.drew));obtain⟨d0,_⟩:=HC.out _ hb;have d9:=HE.out _ hb;clear hb hb1 hb2;go_wp2;refine B (fun V=>V.cell? ⟨a.kb,0,none⟩=some (.pointer (some ⟨a.c.rb,0,none⟩))∧V.cell? ⟨e.eb,0,none⟩=some (.int .i64 E.num)∧True) ⟨d0,d9,trivial⟩ fun wd hwd hS=> ?_
    subst hwd;refine T 0 hS ?_;refine T 1 hS ?_;refine T 2 hS ?_;refine T 3 hS ?_;refine T 4 hS ?_;refine T 5 hS ?_;refine T 6 hS ?_;refine T 7 hS ?_;refine T 8 hS ?_;refine T 9 hS ?_;refine T 10 hS ?_;refine T 11 hS ?_;refine U 12 fun Kq hKq=> ?_
    go_simp;go_at_call 214;refine(HPo.out p _ HBd.out).mono ?_;rintro r w3 ⟨rfl,hb3⟩;rw[hpo];have HBp:=Lh (bQ HBd.out hb3);have hS3:w3.cell? ⟨a.kb,0,none⟩=some (.pointer (some ⟨a.c.rb,0,none⟩))∧w3.cell? ⟨e.eb,0,none⟩=some (.int .i64 E.num)∧True:=⟨cQ hb3 hS.1,cQ hb3 hS.2.1,trivial⟩;clear hb3 hS;refine V hKq hS3 ?_;clear hKq Kq;refine T 13 hS3 ?_;refine T 14 hS3 ?_;refine wpAnyH_done (by kernel_rfl) ?_ _;clear hS3 d0 d9;have hend:=HFin.out _ _ _ _ _ _ _ _ (H0.out.below HBp.out) HV.out;go_wp2
    first
     |exact hend
     |(go_ret2;exact hend)
   |true=>
    have HV:Hid ((Co.send K E x n).y=0∧(Co.send K E x n).s=s∧(Co.send K E x n).K= {K with N:=Ni.sendS K.N s}∧(Co.send K E x n).E=E):=Lh (by rw[hv1,if_neg (by rw[hpb,hpo];simp)];exact⟨rfl,rfl,rfl,rfl⟩);generalize CoT w a e R (Co.send K E x n)=PQ at*;clear hv1 hpb;go_enter func109,ntmps109;go_wp2_with fail;refine HGt.out.mono ?_;rintro r w1 ⟨rfl,hb1⟩;go_wp2_with fail;refine(HFr.out _).mono ?_;rintro r w2 ⟨rfl,hb2⟩;have hb:=bQ hb1 hb2;have HB:=Lh hb;have HBd:=Lh (bQ hb (Br.drew));obtain⟨d0,_⟩:=HC.out _ hb;have d9:=HE.out _ hb;clear hb hb1 hb2;go_wp2;refine B (fun V=>V.cell? ⟨a.kb,0,none⟩=some (.pointer (some ⟨a.c.rb,0,none⟩))∧V.cell? ⟨e.eb,0,none⟩=some (.int .i64 E.num)∧True) ⟨d0,d9,trivial⟩ fun wd hwd hS=> ?_
    subst hwd;refine T 0 hS ?_;refine T 1 hS ?_;refine T 2 hS ?_;refine T 3 hS ?_;refine T 4 hS ?_;refine T 5 hS ?_;refine T 6 hS ?_;refine T 7 hS ?_;refine T 8 hS ?_;refine T 9 hS ?_;refine T 10 hS ?_;refine T 11 hS ?_;refine U 12 fun Kq hKq=> ?_
    go_simp;go_at_call 214;refine(HPo.out p _ HBd.out).mono ?_;rintro r w3 ⟨rfl,hb3⟩;rw[hpo];have HBp:=Lh (bQ HBd.out hb3);have hS3:w3.cell? ⟨a.kb,0,none⟩=some (.pointer (some ⟨a.c.rb,0,none⟩))∧w3.cell? ⟨e.eb,0,none⟩=some (.int .i64 E.num)∧True:=⟨cQ hb3 hS.1,cQ hb3 hS.2.1,trivial⟩;clear hb3 hS;refine V hKq hS3 ?_;clear hKq Kq;refine T 13 hS3 ?_;refine T 14 hS3 ?_;refine wpAnyH_done (by kernel_rfl) ?_ _;clear hS3 d0 d9;obtain⟨_,d1,_,_⟩:=HC.out _ HBp.out;go_wp2_with fail;refine(HSs.out _ HBp.out).mono ?_;rintro r w4 ⟨rfl,hps⟩;obtain⟨a2,hds⟩:=HSy.out _ _ HBp.out hps;have hend:=HFin.out _ _ _ _ _ _ _ _ hds HV.out;clear hps hds;go_wp2
    first
     |exact hend
     |(go_ret2;exact hend)
 ·have HV:Hid ((Co.send K E x n).y=2∧(Co.send K E x n).s=ByteArray.empty∧(Co.send K E x n).K=K∧(Co.send K E x n).E=E):=Lh (by unfold Co.send Kn.bytes;rw[if_neg hn,if_neg hz,if_neg hg];exact⟨rfl,rfl,rfl,rfl⟩);generalize CoT w a e R (Co.send K E x n)=PQ at*;have gb:(Sp.getE E.A x n 1 != 0)=true:=bne_iff_ne.2 hg;clear hg;generalize Sp.getS E.A x n 1=s at*;generalize Sp.getE E.A x n 1=ge at*;go_enter func109,ntmps109;go_wp2_with fail;refine HGt.out.mono ?_;rintro r w1 ⟨rfl,hb1⟩;have hend:=HFin.out _ _ _ _ _ _ _ _ (H0.out.below hb1) HV.out;clear hb1;go_wp2
  first
   |exact hend
   |(go_ret2;exact hend)
end
end Rk
namespace Rk
section
variable {w:World} {a:RkAt} {K:Kn} {e:RAt} {R:List Rp} {E:En}
theorem popM{S:Ni.NicS}{p y:Int}{t:ByteArray}(h:t∈(Ni.popS S p).q y):t∈S.q y:=by
 unfold Ni.popS at h;cases hq:S.q p with
 |nil=>rw[hq] at h;exact h
 |cons s r=>
  rw[hq] at h;have h:t∈Ni.updQ S.q p r y:=h
  by_cases e:y=p
  ·rw[e,Ni.updQ_same] at h;rw[e,hq];exact List.mem_cons_of_mem _ h
  ·rw[Ni.updQ_other _ _ _ e] at h;exact h
theorem popG{S:Ni.NicS}{p:Int}(h:0≤S.gone):0≤(Ni.popS S p).gone:=by
 unfold Ni.popS;cases S.q p<;>exact h
def CoV(w:World)(a:RkAt)(e:RAt)(R:List Rp)(c:Co)(r:Ending)(w':World):Prop:=
 ∃a' e' R',r=.returned (.tuple #[.int .u32 c.y,.int .u32 c.v])∧DkStep w w' a e R a' c.K e' R' c.E
theorem CoV.of{c:Co}{a':RkAt}{e':RAt}{R':List Rp}{w':World}{y v:Int}{K':Kn}{E':En}(hc:c.y=y∧c.v=v∧c.K=K'∧c.E=E')(h:DkStep w w' a e R a' K' e' R' E'):CoV w a e R c (.returned (.tuple #[.int .u32 y,.int .u32 v])) w':=by
 obtain⟨rfl,rfl,rfl,rfl⟩:=hc;exact⟨a',e',R',rfl,h⟩
theorem recv(h:DKE w a K e R E)(p x m:Int)(p0:0≤p)(p1:p≤4294967295)(x0:0≤x)(x1:x≤4294967295)(m0:0≤m)(m1:m≤4294967295):
  Calls Tryz.prog 110 #[.pointer (some ⟨a.kb,0,none⟩),.pointer (some ⟨e.eb,0,none⟩),.int .u32 p,.int .u32 x,.int .u32 m] w (CoV w a e R (Co.recv K E p x m)):=by
 obtain⟨e0,e1,_⟩:=Rv.cells h.en;obtain⟨c0,c1,_⟩:=h.kn.cells;have HFin:Hid (∀V y v a' K' e' R' E',DkStep w V a e R a' K' e' R' E'→(Co.recv K E p x m).y=y∧(Co.recv K E p x m).v=v∧(Co.recv K E p x m).K=K'∧(Co.recv K E p x m).E=E'→CoV w a e R (Co.recv K E p x m) (.returned (.tuple #[.int .u32 y,.int .u32 v])) V):=Lh fun V y v a' K' e' R' E' s q=>CoV.of q s
 have H0:=Lh (DkStep.refl h);have hd:Below w.heap.size w w.drew:=Br.drew
 by_cases hp:65535<p
 ·have HV:Hid ((Co.recv K E p x m).y=1∧(Co.recv K E p x m).v=0∧(Co.recv K E p x m).K=K∧(Co.recv K E p x m).E=E):=Lh (by unfold Co.recv;rw[if_pos (.inl hp)];exact⟨rfl,rfl,rfl,rfl⟩);generalize CoV w a e R (Co.recv K E p x m)=PQ at*;clear h;go_enter func110,ntmps110;go_wp2;go_quiet (fail);have hend:=HFin.out _ _ _ _ _ _ _ _ (H0.out.below (Rn.below_drewN _ nq)) HV.out;go_wp2
  first
   |exact hend
   |(go_ret2;exact hend)
 have hpd:decide (65535<p)=false:=decide_eq_false hp;have r1:p % 65536=p:=Int.emod_eq_of_lt p0 (by omega);have r2:p.tmod 65536=p:=by rw[Int.tmod_eq_emod_of_nonneg p0];exact r1
 have wp16:IntKind.u16.wrap p=p:=Rn.wrap16 p0 (by omega);have wp32:IntKind.u32.wrap p=p:=wrap32 p0 (by omega);have HPo:=Lh (Rc.port (h.kn.below hd).caps E.num p);have HC:=Lh fun V (hV:Below w.heap.size w V)=>(h.below hV).kn.cells
 have HE:=Lh fun V (hV:Below w.heap.size w V)=>Rv.cells (h.below hV).en
 have HNx:=Lh fun V (hV:Below w.heap.size w V)=>Rn.next (h.below hV).kn.nic p
 have HDk:=Lh fun V (hV:Below w.heap.size w V)=>h.below hV
 have hqs:=h.kn.ok.q p;have HEq:=Lh h.en.eq;clear h;cases hpo:Gp.hasPort (K.g E.num) p with
 |false=>
  have HV:Hid ((Co.recv K E p x m).y=1∧(Co.recv K E p x m).v=0∧(Co.recv K E p x m).K=K∧(Co.recv K E p x m).E=E):=Lh (by unfold Co.recv;rw[if_pos (.inr hpo)];exact⟨rfl,rfl,rfl,rfl⟩);generalize CoV w a e R (Co.recv K E p x m)=PQ at*;rw[hpo] at HPo;clear hpo;go_enter func110,ntmps110;go_wp2;refine B (fun V=>V.cell? ⟨a.kb,0,none⟩=some (.pointer (some ⟨a.c.rb,0,none⟩))∧V.cell? ⟨e.eb,0,none⟩=some (.int .i64 E.num)∧True) ⟨c0,e0,trivial⟩ fun wd hwd hS=> ?_
  subst hwd;refine T 0 hS ?_;refine T 1 hS ?_;refine T 2 hS ?_;refine T 3 hS ?_;refine T 4 hS ?_;refine T 5 hS ?_;refine T 6 hS ?_;refine T 7 hS ?_;refine T 8 hS ?_;refine T 9 hS ?_;refine T 10 hS ?_;refine T 11 hS ?_;refine T 12 hS ?_;refine T 13 hS ?_;refine U 14 fun Kq hKq=> ?_
  go_simp;go_at_call 214;refine HPo.out.mono ?_;rintro r w3 ⟨rfl,hb3⟩;have HBp:=Lh (bQ hd hb3);have hS3:w3.cell? ⟨a.kb,0,none⟩=some (.pointer (some ⟨a.c.rb,0,none⟩))∧w3.cell? ⟨e.eb,0,none⟩=some (.int .i64 E.num)∧True:=⟨cQ hb3 hS.1,cQ hb3 hS.2.1,trivial⟩;clear hb3 hS;refine V hKq hS3 ?_;clear hKq Kq;refine T 15 hS3 ?_;refine T 16 hS3 ?_;refine wpAnyH_done (by kernel_rfl) ?_ _;clear hS3;have hend:=HFin.out _ _ _ _ _ _ _ _ (H0.out.below HBp.out) HV.out;go_wp2
  first
   |exact hend
   |(go_ret2;exact hend)
 |true=>
  have hno:¬(65535<p∨Gp.hasPort (K.g E.num) p=false):=by rw[hpo];simp;omega
  rw[hpo] at HPo;clear hpo;cases hq:K.N.q p with
  |nil=>
   have HV:Hid ((Co.recv K E p x m).y=3∧(Co.recv K E p x m).v=0∧(Co.recv K E p x m).K=K∧(Co.recv K E p x m).E=E):=Lh (by unfold Co.recv;rw[if_neg hno,hq];exact⟨rfl,rfl,rfl,rfl⟩);generalize CoV w a e R (Co.recv K E p x m)=PQ at*;have q1:Ni.nextS K.N p=ByteArray.empty:=by unfold Ni.nextS;rw[hq]
   have q2:Ni.nextB K.N p=false:=by unfold Ni.nextB;rw[hq]
   rw[q1,q2] at HNx;clear hno hq q1 q2 hqs;go_enter func110,ntmps110;go_wp2;refine B (fun V=>V.cell? ⟨a.kb,0,none⟩=some (.pointer (some ⟨a.c.rb,0,none⟩))∧V.cell? ⟨e.eb,0,none⟩=some (.int .i64 E.num)∧True) ⟨c0,e0,trivial⟩ fun wd hwd hS=> ?_
   subst hwd;refine T 0 hS ?_;refine T 1 hS ?_;refine T 2 hS ?_;refine T 3 hS ?_;refine T 4 hS ?_;refine T 5 hS ?_;refine T 6 hS ?_;refine T 7 hS ?_;refine T 8 hS ?_;refine T 9 hS ?_;refine T 10 hS ?_;refine T 11 hS ?_;refine T 12 hS ?_;refine T 13 hS ?_;refine U 14 fun Kq hKq=> ?_
   go_simp;go_at_call 214;refine HPo.out.mono ?_;rintro r w3 ⟨rfl,hb3⟩;have HBp:=Lh (bQ hd hb3);have hS3:w3.cell? ⟨a.kb,0,none⟩=some (.pointer (some ⟨a.c.rb,0,none⟩))∧w3.cell? ⟨e.eb,0,none⟩=some (.int .i64 E.num)∧True:=⟨cQ hb3 hS.1,cQ hb3 hS.2.1,trivial⟩;clear hb3 hS;refine V hKq hS3 ?_;clear hKq Kq;refine T 15 hS3 ?_;refine T 16 hS3 ?_;refine wpAnyH_done (by kernel_rfl) ?_ _;clear hS3;obtain⟨_,d1,_⟩:=HC.out _ HBp.out;obtain⟨_,d2,_⟩:=HE.out _ HBp.out;go_wp2_with fail;refine(HNx.out _ HBp.out).mono ?_;rintro r w4 ⟨rfl,rfl⟩;have hend:=HFin.out _ _ _ _ _ _ _ _ (H0.out.below HBp.out) HV.out;go_wp2
   first
    |exact hend
    |(go_ret2;exact hend)
  |cons s r=>
   have hss:s.size≤128:=hqs s (by rw[hq];exact List.mem_cons_self ..);have q1:Ni.nextS K.N p=s:=by unfold Ni.nextS;rw[hq]
   have q2:Ni.nextB K.N p=true:=by unfold Ni.nextB;rw[hq]
   rw[q1,q2] at HNx;have ws:IntKind.u32.wrap (s.size:Int)=s.size:=wrap32 (by omega) (by omega);have hv1:Co.recv K E p x m=if m<s.size then Co.no K E 5 else if Sp.fitsE E.A x s.size 2≠0 then Co.no K E 2 else⟨s.size,0, {K with N:=Ni.popS K.N p}, {E with A:=Sp.putA E.A x 2 s},0,ByteArray.empty⟩:=by
    unfold Co.recv;rw[if_neg hno,hq]
   have HPp:=Lh fun V K2 a2 e2 R2 E2 (hV:DkStep w V a e R a2 K2 e2 R2 E2)=>Rn.pop hV.j.kn.nic p
   clear hno hq q1 q2 hqs
   by_cases hm:m<s.size
   ·have HV:Hid ((Co.recv K E p x m).y=5∧(Co.recv K E p x m).v=0∧(Co.recv K E p x m).K=K∧(Co.recv K E p x m).E=E):=Lh (by rw[hv1,if_pos hm];exact⟨rfl,rfl,rfl,rfl⟩);generalize CoV w a e R (Co.recv K E p x m)=PQ at*;clear hv1;go_enter func110,ntmps110;go_wp2;refine B (fun V=>V.cell? ⟨a.kb,0,none⟩=some (.pointer (some ⟨a.c.rb,0,none⟩))∧V.cell? ⟨e.eb,0,none⟩=some (.int .i64 E.num)∧True) ⟨c0,e0,trivial⟩ fun wd hwd hS=> ?_
    subst hwd;refine T 0 hS ?_;refine T 1 hS ?_;refine T 2 hS ?_;refine T 3 hS ?_;refine T 4 hS ?_;refine T 5 hS ?_;refine T 6 hS ?_;refine T 7 hS ?_;refine T 8 hS ?_;refine T 9 hS ?_;refine T 10 hS ?_;refine T 11 hS ?_;refine T 12 hS ?_;refine T 13 hS ?_;refine U 14 fun Kq hKq=> ?_
    go_simp;go_at_call 214;refine HPo.out.mono ?_;rintro r w3 ⟨rfl,hb3⟩;have HBp:=Lh (bQ hd hb3);have hS3:w3.cell? ⟨a.kb,0,none⟩=some (.pointer (some ⟨a.c.rb,0,none⟩))∧w3.cell? ⟨e.eb,0,none⟩=some (.int .i64 E.num)∧True:=⟨cQ hb3 hS.1,cQ hb3 hS.2.1,trivial⟩;clear hb3 hS;refine V hKq hS3 ?_;clear hKq Kq;refine T 15 hS3 ?_;refine T 16 hS3 ?_;refine wpAnyH_done (by kernel_rfl) ?_ _;clear hS3;obtain⟨_,d1,_⟩:=HC.out _ HBp.out;obtain⟨_,d2,_⟩:=HE.out _ HBp.out;go_wp2_with fail;refine(HNx.out _ HBp.out).mono ?_;rintro r w4 ⟨rfl,rfl⟩;have hend:=HFin.out _ _ _ _ _ _ _ _ (H0.out.below HBp.out) HV.out;go_wp2
    first
     |exact hend
     |(go_ret2;exact hend)
   ·rw[if_neg hm] at hv1;have HPt:=Lh fun V (hV:Below w.heap.size w V)=>Rs.put_in (HDk.out V hV).en.rp x 2 s x0 x1 (by omega) (by omega) (by omega)
    rw[HEq.out] at HPt;have HRt:=Lh fun V (hV:Below w.heap.size w V) V' R' (g:RStep V V' e.rb e.lv R e.lv R') (q:rpgs R'=Sp.putA E.A x 2 s)=>(H0.out.below hV).right (rv_put (HDk.out V hV).en g (by rw[HEq.out];exact q))
    by_cases hf:Sp.fitsE E.A x s.size 2=0
    ·have HV:Hid ((Co.recv K E p x m).y=0∧(Co.recv K E p x m).v=s.size∧(Co.recv K E p x m).K= {K with N:=Ni.popS K.N p}∧(Co.recv K E p x m).E= {E with A:=Sp.putA E.A x 2 s}):=Lh (by rw[hv1,if_neg (by rw[hf];decide)];exact⟨rfl,rfl,rfl,rfl⟩);generalize CoV w a e R (Co.recv K E p x m)=PQ at*;rw[hf] at HPt;clear hv1 hf;go_enter func110,ntmps110;go_wp2;refine B (fun V=>V.cell? ⟨a.kb,0,none⟩=some (.pointer (some ⟨a.c.rb,0,none⟩))∧V.cell? ⟨e.eb,0,none⟩=some (.int .i64 E.num)∧True) ⟨c0,e0,trivial⟩ fun wd hwd hS=> ?_
     subst hwd;refine T 0 hS ?_;refine T 1 hS ?_;refine T 2 hS ?_;refine T 3 hS ?_;refine T 4 hS ?_;refine T 5 hS ?_;refine T 6 hS ?_;refine T 7 hS ?_;refine T 8 hS ?_;refine T 9 hS ?_;refine T 10 hS ?_;refine T 11 hS ?_;refine T 12 hS ?_;refine T 13 hS ?_;refine U 14 fun Kq hKq=> ?_
     go_simp;go_at_call 214;refine HPo.out.mono ?_;rintro r w3 ⟨rfl,hb3⟩;have HBp:=Lh (bQ hd hb3);have hS3:w3.cell? ⟨a.kb,0,none⟩=some (.pointer (some ⟨a.c.rb,0,none⟩))∧w3.cell? ⟨e.eb,0,none⟩=some (.int .i64 E.num)∧True:=⟨cQ hb3 hS.1,cQ hb3 hS.2.1,trivial⟩;clear hb3 hS;refine V hKq hS3 ?_;clear hKq Kq;refine T 15 hS3 ?_;refine T 16 hS3 ?_;refine wpAnyH_done (by kernel_rfl) ?_ _;clear hS3;obtain⟨_,d1,_⟩:=HC.out _ HBp.out;obtain⟨_,d2,_⟩:=HE.out _ HBp.out;go_wp2_with fail;refine(HNx.out _ HBp.out).mono ?_;rintro r w4 ⟨rfl,rfl⟩;go_wp2_with fail;refine(HPt.out _ HBp.out).mono ?_;rintro r w4 ⟨R',rfl,hR',hs3⟩;have hds:=HRt.out _ HBp.out _ _ hs3 hR';have f1:=hds.j.kn.cells.2.1;have HDs:=Lh hds;clear hds hs3 hR';go_wp2_with fail;refine(HPp.out _ _ _ _ _ _ HDs.out).mono ?_;rintro r w5 ⟨rfl,hpo5⟩;obtain⟨a2,hst⟩:=RkStep.setNic HDs.out.j.kn hpo5 (fun y t ht=>HDs.out.j.kn.ok.q y t (popM ht)) (popG HDs.out.j.kn.ok.g0);have hend:=HFin.out _ _ _ _ _ _ _ _ (HDs.out.left hst) HV.out;clear hpo5 hst;go_wp2
     first
      |exact hend
      |(go_ret2;exact hend)
    ·have HV:Hid ((Co.recv K E p x m).y=2∧(Co.recv K E p x m).v=0∧(Co.recv K E p x m).K=K∧(Co.recv K E p x m).E= {E with A:=Sp.putA E.A x 2 s}):=Lh (by rw[hv1,if_pos hf,putA_same hf];exact⟨rfl,rfl,rfl,rfl⟩);generalize CoV w a e R (Co.recv K E p x m)=PQ at*;have fb:(Sp.fitsE E.A x s.size 2 != 0)=true:=bne_iff_ne.2 hf;clear hv1 hf;generalize Sp.fitsE E.A x s.size 2=z at*;go_enter func110,ntmps110;go_wp2;refine B (fun V=>V.cell? ⟨a.kb,0,none⟩=some (.pointer (some ⟨a.c.rb,0,none⟩))∧V.cell? ⟨e.eb,0,none⟩=some (.int .i64 E.num)∧True) ⟨c0,e0,trivial⟩ fun wd hwd hS=> ?_
     subst hwd;refine T 0 hS ?_;refine T 1 hS ?_;refine T 2 hS ?_;refine T 3 hS ?_;refine T 4 hS ?_;refine T 5 hS ?_;refine T 6 hS ?_;refine T 7 hS ?_;refine T 8 hS ?_;refine T 9 hS ?_;refine T 10 hS ?_;refine T 11 hS ?_;refine T 12 hS ?_;refine T 13 hS ?_;refine U 14 fun Kq hKq=> ?_
     go_simp;go_at_call 214;refine HPo.out.mono ?_;rintro r w3 ⟨rfl,hb3⟩;have HBp:=Lh (bQ hd hb3);have hS3:w3.cell? ⟨a.kb,0,none⟩=some (.pointer (some ⟨a.c.rb,0,none⟩))∧w3.cell? ⟨e.eb,0,none⟩=some (.int .i64 E.num)∧True:=⟨cQ hb3 hS.1,cQ hb3 hS.2.1,trivial⟩;clear hb3 hS;refine V hKq hS3 ?_;clear hKq Kq;refine T 15 hS3 ?_;refine T 16 hS3 ?_;refine wpAnyH_done (by kernel_rfl) ?_ _;clear hS3;obtain⟨_,d1,_⟩:=HC.out _ HBp.out;obtain⟨_,d2,_⟩:=HE.out _ HBp.out;go_wp2_with fail;refine(HNx.out _ HBp.out).mono ?_;rintro r w4 ⟨rfl,rfl⟩;go_wp2_with fail;refine(HPt.out _ HBp.out).mono ?_;rintro r w4 ⟨R',rfl,hR',hs3⟩;have hds:=HRt.out _ HBp.out _ _ hs3 hR';have hend:=HFin.out _ _ _ _ _ _ _ _ hds HV.out;clear hds hs3 hR';go_wp2
     first
      |exact hend
      |(go_ret2;exact hend)
end
end Rk
end Go.Proofs.YtjjdjpdmgaipeaaGreat
