/- R19F, RnP, R20, R22, R22B in one text. -/
import Derived.Test.YtnpicaigdfnmfaaGreatPnR19D
import Derived.Test.YtnpicaigdfnmfaaGreatPnRspF
import Derived.Test.YtnpicaigdfnmfaaGreatPnGrantG
import Derived.Test.YtnpicaigdfnmfaaGreatPnGraG
import Derived.Test.YtnpicaigdfnmfaaGreatPnZa
set_option linter.unusedVariables false
set_option linter.unusedSimpArgs false
set_option maxRecDepth 100000
set_option maxHeartbeats 16000000
open Go.Proofs.Tryz
namespace Go.Proofs.YtnpicaigdfnmfaaGreat
open Go.RowKit
namespace Rc
section
variable {w:World} {a:RcAt} {hp:Int} {G:Int→Option Gr}
theorem okPut(h:Gp.OkG hp G){n pg:Int}{m:Mn}(n1:1≤n)(n8:n≤8)(hn:G n=none)(hm:m.ok)(hc:Gp.checkE m=0)(p0:0≤pg)(hf:Gp.sum G+(m.pages+pg)≤hp):Gp.OkG hp (Gp.upd G n (some ⟨m,pg,0⟩)):=by
 refine⟨fun k=> ?_,fun k hk=> ?_, ?_,fun k g hg=> ?_,h.h1⟩
 ·by_cases e:k=n
  ·subst e;rw[Gp.upd_at];intro g hg;cases hg;exact⟨hm,Int.le_refl 0,hm.p0,p0⟩
  ·rw[Gp.upd_ne _ _ e];exact h.ok k
 ·by_cases e:k=n
  ·subst e;exact⟨n1,n8⟩
  ·rw[Gp.upd_ne _ _ e] at hk;exact h.dom k hk
 ·rw[Gp.sum_put n1 n8,hn]
  show Gp.sum G+(m.pages+pg - 0)≤hp
  omega
 ·by_cases e:k=n
  ·subst e;rw[Gp.upd_at] at hg;cases hg;exact hc
  ·rw[Gp.upd_ne _ _ e] at hg;exact h.may k g hg
def RgP(w:World)(a:RcAt)(hp:Int)(hx:List Int)(G:Int→Option Gr)(n:Int)(m:Mn)(pg:Int)(e:Ending)(w':World):Prop:=
 (Ca.grantE hp hx G n m pg≠0∧e=.returned (.int .i64 (Ca.grantE hp hx G n m pg))∧Below w.heap.size w w')∨
 (Ca.grantE hp hx G n m pg=0∧e=.returned (.int .i64 0)∧∃a',Rcs w' a' hp (Gp.upd G n (some ⟨m,pg,0⟩))∧a'.rb=a.rb∧a'.hv=a.hv∧(∀k,a'.rf k→a.rf k∨w.heap.size≤k∧k<w'.heap.size)∧(∀k,a'.lv.ownBlock=some k→w.heap.size≤k∧k<w'.heap.size)∧Mod (fun k=>k=a.rb) w w')
theorem gap(h:Rcs w a hp G){n:Int}(n1:1≤n)(n8:n≤8)(hn:G n=none):(lo G n).length≤a.L.length∧(∀(i:Nat) (x:RcE),a.L[i]? =some x→(i<(lo G n).length→x.n<n)∧((lo G n).length≤i→n<x.n)):=by
 have hk:=h.can;rw[canon_none n1 n8 hn] at hk;refine⟨?_,fun i x hx=>⟨fun hi=> ?_,fun hi=> ?_⟩⟩
 ·have:=congrArg List.length hk;rw[List.length_map,List.length_append] at this;omega
 ·have hki:(a.L.map RcE.key)[i]? =some x.key:=by rw[List.getElem?_map,hx];rfl
  rw[hk,List.getElem?_append_left hi] at hki;exact(mem_lo (List.mem_of_getElem? hki)).1
 ·have hki:(a.L.map RcE.key)[i]? =some x.key:=by rw[List.getElem?_map,hx];rfl
  rw[hk,List.getElem?_append_right hi] at hki;exact(mem_hi (List.mem_of_getElem? hki)).1
theorem can_put(h:Rcs w a hp G){n pg:Int}{m:Mn}{ev pv:Value}(n1:1≤n)(n8:n≤8)(hn:G n=none):((a.L.take (lo G n).length++[(⟨n,⟨m,pg,0⟩,ev,pv⟩:RcE)])++a.L.drop (lo G n).length).map RcE.key=canon (Gp.upd G n (some ⟨m,pg,0⟩)):=by
 rw[canon_put n1 n8,List.map_append,List.map_append,List.map_take,List.map_drop,h.can,canon_none n1 n8 hn,List.take_left' rfl,List.drop_left' rfl];simp[RcE.key]
theorem fin_put(h:Rcs w a hp G){n pg:Int}{m:Mn}{q:Nat}{ev pv:Value}(hq:q≤a.L.length)(hcan:((a.L.take q++[(⟨n,⟨m,pg,0⟩,ev,pv⟩:RcE)])++a.L.drop q).map RcE.key=canon (Gp.upd G n (some ⟨m,pg,0⟩)))(hok:Gp.OkG hp (Gp.upd G n (some ⟨m,pg,0⟩)))
  {W:World} (hb:Below w.heap.size w W) {o9:Option Addr} {c9:Nat} (hs:SlV W 351 7 (.slice o9 (q+1) c9) (q+1) (rcC (a.L.take q)++(⟨n,⟨m,pg,0⟩,ev,pv⟩:RcE).cells)) (hown:∀k,(Value.slice o9 (q+1) c9).ownBlock=some k→w.heap.size≤k∧k<W.heap.size)
  (hmn:MnAt W ev pv m) (hnew:∀k,ev.ownBlock=some k∨pv.ownBlock=some k→w.heap.size≤k∧k<W.heap.size) {ao:Option Addr} {ac:Nat} (hlv:a.lv=.slice ao a.L.length ac) (A:Option Addr) (cap:Nat) (hA:q<a.L.length→∃g off,ao=some ⟨g,off,none⟩∧A=some ⟨g,off+q*7,none⟩):
  ∃o10 c10 W10,(Builtin.append_ #[298,298] 298 #[.slice o9 (q+1) c9,.slice A (a.L.length - q) cap]).run Tryz.prog W=.ok (.slice o10 (q+1+(a.L.length - q)) c10) W10∧
   W10.cell? ⟨a.rb,2,none⟩=some (.slice ao a.L.length ac)∧W10.frozen? ⟨a.rb,2,none⟩=false∧
   (∃a',Rcs (W10.setCell ⟨a.rb,2,none⟩ (.slice o10 (q+1+(a.L.length - q)) c10)) a' hp (Gp.upd G n (some ⟨m,pg,0⟩))∧a'.rb=a.rb∧a'.hv=a.hv∧(∀k,a'.rf k→a.rf k∨w.heap.size≤k∧k<(W10.setCell ⟨a.rb,2,none⟩ (.slice o10 (q+1+(a.L.length - q)) c10)).heap.size)∧(∀k,a'.lv.ownBlock=some k→w.heap.size≤k∧k<(W10.setCell ⟨a.rb,2,none⟩ (.slice o10 (q+1+(a.L.length - q)) c10)).heap.size)∧Mod (fun k=>k=a.rb) w (W10.setCell ⟨a.rb,2,none⟩ (.slice o10 (q+1+(a.L.length - q)) c10))):=by
 obtain⟨i0,hi0',hz0,hz1,hz2⟩:=info_parts info_gr;have h9:=h.below hb;have hl:=h.len;have hrow:=h9.row;rw[hlv] at hrow;obtain⟨o10,c10,W10,hr,hs10,hm10,ho10⟩:=Rw.app (W:=W) (t:=298) Rw.none_gr Tryz.underlying298 hi0' hz0 hz1 hz2 rfl (by omega) (by omega) hs (m:=a.L.length - q) (cap:=cap) (ys:=(rcC a.L).drop (q*7)) (by rw[List.length_drop,rcC_len];omega) (a:=A) (by
  rcases Nat.lt_or_ge q a.L.length with z|z
  ·obtain⟨g,off,rfl,rfl⟩:=hA z;have:=Rw.at_part hrow rfl q a.L.length (by omega) (Nat.le_refl _);rw[List.take_of_length_le (by rw[List.length_drop,rcC_len];omega)] at this;exact this
  ·intro k u hu;rw[List.drop_eq_nil_of_le (by rw[rcC_len];omega)] at hu;simp at hu) (by omega) (fun u hu=>one_cells h u (List.mem_of_mem_drop hu))
 have hfr:∀k,k<w.heap.size→(Value.slice o9 (q+1) c9).ownBlock≠some k:=fun k hk e=>by have:=(hown k e).1;omega
 have hbW:Below w.heap.size w W10:=Mod.below hb hm10 hb.size fun k _ e=>(hown k e).1
 have h10:=h.below hbW;refine⟨o10,c10,W10,hr,by rw[h10.cells.2.2.1,hlv],h10.cells.2.2.2 2, ?_⟩;have hlen:q+1+(a.L.length - q)=((a.L.take q++[(⟨n,⟨m,pg,0⟩,ev,pv⟩:RcE)])++a.L.drop q).length:=by simp;omega
 have hs2:SlV W10 351 7 (.slice o10 (q+1+(a.L.length - q)) c10) ((a.L.take q++[(⟨n,⟨m,pg,0⟩,ev,pv⟩:RcE)])++a.L.drop q).length (rcC ((a.L.take q++[(⟨n,⟨m,pg,0⟩,ev,pv⟩:RcE)])++a.L.drop q)):=by
  rw[←hlen,rcC_app,rcC_app,rcC_drop,show rcC [(⟨n,⟨m,pg,0⟩,ev,pv⟩:RcE)]=(⟨n,⟨m,pg,0⟩,ev,pv⟩:RcE).cells by unfold rcC;simp];exact hs10
 have hm10m:MnAt W10 ev pv m:=by
  have hc:∃cc,W.heap.size=cc:=⟨_,rfl⟩;have hk:∀ {ty:TypeId} {s n:Nat} {v:Value} {xs:List Value},SlV W ty s v n xs→351≠ty→SlV W10 ty s v n xs:=fun hsl hty=>by
   refine⟨hsl.1, ?_⟩;rcases hsl.2 with z|⟨g',o',c',cu',rfl,hgg,rest⟩
   ·exact .inl z
   ·refine .inr ⟨g',o',c',cu',rfl,(hm10.block _ (lQ hgg) (fun e=> ?_)).trans hgg,rest⟩;rcases hs.2 with⟨z,_⟩|⟨g2,o2,c2,cu2,e2,hg2,_⟩
    ·omega
    ·rw[e2] at e;cases e;rw[hg2] at hgg;cases hgg;exact hty rfl
  exact⟨hk hmn.e (by decide),hk hmn.p (by decide)⟩
 obtain⟨r1,r2⟩:=newRow h hbW hs2 (fun y hy=>by
  rcases List.mem_append.1 hy with z|z
  ·rcases List.mem_append.1 z with z|z
   ·exact(h.mns y (List.mem_of_mem_take z)).below hbW
   ·simp at z;subst z;exact hm10m
  ·exact(h.mns y (List.mem_of_mem_drop z)).below hbW) hcan hok
 have hz:=r2.size;have hzW:=hm10.size;refine⟨_,r1,rfl,rfl,fun k hk=> ?_,fun k hk=> ?_,(Mod.of_below hbW _).same r2⟩
 ·obtain⟨y,hy,hk⟩:=hk;rcases List.mem_append.1 hy with z|z
  ·rcases List.mem_append.1 z with z|z
   ·exact .inl ⟨y,List.mem_of_mem_take z,hk⟩
   ·simp at z;subst z;refine .inr ?_;have:=hnew k hk;omega
  ·exact .inl ⟨y,List.mem_of_mem_drop z,hk⟩
 ·have hk:(Value.slice o10 (q+1+(a.L.length - q)) c10).ownBlock=some k:=hk;rcases ho10 with z|⟨k',z,z1,z2⟩
  ·rw[z] at hk;have:=hown k hk;omega
  ·rw[z] at hk;cases hk;have:=hb.size;omega
def ngRel(w:World)(m:Mn)(ev pv:Value)(f:Int×Int→Bool)(vi:Value)(wr:World):Prop:=
 ∃i:Nat,i≤m.ext.length∧vi=.int .i64 i∧(∀(k:Nat) (x:Int×Int),k<i→m.ext[k]? =some x→f x=false)∧Below w.heap.size w wr∧MBx wr w.heap.size m ev pv
def roRel(w:World)(L:List RcE)(q:Nat)(m:Mn)(ev pv:Value)(vl vi:Value)(wr:World):Prop:=
 ∃i:Nat,i≤q∧vi=.int .i64 i∧(∃o c,vl=.slice o i c)∧SlV wr 351 7 vl i (rcC (L.take i))∧(∀k,vl.ownBlock=some k→w.heap.size+1≤k∧k<wr.heap.size)∧Below w.heap.size w wr∧MBx wr w.heap.size m ev pv
theorem four0{x y z u:Int}(h:x≠0):firstE [x,y,z,u]=x:=by
 unfold firstE;simp only[List.find?_cons,bne_iff_ne.2 h];rfl
theorem four1{y z u:Int}(h:y≠0):firstE [0,y,z,u]=y:=by
 unfold firstE;simp only[List.find?_cons,bne_iff_ne.2 h];rfl
theorem four2{z u:Int}(h:z≠0):firstE [0,0,z,u]=z:=by
 unfold firstE;simp only[List.find?_cons,bne_iff_ne.2 h];rfl
theorem four3{u:Int}:firstE [0,0,0,u]=u:=by
 unfold firstE
 by_cases h:u=0
 ·subst h;rfl
 ·simp only[List.find?_cons,bne_iff_ne.2 h];rfl
theorem grant(h:Rcs w a hp G){hx:List Int}(hh:RwV w 1 a.hv hx.length (hx.map (Value.int .u32)))(hl:hx.length≤16){n pg:Int}(p0:0≤pg){m:Mn}{ev pv:Value}(hm:MnIn w ev pv m)(hok:m.ok):
  Calls Tryz.prog 143 #[.pointer (some ⟨a.rb,0,none⟩),.int .i64 n,.agg (m.cells ev pv),.int .u32 pg] w (RgP w a hp hx G n m pg):=by
 obtain⟨eo,ec,rfl⟩:=hm.e.form;obtain⟨po,pc,rfl⟩:=hm.p.form;obtain⟨ho,hc,hhv⟩:=hh.form;have hcap:=rw_len hm.e;unfold maxLen at hcap;have HBad:Hid (∀V,n<1∨8<n∨Gp.checkE m≠0∨4096<pg→Below w.heap.size w V→RgP w a hp hx G n m pg (.returned (.int .i64 2)) V):=Lh fun V h1 h2=>by
  have e:Ca.grantE hp hx G n m pg=2:=if_pos h1;exact .inl ⟨by rw[e];decide,by rw[e],h2⟩
 have HHv:Hid (∀V,¬(n<1∨8<n∨Gp.checkE m≠0∨4096<pg)→(G n).isSome=true→Below w.heap.size w V→RgP w a hp hx G n m pg (.returned (.int .i64 9)) V):=Lh fun V h1 h2 h3=>by
  have e:Ca.grantE hp hx G n m pg=9:=(if_neg h1).trans (if_pos h2);exact .inl ⟨by rw[e];decide,by rw[e],h3⟩
 have HGr:Hid (∀V e,¬(n<1∨8<n∨Gp.checkE m≠0∨4096<pg)→G n=none→Ca.grE hp hx G m pg=e→e≠0→Below w.heap.size w V→RgP w a hp hx G n m pg (.returned (.int .i64 e)) V):=Lh fun V e h1 hn h2 h0 h3=>by
  have q:Ca.grantE hp hx G n m pg=e:=((if_neg h1).trans (if_neg (by rw[hn];simp))).trans h2;exact .inl ⟨by rw[q];exact h0,by rw[q],h3⟩
 have HOk:Hid (∀V a',¬(n<1∨8<n∨Gp.checkE m≠0∨4096<pg)→G n=none→Ca.grE hp hx G m pg=0→Rcs V a' hp (Gp.upd G n (some ⟨m,pg,0⟩))→a'.rb=a.rb∧a'.hv=a.hv∧(∀k,a'.rf k→a.rf k∨w.heap.size≤k∧k<V.heap.size)∧(∀k,a'.lv.ownBlock=some k→w.heap.size≤k∧k<V.heap.size)∧Mod (fun k=>k=a.rb) w V→RgP w a hp hx G n m pg (.returned (.int .i64 0)) V):=Lh fun V a' h1 hn h2 h3 h4=>by
  have q:Ca.grantE hp hx G n m pg=0:=((if_neg h1).trans (if_neg (by rw[hn];simp))).trans h2;exact .inr ⟨q,rfl,a',h3,h4⟩
 generalize RgP w a hp hx G n m pg=PQ at*;have H:=Lh fun V (hV:Below w.heap.size w V)=>h.below hV
 have HH:=Lh fun V (hV:Below w.heap.size w V)=>hh.below hV
 have HMn:=Lh fun V (hV:Below w.heap.size w V)=>hm.below hV
 have HMo:=Lh hok;have hb:=(Below.refl w.heap.size w).alloc (Nat.le_refl _) (.cells (m.cells (.slice eo m.ext.length ec) (.slice po m.ports.length pc)) 109);have hk:=heap_alloc_new w (.cells (m.cells (.slice eo m.ext.length ec) (.slice po m.ports.length pc)) 109);obtain⟨c0,c1,c2,c3,cf⟩:=man_cells hk;have HB:=Lh hb;have HBx:=Lh (show MBx _ w.heap.size m (.slice eo m.ext.length ec) (.slice po m.ports.length pc) from hk);have HMy:=Lh (R11.may (hm.below hb) hok);unfold Mn.cells at*;clear hb hk hm hok
 by_cases q1:n<1
 ·have hend:=HBad.out _ (.inl q1) HB.out;go_enter func143,ntmps143;go_wp2
  first
   |exact hend
   |(go_ret;exact hend)
 by_cases q8:8<n
 ·have hend:=HBad.out _ (.inr (.inl q8)) HB.out;go_enter func143,ntmps143;go_wp2
  first
   |exact hend
   |(go_ret;exact hend)
 go_enter func143,ntmps143;go_wp2_with fail;refine HMy.out.mono ?_;rintro e w2 ⟨rfl,hb2⟩;have HB2:=Lh (bQ HB.out hb2);have HBx2:=Lh (HBx.out.below hb2);clear hb2 c0 c1 c2 c3 cf HBx HMy;obtain⟨bm,hbm⟩:∃b,Gp.mayM m=b:=⟨_,rfl⟩;rw[hbm];cases bm with
 |false=>
  have hend:=HBad.out w2 (.inr (.inr (.inl (by unfold Gp.checkE;rw[hbm];decide)))) HB2.out;clear hbm;go_wp2
  first
   |exact hend
   |(go_ret;exact hend)
 |true=>
  have HCk:Hid (Gp.checkE m=0):=Lh (by unfold Gp.checkE;rw[if_pos hbm]);clear hbm
  by_cases qp:4096<pg
  ·have hend:=HBad.out w2 (.inr (.inr (.inr qp))) HB2.out;go_wp2
   first
    |exact hend
    |(go_ret;exact hend)
  have HNb:Hid (¬(n<1∨8<n∨Gp.checkE m≠0∨4096<pg)):=Lh (by have:=HCk.out;omega);have HFd:=Lh (find (H.out w2 HB2.out) n)
  by_cases hgn:(G n).isSome=true
  ·obtain⟨g,hg⟩:=Option.isSome_iff_exists.1 hgn;obtain⟨i,x,hix,_⟩:=of_some (H.out w2 HB2.out) hg;unfold idxV at HFd;rw[hix] at HFd;have hend:=HHv.out w2 HNb.out hgn HB2.out;have i0:(0:Int)≤i:=by omega
   clear hg hix hgn;go_wp2_with fail;refine HFd.out.mono ?_;rintro e w3 ⟨rfl,rfl⟩;go_wp2
   first
    |exact hend
    |(go_ret;exact hend)
  have HNo:Hid (G n=none):=Lh (by cases q:G n with|none=>rfl|some g=>rw[q] at hgn;exact absurd rfl hgn);unfold idxV at HFd;rw[of_none (H.out w2 HB2.out) HNo.out] at HFd;clear hgn;go_wp2_with fail;refine HFd.out.mono ?_;rintro e w3 ⟨rfl,rfl⟩;have HR0:Hid (ngRel w m (.slice eo m.ext.length ec) (.slice po m.ports.length pc) (fun x=>decide ((hx.length:Int)≤x.1)) (.int .i64 0) w2):=Lh ⟨0,by omega,rfl,fun k _ hk=>absurd hk (Nat.not_lt_zero _),HB2.out,HBx2.out⟩;clear HFd HB2 HBx2 HBad HHv;go_wp2;go_loopw [9] (fun vi wr=>ngRel w m (.slice eo m.ext.length ec) (.slice po m.ports.length pc) (fun x=>decide ((hx.length:Int)≤x.1)) vi wr) (fun vi _=>m.ext.length - (intOf vi).toNat)
  case atStart=>exact HR0.out
  case round=>
   clear HR0;obtain⟨i,hi,rfl,hno,hbw,hbx⟩:=hrel;have HNk:=Lh hno;have HBw:=Lh hbw;have HBx:=Lh hbx;obtain⟨c0,c1,c2,c3,cf⟩:=man_cells hbx
   by_cases hin:i<m.ext.length
   ·obtain⟨gg,off,heo,e0,e1⟩:=ext_cellsR (HMn.out _ hbw).e (Zg hin);obtain⟨x,hxe⟩:∃x,m.ext[i]=x:=⟨_,rfl⟩;rw[hxe] at e0 e1;have HX:Hid (m.ext[i]? =some x):=Lh (by rw[Zg hin,hxe]);have hi1:(i:Int)<m.ext.length:=by omega
    obtain⟨d0,d1,d2,_⟩:=(H.out _ hbw).cells;rw[hhv] at d1;have wl:IntKind.u32.wrap (hx.length:Int)=hx.length:=wrap32 (by omega) (by omega);subst heo;clear hno hbw hbx hxe e1 d0 d2 c0 c2 c3 cf;obtain⟨bb,hbb⟩:∃b,decide (x.1≥(hx.length:Int))=b:=⟨_,rfl⟩;go_wp2;refine B (fun V=>V.cell? ⟨w.heap.size,1,none⟩=some (.slice (some ⟨gg,off,none⟩) m.ext.length ec)∧V.cell? ⟨gg,off+i*2,none⟩=some (.int .u32 x.1)∧V.cell? ⟨a.rb,1,none⟩=some (.slice ho hx.length hc)) ⟨c1,e0,d1⟩ fun wd hwd hS=> ?_
    have HWd:Hid (Below w.heap.size w wd):=Lh (by rw[hwd];exact HBw.out.drew);have HXd:Hid (MBx wd w.heap.size m (.slice (some ⟨gg,off,none⟩) m.ext.length ec) (.slice po m.ports.length pc)):=Lh (by rw[hwd];exact HBx.out.below Br.drew);clear hwd c1 e0 d1;refine T 0 hS ?_;refine T 1 hS ?_;refine T 2 hS ?_;refine T 3 hS ?_;refine T 4 hS ?_;refine T 5 hS ?_;refine T 6 hS ?_;refine T 7 hS ?_;refine T 8 hS ?_;refine T 9 hS ?_;refine T 10 hS ?_;refine U 11 fun K hK=> ?_
    go_simp;refine V hK hS ?_;clear hK K;refine T 12 hS ?_;refine T 13 hS ?_;refine wpAnyH_done (by kernel_rfl) ?_ _;clear hS;cases bb with
    |true=>
     have HV:Hid (Ca.grE hp hx G m pg=3):=Lh (by
      have:Ca.noneE m.ext hx.length=3:=by unfold Ca.noneE Ca.extNone;rw[if_pos (Ca.any_at (f:=fun x=>decide ((hx.length:Int)≤x.1)) HX.out hbb)]
      unfold Ca.grE;rw[this];exact four0 (by decide))
     have hend:=HGr.out wd 3 HNb.out HNo.out HV.out (by decide) HWd.out;go_wp2
     first
      |exact hend
      |(go_ret;exact hend)
    |false=>
     have HBb:=Lh hbb;have hrel':ngRel w m (.slice (some ⟨gg,off,none⟩) m.ext.length ec) (.slice po m.ports.length pc) (fun x=>decide ((hx.length:Int)≤x.1)) (.int .i64 ((i:Int)+1)) wd:=⟨i+1,by omega,by go_num,fun k y hk hy=>by
      rcases Nat.lt_or_ge k i with q|q
      ·exact HNk.out k y q hy
      ·obtain rfl:k=i:=by omega
       rw[HX.out] at hy;cases hy;exact HBb.out,HWd.out,HXd.out⟩
     have HRl:=Lh hrel';clear hrel';go_wp2;exact⟨HRl.out,by simp[intOf];omega⟩
   ·have hi1:¬(i:Int)<m.ext.length:=by omega
    have HN3:Hid (Ca.noneE m.ext hx.length=0∧∀x,x∈m.ext→x.1<hx.length):=Lh (by
     have hall:∀(k:Nat) (x:Int×Int),k<m.ext.length→m.ext[k]? =some x→decide ((hx.length:Int)≤x.1)=false:=fun k x hk=>HNk.out k x (by omega)
     refine⟨by unfold Ca.noneE Ca.extNone;rw[Ca.any_no (f:=fun x=>decide ((hx.length:Int)≤x.1)) hall];rfl,fun x hx=> ?_⟩;obtain⟨k,hk⟩:=List.getElem?_of_mem hx;have:=of_decide_eq_false (hall k x (List.getElem?_eq_some_iff.1 hk).1 hk);omega)
    have HL0:Hid (ngRel w m (.slice eo m.ext.length ec) (.slice po m.ports.length pc) (fun x=>decide (hx.getD x.1.toNat 0<x.2)) (.int .i64 0) wr):=Lh ⟨0,by omega,rfl,fun k _ hk=>absurd hk (Nat.not_lt_zero _),hbw,hbx⟩;clear hno hbw hbx HNk HBw HBx;go_wp2;clear c0 c1 c2 c3 cf hi1 hi hin;go_loopw [10] (fun vi V=>ngRel w m (.slice eo m.ext.length ec) (.slice po m.ports.length pc) (fun x=>decide (hx.getD x.1.toNat 0<x.2)) vi V) (fun vi _=>m.ext.length - (intOf vi).toNat)
    case atStart=>exact HL0.out
    case round=>
     clear HL0;obtain⟨i,hi,rfl,hno,hbw,hbx⟩:=hrel;generalize wr=w4 at*;have HNk:=Lh hno;have HBw:=Lh hbw;have HBx:=Lh hbx;obtain⟨c0,c1,c2,c3,cf⟩:=man_cells hbx
     by_cases hin:i<m.ext.length
     ·obtain⟨gg,off,heo,e0,e1⟩:=ext_cellsR (HMn.out _ hbw).e (Zg hin);obtain⟨x,hxe⟩:∃x,m.ext[i]=x:=⟨_,rfl⟩;rw[hxe] at e0 e1;have HX:Hid (m.ext[i]? =some x):=Lh (by rw[Zg hin,hxe]);have hi1:(i:Int)<m.ext.length:=by omega
      obtain⟨d0,d1,d2,_⟩:=(H.out _ hbw).cells;have hxl:=HN3.out.2 x (List.mem_of_getElem? HX.out);have hx0:=(HMo.out.e x (List.mem_of_getElem? HX.out)).1;obtain⟨id,hid⟩:=Int.eq_ofNat_of_zero_le hx0;have hidl:id<hx.length:=by omega
      have hu:=HH.out _ hbw;rw[hhv] at hu d1;obtain⟨hg,hoff,hho,h0⟩:=u32_cellR hu (Zg hidl);obtain⟨y,hy⟩:∃y,hx[id]=y:=⟨_,rfl⟩;rw[hy] at h0;have HYv:Hid (hx.getD x.1.toNat 0=y):=Lh (by rw[hid,List.getD,Int.toNat_natCast,Zg hidl,hy];rfl);rw[hid] at e0;have hid0:(0:Int)≤(id:Int):=by omega
      have hid1:(id:Int)<hx.length:=by omega
      subst heo;subst hho;clear hno hbw hbx hxe d0 d2 c0 c2 c3 cf hxl hx0 hid hu hy;obtain⟨bb,hbb⟩:∃b,decide (x.2>y)=b:=⟨_,rfl⟩;go_wp2;refine B (fun V=>V.cell? ⟨w.heap.size,1,none⟩=some (.slice (some ⟨gg,off,none⟩) m.ext.length ec)∧V.cell? ⟨gg,off+i*2,none⟩=some (.int .u32 id)∧V.cell? ⟨gg,off+i*2+1,none⟩=some (.int .u32 x.2)∧V.cell? ⟨a.rb,1,none⟩=some (.slice (some ⟨hg,hoff,none⟩) hx.length hc)∧V.cell? ⟨hg,hoff+id,none⟩=some (.int .u32 y)) ⟨c1,e0,e1,d1,h0⟩ fun wd hwd hS=> ?_
      have HWd:Hid (Below w.heap.size w wd):=Lh (by rw[hwd];exact HBw.out.drew);have HXd:Hid (MBx wd w.heap.size m (.slice (some ⟨gg,off,none⟩) m.ext.length ec) (.slice po m.ports.length pc)):=Lh (by rw[hwd];exact HBx.out.below Br.drew);clear hwd c1 e0 e1 d1 h0;refine T 0 hS ?_;refine T 1 hS ?_;refine T 2 hS ?_;refine T 3 hS ?_;refine T 4 hS ?_;refine T 5 hS ?_;refine T 6 hS ?_;refine T 7 hS ?_;refine T 8 hS ?_;refine T 9 hS ?_;refine T 10 hS ?_;refine T 11 hS ?_;refine T 12 hS ?_;refine T 13 hS ?_;refine T 14 hS ?_;refine T 15 hS ?_;refine T 16 hS ?_;refine T 17 hS ?_;refine T 18 hS ?_;refine T 19 hS ?_;refine wpAnyH_done (by kernel_rfl) ?_ _;clear hS;cases bb with
      |true=>
       have HV:Hid (Ca.grE hp hx G m pg=5):=Lh (by
        have:Ca.longE m.ext hx=5:=by
         unfold Ca.longE Ca.extLong;rw[if_pos (Ca.any_at (f:=fun x=>decide (x.1<hx.length)&&decide (hx.getD x.1.toNat 0<x.2)) HX.out (by
          rw[Bool.and_eq_true];exact⟨decide_eq_true (HN3.out.2 x (List.mem_of_getElem? HX.out)),decide_eq_true (by rw[HYv.out];exact of_decide_eq_true hbb)⟩))]
        unfold Ca.grE;rw[HN3.out.1,this];exact four1 (by decide))
       have hend:=HGr.out wd 5 HNb.out HNo.out HV.out (by decide) HWd.out;go_wp2
       first
        |exact hend
        |(go_ret;exact hend)
      |false=>
       have HBb:Hid (decide (hx.getD x.1.toNat 0<x.2)=false):=Lh (by rw[HYv.out];exact hbb);have hrel':ngRel w m (.slice (some ⟨gg,off,none⟩) m.ext.length ec) (.slice po m.ports.length pc) (fun x=>decide (hx.getD x.1.toNat 0<x.2)) (.int .i64 ((i:Int)+1)) wd:=⟨i+1,by omega,by go_num,fun k y hk hy=>by
        rcases Nat.lt_or_ge k i with q|q
        ·exact HNk.out k y q hy
        ·obtain rfl:k=i:=by omega
         rw[HX.out] at hy;cases hy;exact HBb.out,HWd.out,HXd.out⟩
       have HRl:=Lh hrel';clear hrel';go_wp2;exact⟨HRl.out,by simp[intOf];omega⟩
     ·have hi1:¬(i:Int)<m.ext.length:=by omega
      have HL5:Hid (Ca.longE m.ext hx=0):=Lh (by
       unfold Ca.longE Ca.extLong;rw[Ca.any_no (f:=fun x=>decide (x.1<hx.length)&&decide (hx.getD x.1.toNat 0<x.2)) fun k x hk hx'=>by
        have h2:=HNk.out k x (by omega) hx';have h2:decide (hx.getD x.1.toNat 0<x.2)=false:=h2;rw[h2,Bool.and_false]]
       rfl)
      have HBs:=Lh (busy (H.out _ hbw) (HMn.out _ hbw));unfold Mn.cells at HBs;clear hno hbw hbx HNk hi hin;go_wp2_with fail;refine HBs.out.mono ?_;rintro e w5 ⟨rfl,hb5⟩;have HB5:=Lh (bQ HBw.out hb5);have HBx5:=Lh (HBx.out.below hb5);clear hb5 c0 c1 c2 c3 cf HBs HBw HBx hi1;obtain⟨c0,c1,c2,c3,cf⟩:=man_cells HBx5.out;obtain⟨bz,hbz⟩:∃b,Gp.busyB G m=b:=⟨_,rfl⟩;rw[hbz];cases bz with
      |true=>
       have HV:Hid (Ca.grE hp hx G m pg=190):=Lh (by
        have:Ca.busyE G m=190:=by unfold Ca.busyE;rw[if_pos hbz]
        unfold Ca.grE;rw[HN3.out.1,HL5.out,this];exact four2 (by decide))
       have hend:=HGr.out w5 190 HNb.out HNo.out HV.out (by decide) HB5.out;clear hbz;go_wp2
       first
        |exact hend
        |(go_ret;exact hend)
      |false=>
       have HBs:Hid (Ca.busyE G m=0):=Lh (by unfold Ca.busyE;rw[hbz];rfl);clear hbz;have hmp:=Ca.may_num HCk.out;have p00:=HMo.out.p0;have wl:IntKind.u32.wrap (m.pages+pg)=m.pages+pg:=wrap32 (by omega) (by omega);have HFr:=Lh fun V (hV:Below w.heap.size w V)=>free (H.out V hV)
       unfold Gp.freeV at HFr;obtain⟨bf,hbf⟩:∃b,decide (m.pages+pg>hp - Gp.sum G)=b:=⟨_,rfl⟩;have HMp:=Lh hmp;clear hmp p00;go_wp2;refine B (fun V=>V.cell? ⟨w.heap.size,0,none⟩=some (.int .u32 m.pages)) c0 fun wd hwd hS=> ?_
       have HWd:Hid (Below w.heap.size w wd):=Lh (by rw[hwd];exact HB5.out.drew);have HXd:Hid (MBx wd w.heap.size m (.slice eo m.ext.length ec) (.slice po m.ports.length pc)):=Lh (by rw[hwd];exact HBx5.out.below Br.drew);clear hwd c0 c1 c2 c3 cf HB5 HBx5;refine T 0 hS ?_;refine T 1 hS ?_;refine T 2 hS ?_;refine T 3 hS ?_;refine T 4 hS ?_;refine U 5 fun K hK=> ?_
       go_simp;go_at_call 196;refine(HFr.out _ HWd.out).mono ?_;rintro e w6 ⟨rfl,hb6⟩;have hS6:=cQ hb6 hS;have HB6:=Lh (bQ HWd.out hb6);have HBx6:=Lh (HXd.out.below hb6);clear hb6;refine V hK hS6 ?_;clear hK K;refine T 6 hS6 ?_;refine wpAnyH_done (by kernel_rfl) ?_ _;clear hS hS6 HWd HXd HFr;cases bf with
       |true=>
        have HV:Hid (Ca.grE hp hx G m pg=4):=Lh (by
         unfold Ca.grE;rw[HN3.out.1,HL5.out,HBs.out,four3];exact Ca.full_no (of_decide_eq_true hbf))
        have hend:=HGr.out w6 4 HNb.out HNo.out HV.out (by decide) HB6.out;go_wp2
        first
         |exact hend
         |(go_ret;exact hend)
       |false=>
        have HG0:Hid (Ca.grE hp hx G m pg=0∧Gp.sum G+(m.pages+pg)≤hp):=Lh (by
         have hq:¬hp - Gp.sum G<m.pages+pg:=of_decide_eq_false hbf;refine⟨?_,by omega⟩;unfold Ca.grE;rw[HN3.out.1,HL5.out,HBs.out,four3];exact Ca.full_yes hq)
        have hel:=Ca.ext_len hl HMo.out HCk.out HG0.out.1;have hpl:=HMp.out.1;clear hbf HGr HBs HL5 HN3 wl;have n1:1≤n:=by omega
        have n8:n≤8:=by omega
        obtain⟨hq0,hq1⟩:=gap (H.out w Br) n1 n8 HNo.out;have HGp:=Lh hq1;have hL8:=(H.out w Br).len;have HCan:=Lh fun ev pv=>can_put (pg:=pg) (m:=m) (ev:=ev) (pv:=pv) (H.out w Br) n1 n8 HNo.out
        obtain⟨q,hq⟩:∃q,(lo G n).length=q:=⟨_,rfl⟩;rw[hq] at hq0 HGp HCan;clear hq hq1;have HR3:Hid (roRel w a.L q m (.slice eo m.ext.length ec) (.slice po m.ports.length pc) (.slice none 0 0) (.int .i64 0) w6):=Lh ⟨0,by omega,rfl,⟨none,0,rfl⟩,SlV.nil _ _ _,fun k hk=>(by cases hk),HB6.out,HBx6.out⟩;have hlvf:=(H.out w Br).row.form;obtain⟨ao,ac,hlv⟩:=hlvf;have HLv:=Lh hlv;clear hlv HB6 HBx6;obtain⟨i0,hi0',hz0,hz1,hz2⟩:=info_parts info_gr;have hi0:=Lh (And.intro hi0' (And.intro hz0 (And.intro hz1 hz2)));clear hi0' hz0 hz1 hz2;go_wp2;go_loopw [11,12] (fun vl vi V=>roRel w a.L q m (.slice eo m.ext.length ec) (.slice po m.ports.length pc) vl vi V) (fun _ vi _=>q - (intOf vi).toNat)
        case atStart=>exact HR3.out
        case round=>
         clear HR3;obtain⟨i,hi,rfl,⟨o,c,rfl⟩,hsl,hown,hbw,hbx⟩:=hrel;have h1:=H.out _ hbw;have d2:=h1.cells.2.2.1;rw[HLv.out] at d2;have HSl:=Lh hsl;have HOw:=Lh hown;have HBw:=Lh hbw;have HBx:=Lh hbx
         by_cases hiq:i<q
         ·obtain⟨x,hx'⟩:∃x,a.L[i]? =some x:=⟨_,Zg (by omega)⟩;have hlt:=(HGp.out i x hx').1 hiq;have hi1:(i:Int)<a.L.length:=by omega
          obtain⟨g,off,cap,hv,hcc⟩:=h1.at' hx';rw[HLv.out] at hv;simp only[Value.slice.injEq] at hv;obtain⟨rfl,_,rfl⟩:=hv;obtain⟨x0,x1,x2,x3,x4,x5,x6⟩:=Rcs.seven hcc;obtain⟨⟨xo,xn,xc,hev⟩,⟨yo,yn,yc,hpv⟩⟩:(∃o n c,x.ev=.slice o n c)∧∃o n c,x.pv=.slice o n c:=by
           have hm:=h1.mns x (List.mem_of_getElem? hx');exact⟨by obtain⟨o,c,e⟩:=hm.e.form;exact⟨o,_,c,e⟩,by obtain⟨o,c,e⟩:=hm.p.form;exact⟨o,_,c,e⟩⟩
          have hxc:x.cells=[.int .i64 x.n,.int .u32 x.g.m.pages,.slice xo xn xc,.slice yo yn yc,.bool x.g.m.con,.int .u32 x.g.pg,.int .u32 x.g.took]:=by unfold RcE.cells;rw[hev,hpv]
          rw[hev] at x2;rw[hpv] at x3;have hb7:Below wr.heap.size wr (wr.alloc (.cells #[.int .i64 x.n,.int .u32 x.g.m.pages,.slice xo xn xc,.slice yo yn yc,.bool x.g.m.con,.int .u32 x.g.pg,.int .u32 x.g.took] 351)):=Ba _;have hk7:=heap_alloc_new wr (.cells #[.int .i64 x.n,.int .u32 x.g.m.pages,.slice xo xn xc,.slice yo yn yc,.bool x.g.m.con,.int .u32 x.g.pg,.int .u32 x.g.took] 351);have HS7:=Lh (HSl.out.below hb7);have HK7:=Lh hk7;have HB7:=Lh hb7;have HX:=Lh (And.intro hx' hxc);clear hsl hown hbw hbx h1 hx' hcc hev hpv hxc hb7 hk7;go_wp2_with (at_builtin;refine wpList_append_slv _ rfl _ _ 298 rfl 351 i0 _ 7 80 Tryz.underlying298 hi0.out.1 hi0.out.2.1 hi0.out.2.2.1 hi0.out.2.2.2 rfl (by decide) _ i _ rfl HS7.out ⟨wr.heap.size,0,none⟩ 1 1 x.cells rfl (by omega) rfl (fun j u hu=>by rw[HX.out.2] at hu;rw[Addr.add_lit];unfold World.cell?;rw[HK7.out];simpa using hu) (fun u hu=>by rw[HX.out.2] at hu;simp at hu;rcases hu with rfl|rfl|rfl|rfl|rfl|rfl|rfl<;>rfl) (by unfold maxLen;omega) (by omega) ?_;intro v8 w8 hl8 hm8 ho8);have hz7:=HB7.out.size;have hm8':Mod (fun k=>(Value.slice o i c).ownBlock=some k) wr w8:=(Mod.of_below HB7.out _).same hm8;obtain⟨o8,c8,rfl⟩:=hl8.form;have hbw8:Below w.heap.size w w8:=Mod.below HBw.out hm8' HBw.out.size fun k _ e=>by have:=(HOw.out k e).1;omega
          have hrel':roRel w a.L q m (.slice eo m.ext.length ec) (.slice po m.ports.length pc) (.slice o8 (i+1) c8) (.int .i64 ((i:Int)+1)) w8:=⟨i+1,by omega,by go_num,⟨o8,c8,rfl⟩,by rw[take_succ HX.out.1,rcC_app,show rcC [x]=x.cells by unfold rcC;simp];exact hl8,fun k hk=>by
           have hlt8:k<w8.heap.size:=by
            obtain⟨k',h1,h2⟩:=hl8.lt (by omega);rw[h1] at hk;cases hk;exact h2
           rcases ho8 with z|⟨k',z,z1⟩
           ·rw[z] at hk;exact⟨(HOw.out k hk).1,hlt8⟩
           ·rw[z] at hk;cases hk;have:=HBw.out.size;have:=lQ HBx.out;exact⟨by omega,hlt8⟩,hbw8,(hm8'.block _ (lQ HBx.out) (fun e=>by have:=(HOw.out _ e).1;omega)).trans HBx.out⟩
          have HRl:=Lh hrel';clear hrel' hl8 hm8 ho8 hm8' hbw8;exact⟨HRl.out,by simp[intOf];omega⟩
         ·obtain rfl:i=q:=by omega
          obtain⟨c0',c1',c2',c3',_⟩:=man_cells HBx.out;have HCp:=Lh (R11.copy (HMn.out _ HBw.out) (by omega) (by omega));unfold Mn.cells at HCp;clear hsl hown hbw hbx;have hrow:=h1.row;rw[HLv.out] at hrow;have hnc:=hrow.ncap
          by_cases hil:i<a.L.length
          ·obtain⟨x,hx'⟩:∃x,a.L[i]? =some x:=⟨_,Zg hil⟩;have hgt:=(HGp.out i x hx').2 (Nat.le_refl _);have hi1:(i:Int)<a.L.length:=by omega
           obtain⟨g,off,cap,hv,hcc⟩:=h1.at' hx';rw[HLv.out] at hv;simp only[Value.slice.injEq] at hv;obtain⟨rfl,_,rfl⟩:=hv;obtain⟨x0,_⟩:=Rcs.seven hcc;have hng:¬x.n<n:=by omega
           have hac:¬ac=i:=by omega
           have hic:i≤ac:=by omega
           have hil2:i≤a.L.length:=by omega
           clear h1 hx' hcc hrow hgt;go_wp2_with fail;refine HCp.out.mono ?_;rintro e w8 ⟨ev',pv',rfl,hmn8,hnw8,hb8⟩;obtain⟨xo,xc,rfl⟩:=hmn8.e.form;obtain⟨yo,yc,rfl⟩:=hmn8.p.form;have hb9:Below w8.heap.size w8 (w8.alloc (.cells #[.int .i64 n,.int .u32 m.pages,.slice xo m.ext.length xc,.slice yo m.ports.length yc,.bool m.con,.int .u32 pg,.int .u32 0] 351)):=Ba _;have hk9:=heap_alloc_new w8 (.cells #[.int .i64 n,.int .u32 m.pages,.slice xo m.ext.length xc,.slice yo m.ports.length yc,.bool m.con,.int .u32 pg,.int .u32 0] 351);have HS9:=Lh ((HSl.out.below hb8).below hb9);have HK9:=Lh hk9;have hz8:=hb8.size;have HB9:=Lh (bQ (bQ HBw.out hb8) hb9);have HM9:=Lh (And.intro (hmn8.below hb9) hnw8);have HZ9:Hid (wr.heap.size≤w8.heap.size):=Lh hz8;clear hmn8 hnw8 hb8 hb9 hk9 hz8 c0' c1' c2' c3' HCp;unfold Mn.cells;go_wp2_with (at_builtin;first
            |(
              refine wpList_append_slv _ rfl _ _ 298 rfl 351 i0 _ 7 80 Tryz.underlying298 hi0.out.1 hi0.out.2.1 hi0.out.2.2.1 hi0.out.2.2.2 rfl (by decide) _ i _ rfl HS9.out ⟨w8.heap.size,0,none⟩ 1 1 (⟨n,⟨m,pg,0⟩,.slice xo m.ext.length xc,.slice yo m.ports.length yc⟩:RcE).cells rfl (by omega) rfl (fun j u hu=>by rw[Addr.add_lit];unfold World.cell?;rw[HK9.out];simpa [RcE.cells] using hu) (fun u hu=>by simp[RcE.cells] at hu;rcases hu with rfl|rfl|rfl|rfl|rfl|rfl|rfl<;>rfl) (by unfold maxLen;omega) (by omega) ?_;intro v10 w10 hl10 hm10 ho10;obtain⟨o10,c10,rfl⟩:=hl10.form;have hzw:=HBw.out.size;have hz89:=HZ9.out;have hb10:Below w.heap.size w w10:=Mod.below HB9.out hm10 HB9.out.size fun k _ e=>by have:=(HOw.out k e).1;omega
              have hmz:MnAt w10 (.slice xo m.ext.length xc) (.slice yo m.ports.length yc) m:=HM9.out.1.mod hm10 (fun k hk e=>by have h1:=HM9.out.2 k (.inl hk);have h2:=HOw.out k e;omega) (fun k hk e=>by have h1:=HM9.out.2 k (.inr hk);have h2:=HOw.out k e;omega);have hfin:=fin_put (H.out w Br) (pg:=pg) (m:=m) (q:=i) (ev:=.slice xo m.ext.length xc) (pv:=.slice yo m.ports.length yc) (by omega) (HCan.out _ _) (okPut (H.out w Br).ok n1 n8 HNo.out HMo.out HCk.out p0 HG0.out.2) hb10 (o9:=o10) (c9:=c10) hl10 (fun k hk=>by
               have hlt10:k<w10.heap.size:=by
                obtain⟨k',h1,h2⟩:=hl10.lt (by omega);rw[h1] at hk;cases hk;exact h2
               rcases ho10 with z|⟨k',z,z1⟩
               ·rw[z] at hk;have:=(HOw.out k hk).1;exact⟨by omega,hlt10⟩
               ·rw[z] at hk;cases hk;have:w8.heap.size≤(w8.alloc (.cells #[.int .i64 n,.int .u32 m.pages,.slice xo m.ext.length xc,.slice yo m.ports.length yc,.bool m.con,.int .u32 pg,.int .u32 0] 351)).heap.size:=by simp
                exact⟨by omega,hlt10⟩) hmz (fun k hk=>by
               have h1:=HM9.out.2 k hk;have h2:=hm10.size;have:w8.heap.size≤(w8.alloc (.cells #[.int .i64 n,.int .u32 m.pages,.slice xo m.ext.length xc,.slice yo m.ports.length yc,.bool m.con,.int .u32 pg,.int .u32 0] 351)).heap.size:=by simp
               omega) HLv.out (some ⟨g,off+i*7,none⟩) (ac - i) (fun _=>⟨g,off,rfl,rfl⟩)
              obtain⟨o11,c11,w11,hr11,hc11,hf11,hend11⟩:=hfin;have HRun:=Lh hr11;have HEnd:=Lh hend11;have d10:=((H.out _ hb10).cells).2.2.1;rw[HLv.out] at d10;clear hl10 hm10 ho10 hb10 hmz hr11 hend11 hzw hz89)
            |refine R11.wpList_append_run rfl _ _ _ rfl rfl rfl HRun.out ?_)
           obtain⟨a',r1,r2⟩:=HEnd.out;have hend:=HOk.out _ a' HNb.out HNo.out HG0.out.1 r1 r2;clear r1 r2
           first
            |exact hend
            |(go_ret;exact hend)
          ·have HIe:Hid (a.L.length=i):=Lh (by omega);have hil2:i≤a.L.length:=by omega
           have hic:i≤ac:=by omega
           have hni:¬(i:Int)<a.L.length:=by omega
           have HRo:=Lh hrow;clear h1 hrow hil;rcases ao with _|ad
           ·skip
            go_wp2_with fail;refine HCp.out.mono ?_;rintro e w8 ⟨ev',pv',rfl,hmn8,hnw8,hb8⟩;obtain⟨xo,xc,rfl⟩:=hmn8.e.form;obtain⟨yo,yc,rfl⟩:=hmn8.p.form;have hb9:Below w8.heap.size w8 (w8.alloc (.cells #[.int .i64 n,.int .u32 m.pages,.slice xo m.ext.length xc,.slice yo m.ports.length yc,.bool m.con,.int .u32 pg,.int .u32 0] 351)):=Ba _;have hk9:=heap_alloc_new w8 (.cells #[.int .i64 n,.int .u32 m.pages,.slice xo m.ext.length xc,.slice yo m.ports.length yc,.bool m.con,.int .u32 pg,.int .u32 0] 351);have HS9:=Lh ((HSl.out.below hb8).below hb9);have HK9:=Lh hk9;have hz8:=hb8.size;have HB9:=Lh (bQ (bQ HBw.out hb8) hb9);have HM9:=Lh (And.intro (hmn8.below hb9) hnw8);have HZ9:Hid (wr.heap.size≤w8.heap.size):=Lh hz8;clear hmn8 hnw8 hb8 hb9 hk9 hz8 c0' c1' c2' c3' HCp;unfold Mn.cells;go_wp2_with (at_builtin;first
             |(
               refine wpList_append_slv _ rfl _ _ 298 rfl 351 i0 _ 7 80 Tryz.underlying298 hi0.out.1 hi0.out.2.1 hi0.out.2.2.1 hi0.out.2.2.2 rfl (by decide) _ i _ rfl HS9.out ⟨w8.heap.size,0,none⟩ 1 1 (⟨n,⟨m,pg,0⟩,.slice xo m.ext.length xc,.slice yo m.ports.length yc⟩:RcE).cells rfl (by omega) rfl (fun j u hu=>by rw[Addr.add_lit];unfold World.cell?;rw[HK9.out];simpa [RcE.cells] using hu) (fun u hu=>by simp[RcE.cells] at hu;rcases hu with rfl|rfl|rfl|rfl|rfl|rfl|rfl<;>rfl) (by unfold maxLen;omega) (by omega) ?_;intro v10 w10 hl10 hm10 ho10;obtain⟨o10,c10,rfl⟩:=hl10.form;have hzw:=HBw.out.size;have hz89:=HZ9.out;have hb10:Below w.heap.size w w10:=Mod.below HB9.out hm10 HB9.out.size fun k _ e=>by have:=(HOw.out k e).1;omega
               have hmz:MnAt w10 (.slice xo m.ext.length xc) (.slice yo m.ports.length yc) m:=HM9.out.1.mod hm10 (fun k hk e=>by have h1:=HM9.out.2 k (.inl hk);have h2:=HOw.out k e;omega) (fun k hk e=>by have h1:=HM9.out.2 k (.inr hk);have h2:=HOw.out k e;omega);have hfin:=fin_put (H.out w Br) (pg:=pg) (m:=m) (q:=i) (ev:=.slice xo m.ext.length xc) (pv:=.slice yo m.ports.length yc) (by omega) (HCan.out _ _) (okPut (H.out w Br).ok n1 n8 HNo.out HMo.out HCk.out p0 HG0.out.2) hb10 (o9:=o10) (c9:=c10) hl10 (fun k hk=>by
                have hlt10:k<w10.heap.size:=by
                 obtain⟨k',h1,h2⟩:=hl10.lt (by omega);rw[h1] at hk;cases hk;exact h2
                rcases ho10 with z|⟨k',z,z1⟩
                ·rw[z] at hk;have:=(HOw.out k hk).1;exact⟨by omega,hlt10⟩
                ·rw[z] at hk;cases hk;have:w8.heap.size≤(w8.alloc (.cells #[.int .i64 n,.int .u32 m.pages,.slice xo m.ext.length xc,.slice yo m.ports.length yc,.bool m.con,.int .u32 pg,.int .u32 0] 351)).heap.size:=by simp
                 exact⟨by omega,hlt10⟩) hmz (fun k hk=>by
                have h1:=HM9.out.2 k hk;have h2:=hm10.size;have:w8.heap.size≤(w8.alloc (.cells #[.int .i64 n,.int .u32 m.pages,.slice xo m.ext.length xc,.slice yo m.ports.length yc,.bool m.con,.int .u32 pg,.int .u32 0] 351)).heap.size:=by simp
                omega) HLv.out (none) (ac - i) (fun hk=>absurd hk (by have:=HIe.out;omega))
               obtain⟨o11,c11,w11,hr11,hc11,hf11,hend11⟩:=hfin;have HRun:=Lh hr11;have HEnd:=Lh hend11;have d10:=((H.out _ hb10).cells).2.2.1;rw[HLv.out] at d10;clear hl10 hm10 ho10 hb10 hmz hr11 hend11 hzw hz89)
             |refine R11.wpList_append_run rfl _ _ _ rfl rfl rfl HRun.out ?_)
            obtain⟨a',r1,r2⟩:=HEnd.out;have hend:=HOk.out _ a' HNb.out HNo.out HG0.out.1 r1 r2;clear r1 r2
            first
             |exact hend
             |(go_ret;exact hend)
           ·by_cases hci:ac=i
            ·skip
             go_wp2_with fail;refine HCp.out.mono ?_;rintro e w8 ⟨ev',pv',rfl,hmn8,hnw8,hb8⟩;obtain⟨xo,xc,rfl⟩:=hmn8.e.form;obtain⟨yo,yc,rfl⟩:=hmn8.p.form;have hb9:Below w8.heap.size w8 (w8.alloc (.cells #[.int .i64 n,.int .u32 m.pages,.slice xo m.ext.length xc,.slice yo m.ports.length yc,.bool m.con,.int .u32 pg,.int .u32 0] 351)):=Ba _;have hk9:=heap_alloc_new w8 (.cells #[.int .i64 n,.int .u32 m.pages,.slice xo m.ext.length xc,.slice yo m.ports.length yc,.bool m.con,.int .u32 pg,.int .u32 0] 351);have HS9:=Lh ((HSl.out.below hb8).below hb9);have HK9:=Lh hk9;have hz8:=hb8.size;have HB9:=Lh (bQ (bQ HBw.out hb8) hb9);have HM9:=Lh (And.intro (hmn8.below hb9) hnw8);have HZ9:Hid (wr.heap.size≤w8.heap.size):=Lh hz8;clear hmn8 hnw8 hb8 hb9 hk9 hz8 c0' c1' c2' c3' HCp;unfold Mn.cells;go_wp2_with (at_builtin;first
              |(
                refine wpList_append_slv _ rfl _ _ 298 rfl 351 i0 _ 7 80 Tryz.underlying298 hi0.out.1 hi0.out.2.1 hi0.out.2.2.1 hi0.out.2.2.2 rfl (by decide) _ i _ rfl HS9.out ⟨w8.heap.size,0,none⟩ 1 1 (⟨n,⟨m,pg,0⟩,.slice xo m.ext.length xc,.slice yo m.ports.length yc⟩:RcE).cells rfl (by omega) rfl (fun j u hu=>by rw[Addr.add_lit];unfold World.cell?;rw[HK9.out];simpa [RcE.cells] using hu) (fun u hu=>by simp[RcE.cells] at hu;rcases hu with rfl|rfl|rfl|rfl|rfl|rfl|rfl<;>rfl) (by unfold maxLen;omega) (by omega) ?_;intro v10 w10 hl10 hm10 ho10;obtain⟨o10,c10,rfl⟩:=hl10.form;have hzw:=HBw.out.size;have hz89:=HZ9.out;have hb10:Below w.heap.size w w10:=Mod.below HB9.out hm10 HB9.out.size fun k _ e=>by have:=(HOw.out k e).1;omega
                have hmz:MnAt w10 (.slice xo m.ext.length xc) (.slice yo m.ports.length yc) m:=HM9.out.1.mod hm10 (fun k hk e=>by have h1:=HM9.out.2 k (.inl hk);have h2:=HOw.out k e;omega) (fun k hk e=>by have h1:=HM9.out.2 k (.inr hk);have h2:=HOw.out k e;omega);have hfin:=fin_put (H.out w Br) (pg:=pg) (m:=m) (q:=i) (ev:=.slice xo m.ext.length xc) (pv:=.slice yo m.ports.length yc) (by omega) (HCan.out _ _) (okPut (H.out w Br).ok n1 n8 HNo.out HMo.out HCk.out p0 HG0.out.2) hb10 (o9:=o10) (c9:=c10) hl10 (fun k hk=>by
                 have hlt10:k<w10.heap.size:=by
                  obtain⟨k',h1,h2⟩:=hl10.lt (by omega);rw[h1] at hk;cases hk;exact h2
                 rcases ho10 with z|⟨k',z,z1⟩
                 ·rw[z] at hk;have:=(HOw.out k hk).1;exact⟨by omega,hlt10⟩
                 ·rw[z] at hk;cases hk;have:w8.heap.size≤(w8.alloc (.cells #[.int .i64 n,.int .u32 m.pages,.slice xo m.ext.length xc,.slice yo m.ports.length yc,.bool m.con,.int .u32 pg,.int .u32 0] 351)).heap.size:=by simp
                  exact⟨by omega,hlt10⟩) hmz (fun k hk=>by
                 have h1:=HM9.out.2 k hk;have h2:=hm10.size;have:w8.heap.size≤(w8.alloc (.cells #[.int .i64 n,.int .u32 m.pages,.slice xo m.ext.length xc,.slice yo m.ports.length yc,.bool m.con,.int .u32 pg,.int .u32 0] 351)).heap.size:=by simp
                 omega) HLv.out (some ad) (ac - i) (fun hk=>absurd hk (by have:=HIe.out;omega))
                obtain⟨o11,c11,w11,hr11,hc11,hf11,hend11⟩:=hfin;have HRun:=Lh hr11;have HEnd:=Lh hend11;have d10:=((H.out _ hb10).cells).2.2.1;rw[HLv.out] at d10;clear hl10 hm10 ho10 hb10 hmz hr11 hend11 hzw hz89)
              |refine R11.wpList_append_run rfl _ _ _ rfl rfl rfl HRun.out ?_)
             obtain⟨a',r1,r2⟩:=HEnd.out;have hend:=HOk.out _ a' HNb.out HNo.out HG0.out.1 r1 r2;clear r1 r2
             first
              |exact hend
              |(go_ret;exact hend)
            ·obtain⟨g,off,rfl⟩:∃g off,ad=⟨g,off,none⟩:=by
              rcases HRo.out.2 with⟨z,a9,z1⟩|⟨g,off,c9,cu9,z1,_⟩
              ·simp only[Value.slice.injEq] at z1;have:=HIe.out;omega
              ·simp only[Value.slice.injEq,Option.some.injEq] at z1;exact⟨g,off,z1.1⟩
             go_wp2_with fail;refine HCp.out.mono ?_;rintro e w8 ⟨ev',pv',rfl,hmn8,hnw8,hb8⟩;obtain⟨xo,xc,rfl⟩:=hmn8.e.form;obtain⟨yo,yc,rfl⟩:=hmn8.p.form;have hb9:Below w8.heap.size w8 (w8.alloc (.cells #[.int .i64 n,.int .u32 m.pages,.slice xo m.ext.length xc,.slice yo m.ports.length yc,.bool m.con,.int .u32 pg,.int .u32 0] 351)):=Ba _;have hk9:=heap_alloc_new w8 (.cells #[.int .i64 n,.int .u32 m.pages,.slice xo m.ext.length xc,.slice yo m.ports.length yc,.bool m.con,.int .u32 pg,.int .u32 0] 351);have HS9:=Lh ((HSl.out.below hb8).below hb9);have HK9:=Lh hk9;have hz8:=hb8.size;have HB9:=Lh (bQ (bQ HBw.out hb8) hb9);have HM9:=Lh (And.intro (hmn8.below hb9) hnw8);have HZ9:Hid (wr.heap.size≤w8.heap.size):=Lh hz8;clear hmn8 hnw8 hb8 hb9 hk9 hz8 c0' c1' c2' c3' HCp;unfold Mn.cells;go_wp2_with (at_builtin;first
              |(
                refine wpList_append_slv _ rfl _ _ 298 rfl 351 i0 _ 7 80 Tryz.underlying298 hi0.out.1 hi0.out.2.1 hi0.out.2.2.1 hi0.out.2.2.2 rfl (by decide) _ i _ rfl HS9.out ⟨w8.heap.size,0,none⟩ 1 1 (⟨n,⟨m,pg,0⟩,.slice xo m.ext.length xc,.slice yo m.ports.length yc⟩:RcE).cells rfl (by omega) rfl (fun j u hu=>by rw[Addr.add_lit];unfold World.cell?;rw[HK9.out];simpa [RcE.cells] using hu) (fun u hu=>by simp[RcE.cells] at hu;rcases hu with rfl|rfl|rfl|rfl|rfl|rfl|rfl<;>rfl) (by unfold maxLen;omega) (by omega) ?_;intro v10 w10 hl10 hm10 ho10;obtain⟨o10,c10,rfl⟩:=hl10.form;have hzw:=HBw.out.size;have hz89:=HZ9.out;have hb10:Below w.heap.size w w10:=Mod.below HB9.out hm10 HB9.out.size fun k _ e=>by have:=(HOw.out k e).1;omega
                have hmz:MnAt w10 (.slice xo m.ext.length xc) (.slice yo m.ports.length yc) m:=HM9.out.1.mod hm10 (fun k hk e=>by have h1:=HM9.out.2 k (.inl hk);have h2:=HOw.out k e;omega) (fun k hk e=>by have h1:=HM9.out.2 k (.inr hk);have h2:=HOw.out k e;omega);have hfin:=fin_put (H.out w Br) (pg:=pg) (m:=m) (q:=i) (ev:=.slice xo m.ext.length xc) (pv:=.slice yo m.ports.length yc) (by omega) (HCan.out _ _) (okPut (H.out w Br).ok n1 n8 HNo.out HMo.out HCk.out p0 HG0.out.2) hb10 (o9:=o10) (c9:=c10) hl10 (fun k hk=>by
                 have hlt10:k<w10.heap.size:=by
                  obtain⟨k',h1,h2⟩:=hl10.lt (by omega);rw[h1] at hk;cases hk;exact h2
                 rcases ho10 with z|⟨k',z,z1⟩
                 ·rw[z] at hk;have:=(HOw.out k hk).1;exact⟨by omega,hlt10⟩
                 ·rw[z] at hk;cases hk;have:w8.heap.size≤(w8.alloc (.cells #[.int .i64 n,.int .u32 m.pages,.slice xo m.ext.length xc,.slice yo m.ports.length yc,.bool m.con,.int .u32 pg,.int .u32 0] 351)).heap.size:=by simp
                  exact⟨by omega,hlt10⟩) hmz (fun k hk=>by
                 have h1:=HM9.out.2 k hk;have h2:=hm10.size;have:w8.heap.size≤(w8.alloc (.cells #[.int .i64 n,.int .u32 m.pages,.slice xo m.ext.length xc,.slice yo m.ports.length yc,.bool m.con,.int .u32 pg,.int .u32 0] 351)).heap.size:=by simp
                 omega) HLv.out (some ⟨g,off+i*7,none⟩) (ac - i) (fun hk=>absurd hk (by have:=HIe.out;omega))
                obtain⟨o11,c11,w11,hr11,hc11,hf11,hend11⟩:=hfin;have HRun:=Lh hr11;have HEnd:=Lh hend11;have d10:=((H.out _ hb10).cells).2.2.1;rw[HLv.out] at d10;clear hl10 hm10 ho10 hb10 hmz hr11 hend11 hzw hz89)
              |refine R11.wpList_append_run rfl _ _ _ rfl rfl rfl HRun.out ?_)
             obtain⟨a',r1,r2⟩:=HEnd.out;have hend:=HOk.out _ a' HNb.out HNo.out HG0.out.1 r1 r2;clear r1 r2
             first
              |exact hend
              |(go_ret;exact hend)
end
end Rc
namespace Rn
def wt(x:Int×ByteArray):List Value:=[.int .u16 x.1,.string x.2]
def wtC(L:List (Int×ByteArray)):List Value:=L.flatMap wt
def qOf(L:List (Int×ByteArray))(p:Int):List ByteArray:=(L.filter fun y=>y.1 == p).map (·.2)
theorem len_count(L:List (Int×ByteArray))(hp:∀y,y∈L→0≤y.1)(c:Nat)(hq:∀x,(qOf L x).length≤c):∀n:Nat,(L.filter fun y=>decide (y.1<(n:Int))).length≤c*n
 |0=>by
  have:(L.filter fun y=>decide (y.1<((0:Nat):Int)))=[]:=by
   rw[List.filter_eq_nil_iff];intro y hy;have:=hp y hy
   simp
   omega
  rw[this];exact Nat.zero_le _
 |n+1=>by
  have ih:=len_count L hp c hq n;have h1:=hq n;have:(L.filter fun y=>decide (y.1<((n+1:Nat):Int))).length≤(L.filter fun y=>decide (y.1<(n:Int))).length+(qOf L n).length:=by
   clear ih h1 hq hp;unfold qOf;rw[List.length_map]
   induction L with
   |nil=>simp
   |cons y l ihl=>
    by_cases a:y.1<(n:Int)
    ·have b:y.1<((n+1:Nat):Int):=by omega
     have d:¬y.1=(n:Int):=by omega
     rw[List.filter_cons_of_pos (by simpa using b),List.filter_cons_of_pos (by simpa using a),List.filter_cons_of_neg (by simpa using d),List.length_cons,List.length_cons];omega
    ·by_cases d:y.1=(n:Int)
     ·have b:y.1<((n+1:Nat):Int):=by omega
      rw[List.filter_cons_of_pos (by simpa using b),List.filter_cons_of_neg (by simpa using a),List.filter_cons_of_pos (by simpa using d),List.length_cons,List.length_cons];omega
     ·have b:¬y.1<((n+1:Nat):Int):=by omega
      rw[List.filter_cons_of_neg (by simpa using b),List.filter_cons_of_neg (by simpa using a),List.filter_cons_of_neg (by simpa using d)];exact ihl
  rw[Nat.mul_succ];omega
theorem len_le{L:List (Int×ByteArray)}(hp:∀y,y∈L→0≤y.1∧y.1<65536)(hq:∀x,(qOf L x).length≤8):L.length≤524288:=by
 have h:=len_count L (fun y hy=>(hp y hy).1) 8 hq 65536;have e:(L.filter fun y=>decide (y.1<((65536:Nat):Int)))=L:=by
  rw[List.filter_eq_self];intro y hy;have:=(hp y hy).2
  simpa using this
 rw[e] at h;omega
end Rn
structure RnAt where
 rb:Nat
 lv:Value
 sv:Value
 L:List (Int×ByteArray)
structure Rns(w:World)(a:RnAt)(S:Ni.NicS):Prop where
 head:w.heap[a.rb]? =some (.cells #[a.lv,a.sv,.int .i64 S.gone] 303 (0,0))
 row:SlV w 311 2 a.lv a.L.length (Rn.wtC a.L)
 out:SlV w 9 1 a.sv S.sent.length (S.sent.map Value.string)
 q:∀x,S.q x=Rn.qOf a.L x
 pt:∀y,y∈a.L→(0≤y.1∧y.1<65536)∧y.2.size≤128
 q8:∀x,(S.q x).length≤8
 lr:∀k,a.lv.ownBlock=some k→k≠a.rb∧k<w.heap.size∧a.sv.ownBlock≠some k
 sr:∀k,a.sv.ownBlock=some k→k≠a.rb∧k<w.heap.size
def RnAt.wf(a:RnAt)(k:Nat):Prop:=k=a.rb∨a.lv.ownBlock=some k∨a.sv.ownBlock=some k
namespace Rns
variable {w w':World} {a:RnAt} {S:Ni.NicS}
theorem mod{F:Nat→Prop}(h:Rns w a S)(hm:Mod F w w')(hF:∀k,a.wf k→¬F k):Rns w' a S:=
 ⟨(hm.block _ (lQ h.head) (hF _ (.inl rfl))).trans h.head,h.row.mod hm fun k hk=>hF k (.inr (.inl hk)),h.out.mod hm fun k hk=>hF k (.inr (.inr hk)),h.q,h.pt,h.q8,fun k hk=>⟨(h.lr k hk).1,Nat.lt_of_lt_of_le (h.lr k hk).2.1 hm.size,(h.lr k hk).2.2⟩,fun k hk=>⟨(h.sr k hk).1,Nat.lt_of_lt_of_le (h.sr k hk).2 hm.size⟩⟩
theorem cells(h:Rns w a S):w.cell? ⟨a.rb,0,none⟩=some a.lv∧w.cell? ⟨a.rb,1,none⟩=some a.sv∧w.cell? ⟨a.rb,2,none⟩=some (.int .i64 S.gone)∧∀i,w.frozen? ⟨a.rb,i,none⟩=false:=by
 refine⟨?_, ?_, ?_,fun i=> ?_⟩
 ·unfold World.cell?;rw[h.head];rfl
 ·unfold World.cell?;rw[h.head];rfl
 ·unfold World.cell?;rw[h.head];rfl
 ·unfold World.frozen?;rw[h.head];simp
theorem len(h:Rns w a S):a.L.length≤524288:=Rn.len_le (fun y hy=>(h.pt y hy).1) fun x=>by rw[←h.q];exact h.q8 x
end Rns
structure RkAt where
 kb:Nat
 c:RcAt
 n:RnAt
 bv:Value
 rows:List Value
 tag:Nat→Nat
def RkAt.wf(a:RkAt)(k:Nat):Prop:=a.tag k≠0∧a.tag k≠5
structure Rkl(w:World)(a:RkAt)(K:Kn):Prop where
 head:w.heap[a.kb]? =some (.cells #[.pointer (some ⟨a.c.rb,0,none⟩),.pointer (some ⟨a.n.rb,0,none⟩),a.bv,.int .u32 K.now] 222 (0,0))
 hx:RwV w 1 a.c.hv K.hx.length (K.hx.map (Value.int .u32))
 caps:Rcs w a.c K.hp K.g
 nic:Rns w a.n K.N
 len:a.rows.length=K.B.length
 outer:SlV w 265 1 a.bv a.rows.length a.rows
 inner:∀(i:Nat) (v:Value) (l:List ByteArray),a.rows[i]? =some v→K.B[i]? =some l→SlV w 9 1 v l.length (l.map .string)
 bl:K.B.length≤16∧∀(i:Nat) (l:List ByteArray),K.B[i]? =some l→l.length≤1024
 ok:K.Ok
 t1:a.tag a.kb=1
 t2:∀k,a.c.wf k∨a.c.rf k→a.tag k=2
 t3:∀k,a.n.wf k→a.tag k=3
 t5:∀k,((K.hx.length≠0∧a.c.hv.ownBlock=some k)∨a.bv.ownBlock=some k∨∃v,v∈a.rows∧v.ownBlock=some k)→a.tag k=5
 lt:∀k,a.tag k≠0→k<w.heap.size
namespace Rkl
variable {w w':World} {a a':RkAt} {K K':Kn}
theorem keep{F:Nat→Prop}(h:Rkl w a K)(hm:Mod F w w')(hF:∀k,a.tag k≠0→¬F k):Rkl w' a K:=
 {
  h with
  head:=(hm.block _ (lQ h.head) (hF _ (by rw[h.t1];decide))).trans h.head
  hx:=h.hx.mod hm fun k hn hk=>hF k (by rw[h.t5 k (.inl ⟨hn,hk⟩)];decide)
  caps:=h.caps.mod hm fun k hk=>hF k (by rw[h.t2 k hk];decide)
  nic:=h.nic.mod hm fun k hk=>hF k (by rw[h.t3 k hk];decide)
  outer:=h.outer.mod hm fun k hk=>hF k (by rw[h.t5 k (.inr (.inl hk))];decide)
  inner:=fun i v l hv hl=>(h.inner i v l hv hl).mod hm fun k hk=>hF k (by rw[h.t5 k (.inr (.inr ⟨v,List.mem_of_getElem? hv,hk⟩))];decide)
  lt:=fun k hk=>Nat.lt_of_lt_of_le (h.lt k hk) hm.size }
theorem below(h:Rkl w a K)(hb:Below w.heap.size w w'):Rkl w' a K:=h.keep (Mod.of_below hb (fun _=>False)) fun _ _ q=>q
theorem cells(h:Rkl w a K):w.cell? ⟨a.kb,0,none⟩=some (.pointer (some ⟨a.c.rb,0,none⟩))∧w.cell? ⟨a.kb,1,none⟩=some (.pointer (some ⟨a.n.rb,0,none⟩))∧w.cell? ⟨a.kb,2,none⟩=some a.bv∧w.cell? ⟨a.kb,3,none⟩=some (.int .u32 K.now):=by
 refine⟨?_, ?_, ?_, ?_⟩
 all_goals
  unfold World.cell?;rw[h.head];rfl
end Rkl
structure RkStep(w w':World)(a:RkAt)(K:Kn)(a':RkAt)(K':Kn):Prop where
 k:Rkl w' a' K'
 same:a'.kb=a.kb∧a'.c.rb=a.c.rb∧a'.n.rb=a.n.rb
 mod:Mod a.wf w w'
 tag:∀k,k<w.heap.size→a'.tag k=a.tag k
namespace RkStep
variable {w w' w'':World} {a a' a'':RkAt} {K K' K'':Kn}
theorem refl(h:Rkl w a K):RkStep w w a K a K:=⟨h,⟨rfl,rfl,rfl⟩,Mod.refl _ _,fun _ _=>rfl⟩
theorem of_below(h:Rkl w a K)(hb:Below w.heap.size w w'):RkStep w w' a K a K:=⟨h.below hb,⟨rfl,rfl,rfl⟩,Mod.of_below hb _,fun _ _=>rfl⟩
theorem wfoot(s:RkStep w w' a K a' K')(k:Nat)(hk:a'.wf k):a.wf k∨w.heap.size≤k:=by
 rcases Nat.lt_or_ge k w.heap.size with g|g
 ·exact .inl (by unfold RkAt.wf;rw[←s.tag k g];exact hk)
 ·exact .inr g
theorem trans(s:RkStep w w' a K a' K')(t:RkStep w' w'' a' K' a'' K''):RkStep w w'' a K a'' K'':=
 ⟨t.k,⟨t.same.1.trans s.same.1,t.same.2.1.trans s.same.2.1,t.same.2.2.trans s.same.2.2⟩,s.mod.trans t.mod fun i _ g=>s.wfoot i g,fun k hk=>(t.tag k (Nat.lt_of_lt_of_le hk s.mod.size)).trans (s.tag k hk)⟩
theorem setCaps(h:Rkl w a K){c:RcAt}{G:Int→Option Gr}(hc:Rcs w' c K.hp G)(hr:c.rb=a.c.rb)(hv:c.hv=a.c.hv)(hf:∀k,c.wf k∨c.rf k→(a.c.wf k∨a.c.rf k)∨w.heap.size≤k∧k<w'.heap.size)(hm:Mod (fun k=>a.c.wf k∨a.c.rf k) w w'):RkStep w w' a K { a with c:=c,tag:=KStep.grow w w' a.tag 2 } { K with g:=G }:=by
 have ne:∀k,a.tag k≠2→¬(a.c.wf k∨a.c.rf k):=fun k hk e=>hk (h.t2 k e)
 have old:∀k,a.tag k≠0→KStep.grow w w' a.tag 2 k=a.tag k:=fun k hk=>KStep.grow_old (h.lt k hk)
 have hR:Rkl w' { a with c:=c,tag:=KStep.grow w w' a.tag 2 } { K with g:=G }:=
     {
      head:=by rw[hr];exact(hm.block _ (lQ h.head) (ne _ (by rw[h.t1];decide))).trans h.head
      hx:=by rw[hv];exact h.hx.mod hm fun k hn hk=>ne k (by rw[h.t5 k (.inl ⟨hn,hk⟩)];decide)
      caps:=hc
      nic:=h.nic.mod hm fun k hk=>ne k (by rw[h.t3 k hk];decide)
      len:=h.len
      outer:=h.outer.mod hm fun k hk=>ne k (by rw[h.t5 k (.inr (.inl hk))];decide)
      inner:=fun i v l hv hl=>(h.inner i v l hv hl).mod hm fun k hk=>ne k (by rw[h.t5 k (.inr (.inr ⟨v,List.mem_of_getElem? hv,hk⟩))];decide)
      bl:=h.bl
      ok:=⟨h.ok.n0,h.ok.n1,h.ok.bs,h.ok.q,h.ok.hl,h.ok.g0⟩
      t1:=by show KStep.grow w w' a.tag 2 a.kb=1;rw[old _ (by rw[h.t1];decide)];exact h.t1
      t2:=fun k hk=>by
       show KStep.grow w w' a.tag 2 k=2
       rcases hf k hk with z|⟨z1,z2⟩
       ·rw[old _ (by rw[h.t2 k z];decide)];exact h.t2 k z
       ·unfold KStep.grow;rw[if_neg (by omega),if_pos z2]
      t3:=fun k hk=>by show KStep.grow w w' a.tag 2 k=3;rw[old _ (by rw[h.t3 k hk];decide)];exact h.t3 k hk
      t5:=fun k hk=>by
       have hk':(K.hx.length≠0∧a.c.hv.ownBlock=some k)∨a.bv.ownBlock=some k∨∃v,v∈a.rows∧v.ownBlock=some k:=by rw[←hv];exact hk
       show KStep.grow w w' a.tag 2 k=5
       rw[old _ (by rw[h.t5 k hk'];decide)];exact h.t5 k hk'
      lt:=fun k hk=>by
       have hk:KStep.grow w w' a.tag 2 k≠0:=hk;unfold KStep.grow at hk;have:=hm.size
       split at hk
       ·omega
       ·split at hk
        ·assumption
        ·exact absurd rfl hk }
 refine⟨hR,⟨rfl,hr,rfl⟩,hm.mono fun k _ e=>⟨by rw[h.t2 k e];decide,by rw[h.t2 k e];decide⟩,fun k hk=>KStep.grow_old hk⟩
end RkStep
namespace Rk
theorem info_strs:(Tryz.prog.info? 265).map (fun i=>(i.zero,i.size,i.bytes))=some (some (.slice none 0 0),1,24):=by kernel_rfl
end Rk
end Go.Proofs.YtnpicaigdfnmfaaGreat
