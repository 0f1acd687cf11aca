/- R19F, RnP, R20, R20B, R20C in one text. -/
import Derived.Test.YtjjdjpdmgaipeaaGreatCpR19C
import Derived.Test.YtjjdjpdmgaipeaaGreatCpRspF
import Derived.Test.YtjjdjpdmgaipeaaGreatCpZa
set_option linter.unusedVariables false
set_option linter.unusedSimpArgs false
set_option maxRecDepth 100000
set_option maxHeartbeats 16000000
open Go.Proofs.Tryz
namespace Go.Proofs.YtjjdjpdmgaipeaaGreat
open Go.RowKit
namespace Rc
section
variable {w:World} {a:RcAt} {hp:Int} {G:Int→Option Gr}
theorem okPut(h:Gp.OkG hp G){n pg:Int}{m:Mn}(n1:1≤n)(n8:n≤8)(hn:G n=none)(hm:m.ok)(hc:Gp.checkE m=0)(p0:0≤pg)(hf:Gp.sum G+(m.pages+pg)≤hp):Gp.OkG hp (Gp.upd G n (some ⟨m,pg,0⟩)):=by
 refine⟨fun k=> ?_,fun k hk=> ?_, ?_,fun k g hg=> ?_,h.h1⟩
 ·by_cases e:k=n
  ·subst e;rw[Gp.upd_at];intro g hg;cases hg;exact⟨hm,Int.le_refl 0,hm.p0,p0⟩
  ·rw[Gp.upd_ne _ _ e];exact h.ok k
 ·by_cases e:k=n
  ·subst e;exact⟨n1,n8⟩
  ·rw[Gp.upd_ne _ _ e] at hk;exact h.dom k hk
 ·rw[Gp.sum_put n1 n8,hn]
  show Gp.sum G+(m.pages+pg - 0)≤hp
  omega
 ·by_cases e:k=n
  ·subst e;rw[Gp.upd_at] at hg;cases hg;exact hc
  ·rw[Gp.upd_ne _ _ e] at hg;exact h.may k g hg
def RgP(w:World)(a:RcAt)(hp:Int)(hx:List Int)(G:Int→Option Gr)(n:Int)(m:Mn)(pg:Int)(e:Ending)(w':World):Prop:=
 (Ca.grantE hp hx G n m pg≠0∧e=.returned (.int .i64 (Ca.grantE hp hx G n m pg))∧Below w.heap.size w w')∨
 (Ca.grantE hp hx G n m pg=0∧e=.returned (.int .i64 0)∧∃a',Rcs w' a' hp (Gp.upd G n (some ⟨m,pg,0⟩))∧a'.rb=a.rb∧a'.hv=a.hv∧(∀k,a'.rf k→a.rf k∨w.heap.size≤k∧k<w'.heap.size)∧(∀k,a'.lv.ownBlock=some k→w.heap.size≤k∧k<w'.heap.size)∧Mod (fun k=>k=a.rb) w w')
theorem gap(h:Rcs w a hp G){n:Int}(n1:1≤n)(n8:n≤8)(hn:G n=none):(lo G n).length≤a.L.length∧(∀(i:Nat) (x:RcE),a.L[i]? =some x→(i<(lo G n).length→x.n<n)∧((lo G n).length≤i→n<x.n)):=by
 have hk:=h.can;rw[canon_none n1 n8 hn] at hk;refine⟨?_,fun i x hx=>⟨fun hi=> ?_,fun hi=> ?_⟩⟩
 ·have:=congrArg List.length hk;rw[List.length_map,List.length_append] at this;omega
 ·have hki:(a.L.map RcE.key)[i]? =some x.key:=by rw[List.getElem?_map,hx];rfl
  rw[hk,List.getElem?_append_left hi] at hki;exact(mem_lo (List.mem_of_getElem? hki)).1
 ·have hki:(a.L.map RcE.key)[i]? =some x.key:=by rw[List.getElem?_map,hx];rfl
  rw[hk,List.getElem?_append_right hi] at hki;exact(mem_hi (List.mem_of_getElem? hki)).1
theorem can_put(h:Rcs w a hp G){n pg:Int}{m:Mn}{ev pv:Value}(n1:1≤n)(n8:n≤8)(hn:G n=none):((a.L.take (lo G n).length++[(⟨n,⟨m,pg,0⟩,ev,pv⟩:RcE)])++a.L.drop (lo G n).length).map RcE.key=canon (Gp.upd G n (some ⟨m,pg,0⟩)):=by
 rw[canon_put n1 n8,List.map_append,List.map_append,List.map_take,List.map_drop,h.can,canon_none n1 n8 hn,List.take_left' rfl,List.drop_left' rfl];simp[RcE.key]
theorem fin_put(h:Rcs w a hp G){n pg:Int}{m:Mn}{q:Nat}{ev pv:Value}(hq:q≤a.L.length)(hcan:((a.L.take q++[(⟨n,⟨m,pg,0⟩,ev,pv⟩:RcE)])++a.L.drop q).map RcE.key=canon (Gp.upd G n (some ⟨m,pg,0⟩)))(hok:Gp.OkG hp (Gp.upd G n (some ⟨m,pg,0⟩)))
  {W:World} (hb:Below w.heap.size w W) {o9:Option Addr} {c9:Nat} (hs:SlV W 263 7 (.slice o9 (q+1) c9) (q+1) (rcC (a.L.take q)++(⟨n,⟨m,pg,0⟩,ev,pv⟩:RcE).cells)) (hown:∀k,(Value.slice o9 (q+1) c9).ownBlock=some k→w.heap.size≤k∧k<W.heap.size)
  (hmn:MnAt W ev pv m) (hnew:∀k,ev.ownBlock=some k∨pv.ownBlock=some k→w.heap.size≤k∧k<W.heap.size) {ao:Option Addr} {ac:Nat} (hlv:a.lv=.slice ao a.L.length ac) (A:Option Addr) (cap:Nat) (hA:q<a.L.length→∃g off,ao=some ⟨g,off,none⟩∧A=some ⟨g,off+q*7,none⟩):
  ∃o10 c10 W10,(Builtin.append_ #[259,259] 259 #[.slice o9 (q+1) c9,.slice A (a.L.length - q) cap]).run Tryz.prog W=.ok (.slice o10 (q+1+(a.L.length - q)) c10) W10∧
   W10.cell? ⟨a.rb,2,none⟩=some (.slice ao a.L.length ac)∧W10.frozen? ⟨a.rb,2,none⟩=false∧
   (∃a',Rcs (W10.setCell ⟨a.rb,2,none⟩ (.slice o10 (q+1+(a.L.length - q)) c10)) a' hp (Gp.upd G n (some ⟨m,pg,0⟩))∧a'.rb=a.rb∧a'.hv=a.hv∧(∀k,a'.rf k→a.rf k∨w.heap.size≤k∧k<(W10.setCell ⟨a.rb,2,none⟩ (.slice o10 (q+1+(a.L.length - q)) c10)).heap.size)∧(∀k,a'.lv.ownBlock=some k→w.heap.size≤k∧k<(W10.setCell ⟨a.rb,2,none⟩ (.slice o10 (q+1+(a.L.length - q)) c10)).heap.size)∧Mod (fun k=>k=a.rb) w (W10.setCell ⟨a.rb,2,none⟩ (.slice o10 (q+1+(a.L.length - q)) c10))):=by
 obtain⟨i0,hi0',hz0,hz1,hz2⟩:=info_parts info_gr;have h9:=h.below hb;have hl:=h.len;have hrow:=h9.row;rw[hlv] at hrow;obtain⟨o10,c10,W10,hr,hs10,hm10,ho10⟩:=Rw.app (W:=W) (t:=259) Rw.none_gr Tryz.underlying259 hi0' hz0 hz1 hz2 rfl (by omega) (by omega) hs (m:=a.L.length - q) (cap:=cap) (ys:=(rcC a.L).drop (q*7)) (by rw[List.length_drop,rcC_len];omega) (a:=A) (by
  rcases Nat.lt_or_ge q a.L.length with z|z
  ·obtain⟨g,off,rfl,rfl⟩:=hA z;have:=Rw.at_part hrow rfl q a.L.length (by omega) (Nat.le_refl _);rw[List.take_of_length_le (by rw[List.length_drop,rcC_len];omega)] at this;exact this
  ·intro k u hu;rw[List.drop_eq_nil_of_le (by rw[rcC_len];omega)] at hu;simp at hu) (by omega) (fun u hu=>one_cells h u (List.mem_of_mem_drop hu))
 have hfr:∀k,k<w.heap.size→(Value.slice o9 (q+1) c9).ownBlock≠some k:=fun k hk e=>by have:=(hown k e).1;omega
 have hbW:Below w.heap.size w W10:=Mod.below hb hm10 hb.size fun k _ e=>(hown k e).1
 have h10:=h.below hbW;refine⟨o10,c10,W10,hr,by rw[h10.cells.2.2.1,hlv],h10.cells.2.2.2 2, ?_⟩;have hlen:q+1+(a.L.length - q)=((a.L.take q++[(⟨n,⟨m,pg,0⟩,ev,pv⟩:RcE)])++a.L.drop q).length:=by simp;omega
 have hs2:SlV W10 263 7 (.slice o10 (q+1+(a.L.length - q)) c10) ((a.L.take q++[(⟨n,⟨m,pg,0⟩,ev,pv⟩:RcE)])++a.L.drop q).length (rcC ((a.L.take q++[(⟨n,⟨m,pg,0⟩,ev,pv⟩:RcE)])++a.L.drop q)):=by
  rw[←hlen,rcC_app,rcC_app,rcC_drop,show rcC [(⟨n,⟨m,pg,0⟩,ev,pv⟩:RcE)]=(⟨n,⟨m,pg,0⟩,ev,pv⟩:RcE).cells by unfold rcC;simp];exact hs10
 have hm10m:MnAt W10 ev pv m:=by
  have hc:∃cc,W.heap.size=cc:=⟨_,rfl⟩;have hk:∀ {ty:TypeId} {s n:Nat} {v:Value} {xs:List Value},SlV W ty s v n xs→263≠ty→SlV W10 ty s v n xs:=fun hsl hty=>by
   refine⟨hsl.1, ?_⟩;rcases hsl.2 with z|⟨g',o',c',cu',rfl,hgg,rest⟩
   ·exact .inl z
   ·refine .inr ⟨g',o',c',cu',rfl,(hm10.block _ (lQ hgg) (fun e=> ?_)).trans hgg,rest⟩;rcases hs.2 with⟨z,_⟩|⟨g2,o2,c2,cu2,e2,hg2,_⟩
    ·omega
    ·rw[e2] at e;cases e;rw[hg2] at hgg;cases hgg;exact hty rfl
  exact⟨hk hmn.e (by decide),hk hmn.p (by decide)⟩
 obtain⟨r1,r2⟩:=newRow h hbW hs2 (fun y hy=>by
  rcases List.mem_append.1 hy with z|z
  ·rcases List.mem_append.1 z with z|z
   ·exact(h.mns y (List.mem_of_mem_take z)).below hbW
   ·simp at z;subst z;exact hm10m
  ·exact(h.mns y (List.mem_of_mem_drop z)).below hbW) hcan hok
 have hz:=r2.size;have hzW:=hm10.size;refine⟨_,r1,rfl,rfl,fun k hk=> ?_,fun k hk=> ?_,(Mod.of_below hbW _).same r2⟩
 ·obtain⟨y,hy,hk⟩:=hk;rcases List.mem_append.1 hy with z|z
  ·rcases List.mem_append.1 z with z|z
   ·exact .inl ⟨y,List.mem_of_mem_take z,hk⟩
   ·simp at z;subst z;refine .inr ?_;have:=hnew k hk;omega
  ·exact .inl ⟨y,List.mem_of_mem_drop z,hk⟩
 ·have hk:(Value.slice o10 (q+1+(a.L.length - q)) c10).ownBlock=some k:=hk;rcases ho10 with z|⟨k',z,z1,z2⟩
  ·rw[z] at hk;have:=hown k hk;omega
  ·rw[z] at hk;cases hk;have:=hb.size;omega
def ngRel(w:World)(m:Mn)(ev pv:Value)(f:Int×Int→Bool)(vi:Value)(wr:World):Prop:=
 ∃i:Nat,i≤m.ext.length∧vi=.int .i64 i∧(∀(k:Nat) (x:Int×Int),k<i→m.ext[k]? =some x→f x=false)∧Below w.heap.size w wr∧MBx wr w.heap.size m ev pv
def roRel(w:World)(L:List RcE)(q:Nat)(m:Mn)(ev pv:Value)(vl vi:Value)(wr:World):Prop:=
 ∃i:Nat,i≤q∧vi=.int .i64 i∧(∃o c,vl=.slice o i c)∧SlV wr 263 7 vl i (rcC (L.take i))∧(∀k,vl.ownBlock=some k→w.heap.size+1≤k∧k<wr.heap.size)∧Below w.heap.size w wr∧MBx wr w.heap.size m ev pv
theorem four0{x y z u:Int}(h:x≠0):firstE [x,y,z,u]=x:=by
 unfold firstE;simp only[List.find?_cons,bne_iff_ne.2 h];rfl
theorem four1{y z u:Int}(h:y≠0):firstE [0,y,z,u]=y:=by
 unfold firstE;simp only[List.find?_cons,bne_iff_ne.2 h];rfl
theorem four2{z u:Int}(h:z≠0):firstE [0,0,z,u]=z:=by
 unfold firstE;simp only[List.find?_cons,bne_iff_ne.2 h];rfl
theorem four3{u:Int}:firstE [0,0,0,u]=u:=by
 unfold firstE
 by_cases h:u=0
 ·subst h;rfl
 ·simp only[List.find?_cons,bne_iff_ne.2 h];rfl
theorem grant(h:Rcs w a hp G){hx:List Int}(hh:RwV w 1 a.hv hx.length (hx.map (Value.int .u32)))(hl:hx.length≤16){n pg:Int}(p0:0≤pg){m:Mn}{ev pv:Value}(hm:MnIn w ev pv m)(hok:m.ok):
  Calls Tryz.prog 73 #[.pointer (some ⟨a.rb,0,none⟩),.int .i64 n,.agg (m.cells ev pv),.int .u32 pg] w (RgP w a hp hx G n m pg):=by
 obtain⟨eo,ec,rfl⟩:=hm.e.form;obtain⟨po,pc,rfl⟩:=hm.p.form;obtain⟨ho,hc,hhv⟩:=hh.form;have hcap:=rw_len hm.e;unfold maxLen at hcap;have HBad:Hid (∀V,n<1∨8<n∨Gp.checkE m≠0∨4096<pg→Below w.heap.size w V→RgP w a hp hx G n m pg (.returned (.int .i64 2)) V):=Lh fun V h1 h2=>by
  have e:Ca.grantE hp hx G n m pg=2:=if_pos h1;exact .inl ⟨by rw[e];decide,by rw[e],h2⟩
 have HHv:Hid (∀V,¬(n<1∨8<n∨Gp.checkE m≠0∨4096<pg)→(G n).isSome=true→Below w.heap.size w V→RgP w a hp hx G n m pg (.returned (.int .i64 9)) V):=Lh fun V h1 h2 h3=>by
  have e:Ca.grantE hp hx G n m pg=9:=(if_neg h1).trans (if_pos h2);exact .inl ⟨by rw[e];decide,by rw[e],h3⟩
 have HGr:Hid (∀V e,¬(n<1∨8<n∨Gp.checkE m≠0∨4096<pg)→G n=none→Ca.grE hp hx G m pg=e→e≠0→Below w.heap.size w V→RgP w a hp hx G n m pg (.returned (.int .i64 e)) V):=Lh fun V e h1 hn h2 h0 h3=>by
  have q:Ca.grantE hp hx G n m pg=e:=((if_neg h1).trans (if_neg (by rw[hn];simp))).trans h2;exact .inl ⟨by rw[q];exact h0,by rw[q],h3⟩
 have HOk:Hid (∀V a',¬(n<1∨8<n∨Gp.checkE m≠0∨4096<pg)→G n=none→Ca.grE hp hx G m pg=0→Rcs V a' hp (Gp.upd G n (some ⟨m,pg,0⟩))→a'.rb=a.rb∧a'.hv=a.hv∧(∀k,a'.rf k→a.rf k∨w.heap.size≤k∧k<V.heap.size)∧(∀k,a'.lv.ownBlock=some k→w.heap.size≤k∧k<V.heap.size)∧Mod (fun k=>k=a.rb) w V→RgP w a hp hx G n m pg (.returned (.int .i64 0)) V):=Lh fun V a' h1 hn h2 h3 h4=>by
  have q:Ca.grantE hp hx G n m pg=0:=((if_neg h1).trans (if_neg (by rw[hn];simp))).trans h2;exact .inr ⟨q,rfl,a',h3,h4⟩
 generalize RgP w a hp hx G n m pg=PQ at*;have H:=Lh fun V (hV:Below w.heap.size w V)=>h.below hV
 have HH:=Lh fun V (hV:Below w.heap.size w V)=>hh.below hV
 have HMn:=Lh fun V (hV:Below w.heap.size w V)=>hm.below hV
 have HMo:=Lh hok;have hb:=(Below.refl w.heap.size w).alloc (Nat.le_refl _) (.cells (m.cells (.slice eo m.ext.length ec) (.slice po m.ports.length pc)) 29);have hk:=heap_alloc_new w (.cells (m.cells (.slice eo m.ext.length ec) (.slice po m.ports.length pc)) 29);obtain⟨c0,c1,c2,c3,cf⟩:=man_cells hk;have HB:=Lh hb;have HBx:=Lh (show MBx _ w.heap.size m (.slice eo m.ext.length ec) (.slice po m.ports.length pc) from hk);have HMy:=Lh (R11.may (hm.below hb) hok);unfold Mn.cells at*;clear hb hk hm hok
 by_cases q1:n<1
 ·have hend:=HBad.out _ (.inl q1) HB.out;go_enter func73,ntmps73;go_wp2
  first
   |exact hend
   |(go_ret;exact hend)
 by_cases q8:8<n
 ·have hend:=HBad.out _ (.inr (.inl q8)) HB.out;go_enter func73,ntmps73;go_wp2
  first
   |exact hend
   |(go_ret;exact hend)
 go_enter func73,ntmps73;go_wp2_with fail;refine HMy.out.mono ?_;rintro e w2 ⟨rfl,hb2⟩;have HB2:=Lh (bQ HB.out hb2);have HBx2:=Lh (HBx.out.below hb2);clear hb2 c0 c1 c2 c3 cf HBx HMy;obtain⟨bm,hbm⟩:∃b,Gp.mayM m=b:=⟨_,rfl⟩;rw[hbm];cases bm with
 |false=>
  have hend:=HBad.out w2 (.inr (.inr (.inl (by unfold Gp.checkE;rw[hbm];decide)))) HB2.out;clear hbm;go_wp2
  first
   |exact hend
   |(go_ret;exact hend)
 |true=>
  have HCk:Hid (Gp.checkE m=0):=Lh (by unfold Gp.checkE;rw[if_pos hbm]);clear hbm
  by_cases qp:4096<pg
  ·have hend:=HBad.out w2 (.inr (.inr (.inr qp))) HB2.out;go_wp2
   first
    |exact hend
    |(go_ret;exact hend)
  have HNb:Hid (¬(n<1∨8<n∨Gp.checkE m≠0∨4096<pg)):=Lh (by have:=HCk.out;omega);have HFd:=Lh (find (H.out w2 HB2.out) n)
  by_cases hgn:(G n).isSome=true
  ·obtain⟨g,hg⟩:=Option.isSome_iff_exists.1 hgn;obtain⟨i,x,hix,_⟩:=of_some (H.out w2 HB2.out) hg;unfold idxV at HFd;rw[hix] at HFd;have hend:=HHv.out w2 HNb.out hgn HB2.out;have i0:(0:Int)≤i:=by omega
   clear hg hix hgn;go_wp2_with fail;refine HFd.out.mono ?_;rintro e w3 ⟨rfl,rfl⟩;go_wp2
   first
    |exact hend
    |(go_ret;exact hend)
  have HNo:Hid (G n=none):=Lh (by cases q:G n with|none=>rfl|some g=>rw[q] at hgn;exact absurd rfl hgn);unfold idxV at HFd;rw[of_none (H.out w2 HB2.out) HNo.out] at HFd;clear hgn;go_wp2_with fail;refine HFd.out.mono ?_;rintro e w3 ⟨rfl,rfl⟩;have HR0:Hid (ngRel w m (.slice eo m.ext.length ec) (.slice po m.ports.length pc) (fun x=>decide ((hx.length:Int)≤x.1)) (.int .i64 0) w2):=Lh ⟨0,by omega,rfl,fun k _ hk=>absurd hk (Nat.not_lt_zero _),HB2.out,HBx2.out⟩;clear HFd HB2 HBx2 HBad HHv;go_wp2;go_loopw [9] (fun vi wr=>ngRel w m (.slice eo m.ext.length ec) (.slice po m.ports.length pc) (fun x=>decide ((hx.length:Int)≤x.1)) vi wr) (fun vi _=>m.ext.length - (intOf vi).toNat)
  case atStart=>exact HR0.out
  case round=>
   clear HR0;obtain⟨i,hi,rfl,hno,hbw,hbx⟩:=hrel;have HNk:=Lh hno;have HBw:=Lh hbw;have HBx:=Lh hbx;obtain⟨c0,c1,c2,c3,cf⟩:=man_cells hbx
   by_cases hin:i<m.ext.length
   ·obtain⟨gg,off,heo,e0,e1⟩:=ext_cellsR (HMn.out _ hbw).e (Zg hin);obtain⟨x,hxe⟩:∃x,m.ext[i]=x:=⟨_,rfl⟩;rw[hxe] at e0 e1;have HX:Hid (m.ext[i]? =some x):=Lh (by rw[Zg hin,hxe]);have hi1:(i:Int)<m.ext.length:=by omega
    obtain⟨d0,d1,d2,_⟩:=(H.out _ hbw).cells;rw[hhv] at d1;have wl:IntKind.u32.wrap (hx.length:Int)=hx.length:=wrap32 (by omega) (by omega);subst heo;clear hno hbw hbx hxe e1 d0 d2 c0 c2 c3 cf;obtain⟨bb,hbb⟩:∃b,decide (x.1≥(hx.length:Int))=b:=⟨_,rfl⟩;go_wp2;refine B (fun V=>V.cell? ⟨w.heap.size,1,none⟩=some (.slice (some ⟨gg,off,none⟩) m.ext.length ec)∧V.cell? ⟨gg,off+i*2,none⟩=some (.int .u32 x.1)∧V.cell? ⟨a.rb,1,none⟩=some (.slice ho hx.length hc)) ⟨c1,e0,d1⟩ fun wd hwd hS=> ?_
    have HWd:Hid (Below w.heap.size w wd):=Lh (by rw[hwd];exact HBw.out.drew);have HXd:Hid (MBx wd w.heap.size m (.slice (some ⟨gg,off,none⟩) m.ext.length ec) (.slice po m.ports.length pc)):=Lh (by rw[hwd];exact HBx.out.below Br.drew);clear hwd c1 e0 d1;refine T 0 hS ?_;refine T 1 hS ?_;refine T 2 hS ?_;refine T 3 hS ?_;refine T 4 hS ?_;refine T 5 hS ?_;refine T 6 hS ?_;refine T 7 hS ?_;refine T 8 hS ?_;refine T 9 hS ?_;refine T 10 hS ?_;refine U 11 fun K hK=> ?_
    go_simp;refine V hK hS ?_;clear hK K;refine T 12 hS ?_;refine T 13 hS ?_;refine wpAnyH_done (by kernel_rfl) ?_ _;clear hS;cases bb with
    |true=>
     have HV:Hid (Ca.grE hp hx G m pg=3):=Lh (by
      have:Ca.noneE m.ext hx.length=3:=by unfold Ca.noneE Ca.extNone;rw[if_pos (Ca.any_at (f:=fun x=>decide ((hx.length:Int)≤x.1)) HX.out hbb)]
      unfold Ca.grE;rw[this];exact four0 (by decide))
     have hend:=HGr.out wd 3 HNb.out HNo.out HV.out (by decide) HWd.out;go_wp2
     first
      |exact hend
      |(go_ret;exact hend)
    |false=>
     have HBb:=Lh hbb;have hrel':ngRel w m (.slice (some ⟨gg,off,none⟩) m.ext.length ec) (.slice po m.ports.length pc) (fun x=>decide ((hx.length:Int)≤x.1)) (.int .i64 ((i:Int)+1)) wd:=⟨i+1,by omega,by go_num,fun k y hk hy=>by
      rcases Nat.lt_or_ge k i with q|q
      ·exact HNk.out k y q hy
      ·obtain rfl:k=i:=by omega
       rw[HX.out] at hy;cases hy;exact HBb.out,HWd.out,HXd.out⟩
     have HRl:=Lh hrel';clear hrel';go_wp2;exact⟨HRl.out,by simp[intOf];omega⟩
   ·have hi1:¬(i:Int)<m.ext.length:=by omega
    have HN3:Hid (Ca.noneE m.ext hx.length=0∧∀x,x∈m.ext→x.1<hx.length):=Lh (by
     have hall:∀(k:Nat) (x:Int×Int),k<m.ext.length→m.ext[k]? =some x→decide ((hx.length:Int)≤x.1)=false:=fun k x hk=>HNk.out k x (by omega)
     refine⟨by unfold Ca.noneE Ca.extNone;rw[Ca.any_no (f:=fun x=>decide ((hx.length:Int)≤x.1)) hall];rfl,fun x hx=> ?_⟩;obtain⟨k,hk⟩:=List.getElem?_of_mem hx;have:=of_decide_eq_false (hall k x (List.getElem?_eq_some_iff.1 hk).1 hk);omega)
    have HL0:Hid (ngRel w m (.slice eo m.ext.length ec) (.slice po m.ports.length pc) (fun x=>decide (hx.getD x.1.toNat 0<x.2)) (.int .i64 0) wr):=Lh ⟨0,by omega,rfl,fun k _ hk=>absurd hk (Nat.not_lt_zero _),hbw,hbx⟩;clear hno hbw hbx HNk HBw HBx;go_wp2;clear c0 c1 c2 c3 cf hi1 hi hin;go_loopw [10] (fun vi V=>ngRel w m (.slice eo m.ext.length ec) (.slice po m.ports.length pc) (fun x=>decide (hx.getD x.1.toNat 0<x.2)) vi V) (fun vi _=>m.ext.length - (intOf vi).toNat)
    case atStart=>exact HL0.out
    case round=>
     clear HL0;obtain⟨i,hi,rfl,hno,hbw,hbx⟩:=hrel;generalize wr=w4 at*;have HNk:=Lh hno;have HBw:=Lh hbw;have HBx:=Lh hbx;obtain⟨c0,c1,c2,c3,cf⟩:=man_cells hbx
     by_cases hin:i<m.ext.length
     ·obtain⟨gg,off,heo,e0,e1⟩:=ext_cellsR (HMn.out _ hbw).e (Zg hin);obtain⟨x,hxe⟩:∃x,m.ext[i]=x:=⟨_,rfl⟩;rw[hxe] at e0 e1;have HX:Hid (m.ext[i]? =some x):=Lh (by rw[Zg hin,hxe]);have hi1:(i:Int)<m.ext.length:=by omega
      obtain⟨d0,d1,d2,_⟩:=(H.out _ hbw).cells;have hxl:=HN3.out.2 x (List.mem_of_getElem? HX.out);have hx0:=(HMo.out.e x (List.mem_of_getElem? HX.out)).1;obtain⟨id,hid⟩:=Int.eq_ofNat_of_zero_le hx0;have hidl:id<hx.length:=by omega
      have hu:=HH.out _ hbw;rw[hhv] at hu d1;obtain⟨hg,hoff,hho,h0⟩:=u32_cellR hu (Zg hidl);obtain⟨y,hy⟩:∃y,hx[id]=y:=⟨_,rfl⟩;rw[hy] at h0;have HYv:Hid (hx.getD x.1.toNat 0=y):=Lh (by rw[hid,List.getD,Int.toNat_natCast,Zg hidl,hy];rfl);rw[hid] at e0;have hid0:(0:Int)≤(id:Int):=by omega
      have hid1:(id:Int)<hx.length:=by omega
      subst heo;subst hho;clear hno hbw hbx hxe d0 d2 c0 c2 c3 cf hxl hx0 hid hu hy;obtain⟨bb,hbb⟩:∃b,decide (x.2>y)=b:=⟨_,rfl⟩;go_wp2;refine B (fun V=>V.cell? ⟨w.heap.size,1,none⟩=some (.slice (some ⟨gg,off,none⟩) m.ext.length ec)∧V.cell? ⟨gg,off+i*2,none⟩=some (.int .u32 id)∧V.cell? ⟨gg,off+i*2+1,none⟩=some (.int .u32 x.2)∧V.cell? ⟨a.rb,1,none⟩=some (.slice (some ⟨hg,hoff,none⟩) hx.length hc)∧V.cell? ⟨hg,hoff+id,none⟩=some (.int .u32 y)) ⟨c1,e0,e1,d1,h0⟩ fun wd hwd hS=> ?_
      have HWd:Hid (Below w.heap.size w wd):=Lh (by rw[hwd];exact HBw.out.drew);have HXd:Hid (MBx wd w.heap.size m (.slice (some ⟨gg,off,none⟩) m.ext.length ec) (.slice po m.ports.length pc)):=Lh (by rw[hwd];exact HBx.out.below Br.drew);clear hwd c1 e0 e1 d1 h0;refine T 0 hS ?_;refine T 1 hS ?_;refine T 2 hS ?_;refine T 3 hS ?_;refine T 4 hS ?_;refine T 5 hS ?_;refine T 6 hS ?_;refine T 7 hS ?_;refine T 8 hS ?_;refine T 9 hS ?_;refine T 10 hS ?_;refine T 11 hS ?_;refine T 12 hS ?_;refine T 13 hS ?_;refine T 14 hS ?_;refine T 15 hS ?_;refine T 16 hS ?_;refine T 17 hS ?_;refine T 18 hS ?_;refine T 19 hS ?_;refine wpAnyH_done (by kernel_rfl) ?_ _;clear hS;cases bb with
      |true=>
       have HV:Hid (Ca.grE hp hx G m pg=5):=Lh (by
        have:Ca.longE m.ext hx=5:=by
         unfold Ca.longE Ca.extLong;rw[if_pos (Ca.any_at (f:=fun x=>decide (x.1<hx.length)&&decide (hx.getD x.1.toNat 0<x.2)) HX.out (by
          rw[Bool.and_eq_true];exact⟨decide_eq_true (HN3.out.2 x (List.mem_of_getElem? HX.out)),decide_eq_true (by rw[HYv.out];exact of_decide_eq_true hbb)⟩))]
        unfold Ca.grE;rw[HN3.out.1,this];exact four1 (by decide))
       have hend:=HGr.out wd 5 HNb.out HNo.out HV.out (by decide) HWd.out;go_wp2
       first
        |exact hend
        |(go_ret;exact hend)
      |false=>
       have HBb:Hid (decide (hx.getD x.1.toNat 0<x.2)=false):=Lh (by rw[HYv.out];exact hbb);have hrel':ngRel w m (.slice (some ⟨gg,off,none⟩) m.ext.length ec) (.slice po m.ports.length pc) (fun x=>decide (hx.getD x.1.toNat 0<x.2)) (.int .i64 ((i:Int)+1)) wd:=⟨i+1,by omega,by go_num,fun k y hk hy=>by
        rcases Nat.lt_or_ge k i with q|q
        ·exact HNk.out k y q hy
        ·obtain rfl:k=i:=by omega
         rw[HX.out] at hy;cases hy;exact HBb.out,HWd.out,HXd.out⟩
       have HRl:=Lh hrel';clear hrel';go_wp2;exact⟨HRl.out,by simp[intOf];omega⟩
     ·have hi1:¬(i:Int)<m.ext.length:=by omega
      have HL5:Hid (Ca.longE m.ext hx=0):=Lh (by
       unfold Ca.longE Ca.extLong;rw[Ca.any_no (f:=fun x=>decide (x.1<hx.length)&&decide (hx.getD x.1.toNat 0<x.2)) fun k x hk hx'=>by
        have h2:=HNk.out k x (by omega) hx';have h2:decide (hx.getD x.1.toNat 0<x.2)=false:=h2;rw[h2,Bool.and_false]]
       rfl)
      have HBs:=Lh (busy (H.out _ hbw) (HMn.out _ hbw));unfold Mn.cells at HBs;clear hno hbw hbx HNk hi hin;go_wp2_with fail;refine HBs.out.mono ?_;rintro e w5 ⟨rfl,hb5⟩;have HB5:=Lh (bQ HBw.out hb5);have HBx5:=Lh (HBx.out.below hb5);clear hb5 c0 c1 c2 c3 cf HBs HBw HBx hi1;obtain⟨c0,c1,c2,c3,cf⟩:=man_cells HBx5.out;obtain⟨bz,hbz⟩:∃b,Gp.busyB G m=b:=⟨_,rfl⟩;rw[hbz];cases bz with
      |true=>
       have HV:Hid (Ca.grE hp hx G m pg=190):=Lh (by
        have:Ca.busyE G m=190:=by unfold Ca.busyE;rw[if_pos hbz]
        unfold Ca.grE;rw[HN3.out.1,HL5.out,this];exact four2 (by decide))
       have hend:=HGr.out w5 190 HNb.out HNo.out HV.out (by decide) HB5.out;clear hbz;go_wp2
       first
        |exact hend
        |(go_ret;exact hend)
      |false=>
       have HBs:Hid (Ca.busyE G m=0):=Lh (by unfold Ca.busyE;rw[hbz];rfl);clear hbz;have hmp:=Ca.may_num HCk.out;have p00:=HMo.out.p0;have wl:IntKind.u32.wrap (m.pages+pg)=m.pages+pg:=wrap32 (by omega) (by omega);have HFr:=Lh fun V (hV:Below w.heap.size w V)=>free (H.out V hV)
       unfold Gp.freeV at HFr;obtain⟨bf,hbf⟩:∃b,decide (m.pages+pg>hp - Gp.sum G)=b:=⟨_,rfl⟩;have HMp:=Lh hmp;clear hmp p00;go_wp2;refine B (fun V=>V.cell? ⟨w.heap.size,0,none⟩=some (.int .u32 m.pages)) c0 fun wd hwd hS=> ?_
       have HWd:Hid (Below w.heap.size w wd):=Lh (by rw[hwd];exact HB5.out.drew);have HXd:Hid (MBx wd w.heap.size m (.slice eo m.ext.length ec) (.slice po m.ports.length pc)):=Lh (by rw[hwd];exact HBx5.out.below Br.drew);clear hwd c0 c1 c2 c3 cf HB5 HBx5;refine T 0 hS ?_;refine T 1 hS ?_;refine T 2 hS ?_;refine T 3 hS ?_;refine T 4 hS ?_;refine U 5 fun K hK=> ?_
       go_simp;go_at_call 58;refine(HFr.out _ HWd.out).mono ?_;rintro e w6 ⟨rfl,hb6⟩;have hS6:=cQ hb6 hS;have HB6:=Lh (bQ HWd.out hb6);have HBx6:=Lh (HXd.out.below hb6);clear hb6;refine V hK hS6 ?_;clear hK K;refine T 6 hS6 ?_;refine wpAnyH_done (by kernel_rfl) ?_ _;clear hS hS6 HWd HXd HFr;cases bf with
       |true=>
        have HV:Hid (Ca.grE hp hx G m pg=4):=Lh (by
         unfold Ca.grE;rw[HN3.out.1,HL5.out,HBs.out,four3];exact Ca.full_no (of_decide_eq_true hbf))
        have hend:=HGr.out w6 4 HNb.out HNo.out HV.out (by decide) HB6.out;go_wp2
        first
         |exact hend
         |(go_ret;exact hend)
       |false=>
        have HG0:Hid (Ca.grE hp hx G m pg=0∧Gp.sum G+(m.pages+pg)≤hp):=Lh (by
         have hq:¬hp - Gp.sum G<m.pages+pg:=of_decide_eq_false hbf;refine⟨?_,by omega⟩;unfold Ca.grE;rw[HN3.out.1,HL5.out,HBs.out,four3];exact Ca.full_yes hq)
        have hel:=Ca.ext_len hl HMo.out HCk.out HG0.out.1;have hpl:=HMp.out.1;clear hbf HGr HBs HL5 HN3 wl;have n1:1≤n:=by omega
        have n8:n≤8:=by omega
        obtain⟨hq0,hq1⟩:=gap (H.out w Br) n1 n8 HNo.out;have HGp:=Lh hq1;have hL8:=(H.out w Br).len;have HCan:=Lh fun ev pv=>can_put (pg:=pg) (m:=m) (ev:=ev) (pv:=pv) (H.out w Br) n1 n8 HNo.out
        obtain⟨q,hq⟩:∃q,(lo G n).length=q:=⟨_,rfl⟩;rw[hq] at hq0 HGp HCan;clear hq hq1;have HR3:Hid (roRel w a.L q m (.slice eo m.ext.length ec) (.slice po m.ports.length pc) (.slice none 0 0) (.int .i64 0) w6):=Lh ⟨0,by omega,rfl,⟨none,0,rfl⟩,SlV.nil _ _ _,fun k hk=>(by cases hk),HB6.out,HBx6.out⟩;have hlvf:=(H.out w Br).row.form;obtain⟨ao,ac,hlv⟩:=hlvf;have HLv:=Lh hlv;clear hlv HB6 HBx6;obtain⟨i0,hi0',hz0,hz1,hz2⟩:=info_parts info_gr;have hi0:=Lh (And.intro hi0' (And.intro hz0 (And.intro hz1 hz2)));clear hi0' hz0 hz1 hz2;go_wp2;go_loopw [11,12] (fun vl vi V=>roRel w a.L q m (.slice eo m.ext.length ec) (.slice po m.ports.length pc) vl vi V) (fun _ vi _=>q - (intOf vi).toNat)
        case atStart=>exact HR3.out
        case round=>
         clear HR3;obtain⟨i,hi,rfl,⟨o,c,rfl⟩,hsl,hown,hbw,hbx⟩:=hrel;have h1:=H.out _ hbw;have d2:=h1.cells.2.2.1;rw[HLv.out] at d2;have HSl:=Lh hsl;have HOw:=Lh hown;have HBw:=Lh hbw;have HBx:=Lh hbx
         by_cases hiq:i<q
         ·obtain⟨x,hx'⟩:∃x,a.L[i]? =some x:=⟨_,Zg (by omega)⟩;have hlt:=(HGp.out i x hx').1 hiq;have hi1:(i:Int)<a.L.length:=by omega
          obtain⟨g,off,cap,hv,hcc⟩:=h1.at' hx';rw[HLv.out] at hv;simp only[Value.slice.injEq] at hv;obtain⟨rfl,_,rfl⟩:=hv;obtain⟨x0,x1,x2,x3,x4,x5,x6⟩:=Rcs.seven hcc;obtain⟨⟨xo,xn,xc,hev⟩,⟨yo,yn,yc,hpv⟩⟩:(∃o n c,x.ev=.slice o n c)∧∃o n c,x.pv=.slice o n c:=by
           have hm:=h1.mns x (List.mem_of_getElem? hx');exact⟨by obtain⟨o,c,e⟩:=hm.e.form;exact⟨o,_,c,e⟩,by obtain⟨o,c,e⟩:=hm.p.form;exact⟨o,_,c,e⟩⟩
          have hxc:x.cells=[.int .i64 x.n,.int .u32 x.g.m.pages,.slice xo xn xc,.slice yo yn yc,.bool x.g.m.con,.int .u32 x.g.pg,.int .u32 x.g.took]:=by unfold RcE.cells;rw[hev,hpv]
          rw[hev] at x2;rw[hpv] at x3;have hb7:Below wr.heap.size wr (wr.alloc (.cells #[.int .i64 x.n,.int .u32 x.g.m.pages,.slice xo xn xc,.slice yo yn yc,.bool x.g.m.con,.int .u32 x.g.pg,.int .u32 x.g.took] 263)):=Ba _;have hk7:=heap_alloc_new wr (.cells #[.int .i64 x.n,.int .u32 x.g.m.pages,.slice xo xn xc,.slice yo yn yc,.bool x.g.m.con,.int .u32 x.g.pg,.int .u32 x.g.took] 263);have HS7:=Lh (HSl.out.below hb7);have HK7:=Lh hk7;have HB7:=Lh hb7;have HX:=Lh (And.intro hx' hxc);clear hsl hown hbw hbx h1 hx' hcc hev hpv hxc hb7 hk7;go_wp2_with (at_builtin;refine wpList_append_slv _ rfl _ _ 259 rfl 263 i0 _ 7 80 Tryz.underlying259 hi0.out.1 hi0.out.2.1 hi0.out.2.2.1 hi0.out.2.2.2 rfl (by decide) _ i _ rfl HS7.out ⟨wr.heap.size,0,none⟩ 1 1 x.cells rfl (by omega) rfl (fun j u hu=>by rw[HX.out.2] at hu;rw[Addr.add_lit];unfold World.cell?;rw[HK7.out];simpa using hu) (fun u hu=>by rw[HX.out.2] at hu;simp at hu;rcases hu with rfl|rfl|rfl|rfl|rfl|rfl|rfl<;>rfl) (by unfold maxLen;omega) (by omega) ?_;intro v8 w8 hl8 hm8 ho8);have hz7:=HB7.out.size;have hm8':Mod (fun k=>(Value.slice o i c).ownBlock=some k) wr w8:=(Mod.of_below HB7.out _).same hm8;obtain⟨o8,c8,rfl⟩:=hl8.form;have hbw8:Below w.heap.size w w8:=Mod.below HBw.out hm8' HBw.out.size fun k _ e=>by have:=(HOw.out k e).1;omega
          have hrel':roRel w a.L q m (.slice eo m.ext.length ec) (.slice po m.ports.length pc) (.slice o8 (i+1) c8) (.int .i64 ((i:Int)+1)) w8:=⟨i+1,by omega,by go_num,⟨o8,c8,rfl⟩,by rw[take_succ HX.out.1,rcC_app,show rcC [x]=x.cells by unfold rcC;simp];exact hl8,fun k hk=>by
           have hlt8:k<w8.heap.size:=by
            obtain⟨k',h1,h2⟩:=hl8.lt (by omega);rw[h1] at hk;cases hk;exact h2
           rcases ho8 with z|⟨k',z,z1⟩
           ·rw[z] at hk;exact⟨(HOw.out k hk).1,hlt8⟩
           ·rw[z] at hk;cases hk;have:=HBw.out.size;have:=lQ HBx.out;exact⟨by omega,hlt8⟩,hbw8,(hm8'.block _ (lQ HBx.out) (fun e=>by have:=(HOw.out _ e).1;omega)).trans HBx.out⟩
          have HRl:=Lh hrel';clear hrel' hl8 hm8 ho8 hm8' hbw8;exact⟨HRl.out,by simp[intOf];omega⟩
         ·obtain rfl:i=q:=by omega
          obtain⟨c0',c1',c2',c3',_⟩:=man_cells HBx.out;have HCp:=Lh (R11.copy (HMn.out _ HBw.out) (by omega) (by omega));unfold Mn.cells at HCp;clear hsl hown hbw hbx;have hrow:=h1.row;rw[HLv.out] at hrow;have hnc:=hrow.ncap
          by_cases hil:i<a.L.length
          ·obtain⟨x,hx'⟩:∃x,a.L[i]? =some x:=⟨_,Zg hil⟩;have hgt:=(HGp.out i x hx').2 (Nat.le_refl _);have hi1:(i:Int)<a.L.length:=by omega
           obtain⟨g,off,cap,hv,hcc⟩:=h1.at' hx';rw[HLv.out] at hv;simp only[Value.slice.injEq] at hv;obtain⟨rfl,_,rfl⟩:=hv;obtain⟨x0,_⟩:=Rcs.seven hcc;have hng:¬x.n<n:=by omega
           have hac:¬ac=i:=by omega
           have hic:i≤ac:=by omega
           have hil2:i≤a.L.length:=by omega
           clear h1 hx' hcc hrow hgt;go_wp2_with fail;refine HCp.out.mono ?_;rintro e w8 ⟨ev',pv',rfl,hmn8,hnw8,hb8⟩;obtain⟨xo,xc,rfl⟩:=hmn8.e.form;obtain⟨yo,yc,rfl⟩:=hmn8.p.form;have hb9:Below w8.heap.size w8 (w8.alloc (.cells #[.int .i64 n,.int .u32 m.pages,.slice xo m.ext.length xc,.slice yo m.ports.length yc,.bool m.con,.int .u32 pg,.int .u32 0] 263)):=Ba _;have hk9:=heap_alloc_new w8 (.cells #[.int .i64 n,.int .u32 m.pages,.slice xo m.ext.length xc,.slice yo m.ports.length yc,.bool m.con,.int .u32 pg,.int .u32 0] 263);have HS9:=Lh ((HSl.out.below hb8).below hb9);have HK9:=Lh hk9;have hz8:=hb8.size;have HB9:=Lh (bQ (bQ HBw.out hb8) hb9);have HM9:=Lh (And.intro (hmn8.below hb9) hnw8);have HZ9:Hid (wr.heap.size≤w8.heap.size):=Lh hz8;clear hmn8 hnw8 hb8 hb9 hk9 hz8 c0' c1' c2' c3' HCp;unfold Mn.cells;go_wp2_with (at_builtin;first
            |(
              refine wpList_append_slv _ rfl _ _ 259 rfl 263 i0 _ 7 80 Tryz.underlying259 hi0.out.1 hi0.out.2.1 hi0.out.2.2.1 hi0.out.2.2.2 rfl (by decide) _ i _ rfl HS9.out ⟨w8.heap.size,0,none⟩ 1 1 (⟨n,⟨m,pg,0⟩,.slice xo m.ext.length xc,.slice yo m.ports.length yc⟩:RcE).cells rfl (by omega) rfl (fun j u hu=>by rw[Addr.add_lit];unfold World.cell?;rw[HK9.out];simpa [RcE.cells] using hu) (fun u hu=>by simp[RcE.cells] at hu;rcases hu with rfl|rfl|rfl|rfl|rfl|rfl|rfl<;>rfl) (by unfold maxLen;omega) (by omega) ?_;intro v10 w10 hl10 hm10 ho10;obtain⟨o10,c10,rfl⟩:=hl10.form;have hzw:=HBw.out.size;have hz89:=HZ9.out;have hb10:Below w.heap.size w w10:=Mod.below HB9.out hm10 HB9.out.size fun k _ e=>by have:=(HOw.out k e).1;omega
              have hmz:MnAt w10 (.slice xo m.ext.length xc) (.slice yo m.ports.length yc) m:=HM9.out.1.mod hm10 (fun k hk e=>by have h1:=HM9.out.2 k (.inl hk);have h2:=HOw.out k e;omega) (fun k hk e=>by have h1:=HM9.out.2 k (.inr hk);have h2:=HOw.out k e;omega);have hfin:=fin_put (H.out w Br) (pg:=pg) (m:=m) (q:=i) (ev:=.slice xo m.ext.length xc) (pv:=.slice yo m.ports.length yc) (by omega) (HCan.out _ _) (okPut (H.out w Br).ok n1 n8 HNo.out HMo.out HCk.out p0 HG0.out.2) hb10 (o9:=o10) (c9:=c10) hl10 (fun k hk=>by
               have hlt10:k<w10.heap.size:=by
                obtain⟨k',h1,h2⟩:=hl10.lt (by omega);rw[h1] at hk;cases hk;exact h2
               rcases ho10 with z|⟨k',z,z1⟩
               ·rw[z] at hk;have:=(HOw.out k hk).1;exact⟨by omega,hlt10⟩
               ·rw[z] at hk;cases hk;have:w8.heap.size≤(w8.alloc (.cells #[.int .i64 n,.int .u32 m.pages,.slice xo m.ext.length xc,.slice yo m.ports.length yc,.bool m.con,.int .u32 pg,.int .u32 0] 263)).heap.size:=by simp
                exact⟨by omega,hlt10⟩) hmz (fun k hk=>by
               have h1:=HM9.out.2 k hk;have h2:=hm10.size;have:w8.heap.size≤(w8.alloc (.cells #[.int .i64 n,.int .u32 m.pages,.slice xo m.ext.length xc,.slice yo m.ports.length yc,.bool m.con,.int .u32 pg,.int .u32 0] 263)).heap.size:=by simp
               omega) HLv.out (some ⟨g,off+i*7,none⟩) (ac - i) (fun _=>⟨g,off,rfl,rfl⟩)
              obtain⟨o11,c11,w11,hr11,hc11,hf11,hend11⟩:=hfin;have HRun:=Lh hr11;have HEnd:=Lh hend11;have d10:=((H.out _ hb10).cells).2.2.1;rw[HLv.out] at d10;clear hl10 hm10 ho10 hb10 hmz hr11 hend11 hzw hz89)
            |refine R11.wpList_append_run rfl _ _ _ rfl rfl rfl HRun.out ?_)
           obtain⟨a',r1,r2⟩:=HEnd.out;have hend:=HOk.out _ a' HNb.out HNo.out HG0.out.1 r1 r2;clear r1 r2
           first
            |exact hend
            |(go_ret;exact hend)
          ·have HIe:Hid (a.L.length=i):=Lh (by omega);have hil2:i≤a.L.length:=by omega
           have hic:i≤ac:=by omega
           have hni:¬(i:Int)<a.L.length:=by omega
           have HRo:=Lh hrow;clear h1 hrow hil;rcases ao with _|ad
           ·skip
            go_wp2_with fail;refine HCp.out.mono ?_;rintro e w8 ⟨ev',pv',rfl,hmn8,hnw8,hb8⟩;obtain⟨xo,xc,rfl⟩:=hmn8.e.form;obtain⟨yo,yc,rfl⟩:=hmn8.p.form;have hb9:Below w8.heap.size w8 (w8.alloc (.cells #[.int .i64 n,.int .u32 m.pages,.slice xo m.ext.length xc,.slice yo m.ports.length yc,.bool m.con,.int .u32 pg,.int .u32 0] 263)):=Ba _;have hk9:=heap_alloc_new w8 (.cells #[.int .i64 n,.int .u32 m.pages,.slice xo m.ext.length xc,.slice yo m.ports.length yc,.bool m.con,.int .u32 pg,.int .u32 0] 263);have HS9:=Lh ((HSl.out.below hb8).below hb9);have HK9:=Lh hk9;have hz8:=hb8.size;have HB9:=Lh (bQ (bQ HBw.out hb8) hb9);have HM9:=Lh (And.intro (hmn8.below hb9) hnw8);have HZ9:Hid (wr.heap.size≤w8.heap.size):=Lh hz8;clear hmn8 hnw8 hb8 hb9 hk9 hz8 c0' c1' c2' c3' HCp;unfold Mn.cells;go_wp2_with (at_builtin;first
             |(
               refine wpList_append_slv _ rfl _ _ 259 rfl 263 i0 _ 7 80 Tryz.underlying259 hi0.out.1 hi0.out.2.1 hi0.out.2.2.1 hi0.out.2.2.2 rfl (by decide) _ i _ rfl HS9.out ⟨w8.heap.size,0,none⟩ 1 1 (⟨n,⟨m,pg,0⟩,.slice xo m.ext.length xc,.slice yo m.ports.length yc⟩:RcE).cells rfl (by omega) rfl (fun j u hu=>by rw[Addr.add_lit];unfold World.cell?;rw[HK9.out];simpa [RcE.cells] using hu) (fun u hu=>by simp[RcE.cells] at hu;rcases hu with rfl|rfl|rfl|rfl|rfl|rfl|rfl<;>rfl) (by unfold maxLen;omega) (by omega) ?_;intro v10 w10 hl10 hm10 ho10;obtain⟨o10,c10,rfl⟩:=hl10.form;have hzw:=HBw.out.size;have hz89:=HZ9.out;have hb10:Below w.heap.size w w10:=Mod.below HB9.out hm10 HB9.out.size fun k _ e=>by have:=(HOw.out k e).1;omega
               have hmz:MnAt w10 (.slice xo m.ext.length xc) (.slice yo m.ports.length yc) m:=HM9.out.1.mod hm10 (fun k hk e=>by have h1:=HM9.out.2 k (.inl hk);have h2:=HOw.out k e;omega) (fun k hk e=>by have h1:=HM9.out.2 k (.inr hk);have h2:=HOw.out k e;omega);have hfin:=fin_put (H.out w Br) (pg:=pg) (m:=m) (q:=i) (ev:=.slice xo m.ext.length xc) (pv:=.slice yo m.ports.length yc) (by omega) (HCan.out _ _) (okPut (H.out w Br).ok n1 n8 HNo.out HMo.out HCk.out p0 HG0.out.2) hb10 (o9:=o10) (c9:=c10) hl10 (fun k hk=>by
                have hlt10:k<w10.heap.size:=by
                 obtain⟨k',h1,h2⟩:=hl10.lt (by omega);rw[h1] at hk;cases hk;exact h2
                rcases ho10 with z|⟨k',z,z1⟩
                ·rw[z] at hk;have:=(HOw.out k hk).1;exact⟨by omega,hlt10⟩
                ·rw[z] at hk;cases hk;have:w8.heap.size≤(w8.alloc (.cells #[.int .i64 n,.int .u32 m.pages,.slice xo m.ext.length xc,.slice yo m.ports.length yc,.bool m.con,.int .u32 pg,.int .u32 0] 263)).heap.size:=by simp
                 exact⟨by omega,hlt10⟩) hmz (fun k hk=>by
                have h1:=HM9.out.2 k hk;have h2:=hm10.size;have:w8.heap.size≤(w8.alloc (.cells #[.int .i64 n,.int .u32 m.pages,.slice xo m.ext.length xc,.slice yo m.ports.length yc,.bool m.con,.int .u32 pg,.int .u32 0] 263)).heap.size:=by simp
                omega) HLv.out (none) (ac - i) (fun hk=>absurd hk (by have:=HIe.out;omega))
               obtain⟨o11,c11,w11,hr11,hc11,hf11,hend11⟩:=hfin;have HRun:=Lh hr11;have HEnd:=Lh hend11;have d10:=((H.out _ hb10).cells).2.2.1;rw[HLv.out] at d10;clear hl10 hm10 ho10 hb10 hmz hr11 hend11 hzw hz89)
             |refine R11.wpList_append_run rfl _ _ _ rfl rfl rfl HRun.out ?_)
            obtain⟨a',r1,r2⟩:=HEnd.out;have hend:=HOk.out _ a' HNb.out HNo.out HG0.out.1 r1 r2;clear r1 r2
            first
             |exact hend
             |(go_ret;exact hend)
           ·by_cases hci:ac=i
            ·skip
             go_wp2_with fail;refine HCp.out.mono ?_;rintro e w8 ⟨ev',pv',rfl,hmn8,hnw8,hb8⟩;obtain⟨xo,xc,rfl⟩:=hmn8.e.form;obtain⟨yo,yc,rfl⟩:=hmn8.p.form;have hb9:Below w8.heap.size w8 (w8.alloc (.cells #[.int .i64 n,.int .u32 m.pages,.slice xo m.ext.length xc,.slice yo m.ports.length yc,.bool m.con,.int .u32 pg,.int .u32 0] 263)):=Ba _;have hk9:=heap_alloc_new w8 (.cells #[.int .i64 n,.int .u32 m.pages,.slice xo m.ext.length xc,.slice yo m.ports.length yc,.bool m.con,.int .u32 pg,.int .u32 0] 263);have HS9:=Lh ((HSl.out.below hb8).below hb9);have HK9:=Lh hk9;have hz8:=hb8.size;have HB9:=Lh (bQ (bQ HBw.out hb8) hb9);have HM9:=Lh (And.intro (hmn8.below hb9) hnw8);have HZ9:Hid (wr.heap.size≤w8.heap.size):=Lh hz8;clear hmn8 hnw8 hb8 hb9 hk9 hz8 c0' c1' c2' c3' HCp;unfold Mn.cells;go_wp2_with (at_builtin;first
              |(
                refine wpList_append_slv _ rfl _ _ 259 rfl 263 i0 _ 7 80 Tryz.underlying259 hi0.out.1 hi0.out.2.1 hi0.out.2.2.1 hi0.out.2.2.2 rfl (by decide) _ i _ rfl HS9.out ⟨w8.heap.size,0,none⟩ 1 1 (⟨n,⟨m,pg,0⟩,.slice xo m.ext.length xc,.slice yo m.ports.length yc⟩:RcE).cells rfl (by omega) rfl (fun j u hu=>by rw[Addr.add_lit];unfold World.cell?;rw[HK9.out];simpa [RcE.cells] using hu) (fun u hu=>by simp[RcE.cells] at hu;rcases hu with rfl|rfl|rfl|rfl|rfl|rfl|rfl<;>rfl) (by unfold maxLen;omega) (by omega) ?_;intro v10 w10 hl10 hm10 ho10;obtain⟨o10,c10,rfl⟩:=hl10.form;have hzw:=HBw.out.size;have hz89:=HZ9.out;have hb10:Below w.heap.size w w10:=Mod.below HB9.out hm10 HB9.out.size fun k _ e=>by have:=(HOw.out k e).1;omega
                have hmz:MnAt w10 (.slice xo m.ext.length xc) (.slice yo m.ports.length yc) m:=HM9.out.1.mod hm10 (fun k hk e=>by have h1:=HM9.out.2 k (.inl hk);have h2:=HOw.out k e;omega) (fun k hk e=>by have h1:=HM9.out.2 k (.inr hk);have h2:=HOw.out k e;omega);have hfin:=fin_put (H.out w Br) (pg:=pg) (m:=m) (q:=i) (ev:=.slice xo m.ext.length xc) (pv:=.slice yo m.ports.length yc) (by omega) (HCan.out _ _) (okPut (H.out w Br).ok n1 n8 HNo.out HMo.out HCk.out p0 HG0.out.2) hb10 (o9:=o10) (c9:=c10) hl10 (fun k hk=>by
                 have hlt10:k<w10.heap.size:=by
                  obtain⟨k',h1,h2⟩:=hl10.lt (by omega);rw[h1] at hk;cases hk;exact h2
                 rcases ho10 with z|⟨k',z,z1⟩
                 ·rw[z] at hk;have:=(HOw.out k hk).1;exact⟨by omega,hlt10⟩
                 ·rw[z] at hk;cases hk;have:w8.heap.size≤(w8.alloc (.cells #[.int .i64 n,.int .u32 m.pages,.slice xo m.ext.length xc,.slice yo m.ports.length yc,.bool m.con,.int .u32 pg,.int .u32 0] 263)).heap.size:=by simp
                  exact⟨by omega,hlt10⟩) hmz (fun k hk=>by
                 have h1:=HM9.out.2 k hk;have h2:=hm10.size;have:w8.heap.size≤(w8.alloc (.cells #[.int .i64 n,.int .u32 m.pages,.slice xo m.ext.length xc,.slice yo m.ports.length yc,.bool m.con,.int .u32 pg,.int .u32 0] 263)).heap.size:=by simp
                 omega) HLv.out (some ad) (ac - i) (fun hk=>absurd hk (by have:=HIe.out;omega))
                obtain⟨o11,c11,w11,hr11,hc11,hf11,hend11⟩:=hfin;have HRun:=Lh hr11;have HEnd:=Lh hend11;have d10:=((H.out _ hb10).cells).2.2.1;rw[HLv.out] at d10;clear hl10 hm10 ho10 hb10 hmz hr11 hend11 hzw hz89)
              |refine R11.wpList_append_run rfl _ _ _ rfl rfl rfl HRun.out ?_)
             obtain⟨a',r1,r2⟩:=HEnd.out;have hend:=HOk.out _ a' HNb.out HNo.out HG0.out.1 r1 r2;clear r1 r2
             first
              |exact hend
              |(go_ret;exact hend)
            ·obtain⟨g,off,rfl⟩:∃g off,ad=⟨g,off,none⟩:=by
              rcases HRo.out.2 with⟨z,a9,z1⟩|⟨g,off,c9,cu9,z1,_⟩
              ·simp only[Value.slice.injEq] at z1;have:=HIe.out;omega
              ·simp only[Value.slice.injEq,Option.some.injEq] at z1;exact⟨g,off,z1.1⟩
             go_wp2_with fail;refine HCp.out.mono ?_;rintro e w8 ⟨ev',pv',rfl,hmn8,hnw8,hb8⟩;obtain⟨xo,xc,rfl⟩:=hmn8.e.form;obtain⟨yo,yc,rfl⟩:=hmn8.p.form;have hb9:Below w8.heap.size w8 (w8.alloc (.cells #[.int .i64 n,.int .u32 m.pages,.slice xo m.ext.length xc,.slice yo m.ports.length yc,.bool m.con,.int .u32 pg,.int .u32 0] 263)):=Ba _;have hk9:=heap_alloc_new w8 (.cells #[.int .i64 n,.int .u32 m.pages,.slice xo m.ext.length xc,.slice yo m.ports.length yc,.bool m.con,.int .u32 pg,.int .u32 0] 263);have HS9:=Lh ((HSl.out.below hb8).below hb9);have HK9:=Lh hk9;have hz8:=hb8.size;have HB9:=Lh (bQ (bQ HBw.out hb8) hb9);have HM9:=Lh (And.intro (hmn8.below hb9) hnw8);have HZ9:Hid (wr.heap.size≤w8.heap.size):=Lh hz8;clear hmn8 hnw8 hb8 hb9 hk9 hz8 c0' c1' c2' c3' HCp;unfold Mn.cells;go_wp2_with (at_builtin;first
              |(
                refine wpList_append_slv _ rfl _ _ 259 rfl 263 i0 _ 7 80 Tryz.underlying259 hi0.out.1 hi0.out.2.1 hi0.out.2.2.1 hi0.out.2.2.2 rfl (by decide) _ i _ rfl HS9.out ⟨w8.heap.size,0,none⟩ 1 1 (⟨n,⟨m,pg,0⟩,.slice xo m.ext.length xc,.slice yo m.ports.length yc⟩:RcE).cells rfl (by omega) rfl (fun j u hu=>by rw[Addr.add_lit];unfold World.cell?;rw[HK9.out];simpa [RcE.cells] using hu) (fun u hu=>by simp[RcE.cells] at hu;rcases hu with rfl|rfl|rfl|rfl|rfl|rfl|rfl<;>rfl) (by unfold maxLen;omega) (by omega) ?_;intro v10 w10 hl10 hm10 ho10;obtain⟨o10,c10,rfl⟩:=hl10.form;have hzw:=HBw.out.size;have hz89:=HZ9.out;have hb10:Below w.heap.size w w10:=Mod.below HB9.out hm10 HB9.out.size fun k _ e=>by have:=(HOw.out k e).1;omega
                have hmz:MnAt w10 (.slice xo m.ext.length xc) (.slice yo m.ports.length yc) m:=HM9.out.1.mod hm10 (fun k hk e=>by have h1:=HM9.out.2 k (.inl hk);have h2:=HOw.out k e;omega) (fun k hk e=>by have h1:=HM9.out.2 k (.inr hk);have h2:=HOw.out k e;omega);have hfin:=fin_put (H.out w Br) (pg:=pg) (m:=m) (q:=i) (ev:=.slice xo m.ext.length xc) (pv:=.slice yo m.ports.length yc) (by omega) (HCan.out _ _) (okPut (H.out w Br).ok n1 n8 HNo.out HMo.out HCk.out p0 HG0.out.2) hb10 (o9:=o10) (c9:=c10) hl10 (fun k hk=>by
                 have hlt10:k<w10.heap.size:=by
                  obtain⟨k',h1,h2⟩:=hl10.lt (by omega);rw[h1] at hk;cases hk;exact h2
                 rcases ho10 with z|⟨k',z,z1⟩
                 ·rw[z] at hk;have:=(HOw.out k hk).1;exact⟨by omega,hlt10⟩
                 ·rw[z] at hk;cases hk;have:w8.heap.size≤(w8.alloc (.cells #[.int .i64 n,.int .u32 m.pages,.slice xo m.ext.length xc,.slice yo m.ports.length yc,.bool m.con,.int .u32 pg,.int .u32 0] 263)).heap.size:=by simp
                  exact⟨by omega,hlt10⟩) hmz (fun k hk=>by
                 have h1:=HM9.out.2 k hk;have h2:=hm10.size;have:w8.heap.size≤(w8.alloc (.cells #[.int .i64 n,.int .u32 m.pages,.slice xo m.ext.length xc,.slice yo m.ports.length yc,.bool m.con,.int .u32 pg,.int .u32 0] 263)).heap.size:=by simp
                 omega) HLv.out (some ⟨g,off+i*7,none⟩) (ac - i) (fun hk=>absurd hk (by have:=HIe.out;omega))
                obtain⟨o11,c11,w11,hr11,hc11,hf11,hend11⟩:=hfin;have HRun:=Lh hr11;have HEnd:=Lh hend11;have d10:=((H.out _ hb10).cells).2.2.1;rw[HLv.out] at d10;clear hl10 hm10 ho10 hb10 hmz hr11 hend11 hzw hz89)
              |refine R11.wpList_append_run rfl _ _ _ rfl rfl rfl HRun.out ?_)
             obtain⟨a',r1,r2⟩:=HEnd.out;have hend:=HOk.out _ a' HNb.out HNo.out HG0.out.1 r1 r2;clear r1 r2
             first
              |exact hend
              |(go_ret;exact hend)
end
end Rc
namespace Rn
def wt(x:Int×ByteArray):List Value:=[.int .u16 x.1,.string x.2]
def wtC(L:List (Int×ByteArray)):List Value:=L.flatMap wt
def qOf(L:List (Int×ByteArray))(p:Int):List ByteArray:=(L.filter fun y=>y.1 == p).map (·.2)
def fnd:List (Int×ByteArray)→Int→Nat→Option Nat
 | [],_,_=>none
 |y::l,p,k=>if y.1=p then(match k with|0=>some 0|k+1=>(fnd l p k).map (·+1)) else(fnd l p k).map (·+1)
theorem wtC_len(L:List (Int×ByteArray)):(wtC L).length=L.length*2:=by
 unfold wtC
 induction L with
 |nil=>rfl
 |cons x l ih=>rw[List.flatMap_cons,List.length_append,ih];simp[wt];omega
theorem wtC_app(L M:List (Int×ByteArray)):wtC (L++M)=wtC L++wtC M:=by unfold wtC;rw[List.flatMap_append]
theorem wtC_take(L:List (Int×ByteArray))(i:Nat):wtC (L.take i)=(wtC L).take (i*2):=by
 rcases Nat.le_total i L.length with q|q
 ·have h:=wtC_app (L.take i) (L.drop i);rw[List.take_append_drop] at h;rw[h,List.take_left' (by rw[wtC_len,List.length_take];omega)]
 ·rw[List.take_of_length_le q,List.take_of_length_le (by rw[wtC_len];omega)]
theorem wtC_drop(L:List (Int×ByteArray))(i:Nat):wtC (L.drop i)=(wtC L).drop (i*2):=by
 rcases Nat.le_total i L.length with q|q
 ·have h:=wtC_app (L.take i) (L.drop i);rw[List.take_append_drop] at h;rw[h,List.drop_left' (by rw[wtC_len,List.length_take];omega)]
 ·rw[List.drop_eq_nil_of_le q,List.drop_eq_nil_of_le (by rw[wtC_len];omega)];rfl
theorem wtC_one(L:List (Int×ByteArray)):∀u,u∈wtC L→u.oneCell'=true:=fun u hu=>by
 unfold wtC at hu;rw[List.mem_flatMap] at hu;obtain⟨x,_,hx⟩:=hu;simp[wt] at hx;rcases hx with rfl|rfl<;>rfl
theorem wtC_at:∀(L:List (Int×ByteArray)) (i:Nat) (x:Int×ByteArray),L[i]? =some x→(wtC L)[i*2]? =some (.int .u16 x.1)∧(wtC L)[i*2+1]? =some (.string x.2)
 |y::l,0,x,h=>by
  simp at h;subst h;exact⟨rfl,rfl⟩
 |y::l,i+1,x,h=>by
  have:=wtC_at l i x (by simpa using h);have e:wtC (y::l)=wt y++wtC l:=rfl;rw[e,List.getElem?_append_right (by simp[wt];omega),List.getElem?_append_right (by simp[wt];omega)];refine⟨?_, ?_⟩
  ·rw[←this.1];congr 1;simp[wt];omega
  ·rw[←this.2];congr 1;simp[wt];omega
theorem qOf_app(L M:List (Int×ByteArray))(p:Int):qOf (L++M) p=qOf L p++qOf M p:=by unfold qOf;rw[List.filter_append,List.map_append]
theorem qOf_yes(s:ByteArray)(p:Int):qOf [(p,s)] p=[s]:=by unfold qOf;simp
theorem qOf_no{y:Int}(s:ByteArray){p:Int}(h:y≠p):qOf [(y,s)] p=[]:=by unfold qOf;simp[h]
theorem qOf_cons(y:Int×ByteArray)(l:List (Int×ByteArray))(p:Int):qOf (y::l) p=if y.1=p then y.2::qOf l p else qOf l p:=by
 unfold qOf
 by_cases h:y.1=p
 ·rw[if_pos h,List.filter_cons_of_pos (by simpa using h)];rfl
 ·rw[if_neg h,List.filter_cons_of_neg (by simpa using h)]
theorem fnd_none:∀ {L:List (Int×ByteArray)} {p:Int} {k:Nat},fnd L p k=none→(qOf L p).length≤k
 | [],p,k,_=>Nat.zero_le _
 |y::l,p,k,h=>by
  unfold fnd at h;rw[qOf_cons]
  split at h
  ·rename_i e
   rw[if_pos e];cases k with
   |zero=>cases h
   |succ k=>
    cases hr:fnd l p k with
    |some j=>rw[show(match k+1 with|0=>some 0|k+1=>(fnd l p k).map (·+1))=(fnd l p k).map (·+1) from rfl,hr] at h;cases h
    |none=>have:=fnd_none hr;simp;omega
  ·rename_i e
   rw[if_neg e];cases hr:fnd l p k with
   |some j=>rw[hr] at h;cases h
   |none=>exact fnd_none hr
theorem fnd_some:∀ {L:List (Int×ByteArray)} {p:Int} {k i:Nat},fnd L p k=some i→∃s,L[i]? =some (p,s)∧(qOf (L.take i) p).length=k∧(qOf L p)[k]? =some s
 | [],p,k,i,h=>by cases h
 |y::l,p,k,i,h=>by
  unfold fnd at h
  split at h
  ·rename_i e
   cases k with
   |zero=>
    cases h;refine⟨y.2,by rw[←e];rfl,rfl, ?_⟩;rw[qOf_cons,if_pos e];rfl
   |succ k=>
    cases hr:fnd l p k with
    |none=>rw[show(match k+1 with|0=>some 0|k+1=>(fnd l p k).map (·+1))=(fnd l p k).map (·+1) from rfl,hr] at h;cases h
    |some j=>
     rw[show(match k+1 with|0=>some 0|k+1=>(fnd l p k).map (·+1))=(fnd l p k).map (·+1) from rfl,hr] at h;cases h;obtain⟨s,h1,h2,h3⟩:=fnd_some hr;refine⟨s,by simpa using h1, ?_, ?_⟩
     ·rw[List.take_succ_cons,qOf_cons,if_pos e,List.length_cons,h2]
     ·rw[qOf_cons,if_pos e];simpa using h3
  ·rename_i e
   cases hr:fnd l p k with
   |none=>rw[hr] at h;cases h
   |some j=>
    rw[hr] at h;cases h;obtain⟨s,h1,h2,h3⟩:=fnd_some hr;refine⟨s,by simpa using h1, ?_, ?_⟩
    ·rw[List.take_succ_cons,qOf_cons,if_neg e,h2]
    ·rw[qOf_cons,if_neg e];exact h3
theorem split_at{X:Type}{L:List X}{i:Nat}{x:X}(h:L[i]? =some x):L=L.take i++x::L.drop (i+1):=by
 obtain⟨hi,rfl⟩:=List.getElem?_eq_some_iff.1 h;rw[List.getElem_cons_drop,List.take_append_drop]
theorem fnd_drop{L:List (Int×ByteArray)}{i:Nat}{x:Int×ByteArray}(h:L[i]? =some x)(p:Int)(k:Nat):fnd (L.drop i) p k=if x.1=p then(match k with|0=>some 0|k+1=>(fnd (L.drop (i+1)) p k).map (·+1)) else(fnd (L.drop (i+1)) p k).map (·+1):=by
 obtain⟨hi,rfl⟩:=List.getElem?_eq_some_iff.1 h;rw[←List.getElem_cons_drop hi]
 conv=>lhs;unfold fnd
def fndV(L:List (Int×ByteArray))(p:Int)(k:Nat):Int:=match fnd L p k with|none=> -1|some i=>i
theorem fnd_one{L:List (Int×ByteArray)}{p:Int}{k:Nat}(h:k<(qOf L p).length):∃i,fnd L p k=some i:=by
 cases q:fnd L p k with
 |some i=>exact⟨i,rfl⟩
 |none=>have:=fnd_none q;omega
theorem fnd_no{L:List (Int×ByteArray)}{p:Int}{k:Nat}(h:(qOf L p).length≤k):fnd L p k=none:=by
 cases q:fnd L p k with
 |none=>rfl
 |some i=>
  obtain⟨s,_,_,h3⟩:=fnd_some q;have:=(List.getElem?_eq_some_iff.1 h3).1;omega
theorem qOf_del{L:List (Int×ByteArray)}{p:Int}{i:Nat}(h:fnd L p 0=some i):∃s r,L[i]? =some (p,s)∧qOf L p=s::r∧qOf (L.take i++L.drop (i+1)) p=r∧∀x,x≠p→qOf (L.take i++L.drop (i+1)) x=qOf L x:=by
 obtain⟨s,h1,h2,_⟩:=fnd_some h;have hn:qOf (L.take i) p=[]:=List.eq_nil_of_length_eq_zero h2;have hs:=split_at h1;refine⟨s,qOf (L.drop (i+1)) p,h1, ?_, ?_,fun x hx=> ?_⟩
 ·conv=>lhs;rw[hs]
  rw[qOf_app,hn,qOf_cons,if_pos rfl];rfl
 ·rw[qOf_app,hn];rfl
 ·conv=>rhs;rw[hs]
  rw[qOf_app,qOf_app,qOf_cons,if_neg (fun e=>hx e.symm)]
theorem len_count(L:List (Int×ByteArray))(hp:∀y,y∈L→0≤y.1)(c:Nat)(hq:∀x,(qOf L x).length≤c):∀n:Nat,(L.filter fun y=>decide (y.1<(n:Int))).length≤c*n
 |0=>by
  have:(L.filter fun y=>decide (y.1<((0:Nat):Int)))=[]:=by
   rw[List.filter_eq_nil_iff];intro y hy;have:=hp y hy
   simp
   omega
  rw[this];exact Nat.zero_le _
 |n+1=>by
  have ih:=len_count L hp c hq n;have h1:=hq n;have:(L.filter fun y=>decide (y.1<((n+1:Nat):Int))).length≤(L.filter fun y=>decide (y.1<(n:Int))).length+(qOf L n).length:=by
   clear ih h1 hq hp;unfold qOf;rw[List.length_map]
   induction L with
   |nil=>simp
   |cons y l ihl=>
    by_cases a:y.1<(n:Int)
    ·have b:y.1<((n+1:Nat):Int):=by omega
     have d:¬y.1=(n:Int):=by omega
     rw[List.filter_cons_of_pos (by simpa using b),List.filter_cons_of_pos (by simpa using a),List.filter_cons_of_neg (by simpa using d),List.length_cons,List.length_cons];omega
    ·by_cases d:y.1=(n:Int)
     ·have b:y.1<((n+1:Nat):Int):=by omega
      rw[List.filter_cons_of_pos (by simpa using b),List.filter_cons_of_neg (by simpa using a),List.filter_cons_of_pos (by simpa using d),List.length_cons,List.length_cons];omega
     ·have b:¬y.1<((n+1:Nat):Int):=by omega
      rw[List.filter_cons_of_neg (by simpa using b),List.filter_cons_of_neg (by simpa using a),List.filter_cons_of_neg (by simpa using d)];exact ihl
  rw[Nat.mul_succ];omega
theorem len_le{L:List (Int×ByteArray)}(hp:∀y,y∈L→0≤y.1∧y.1<65536)(hq:∀x,(qOf L x).length≤8):L.length≤524288:=by
 have h:=len_count L (fun y hy=>(hp y hy).1) 8 hq 65536;have e:(L.filter fun y=>decide (y.1<((65536:Nat):Int)))=L:=by
  rw[List.filter_eq_self];intro y hy;have:=(hp y hy).2
  simpa using this
 rw[e] at h;omega
end Rn
structure RnAt where
 rb:Nat
 lv:Value
 sv:Value
 L:List (Int×ByteArray)
structure Rns(w:World)(a:RnAt)(S:Ni.NicS):Prop where
 head:w.heap[a.rb]? =some (.cells #[a.lv,a.sv,.int .i64 S.gone] 206 (0,0))
 row:SlV w 299 2 a.lv a.L.length (Rn.wtC a.L)
 out:SlV w 9 1 a.sv S.sent.length (S.sent.map Value.string)
 q:∀x,S.q x=Rn.qOf a.L x
 pt:∀y,y∈a.L→(0≤y.1∧y.1<65536)∧y.2.size≤128
 q8:∀x,(S.q x).length≤8
 lr:∀k,a.lv.ownBlock=some k→k≠a.rb∧k<w.heap.size∧a.sv.ownBlock≠some k
 sr:∀k,a.sv.ownBlock=some k→k≠a.rb∧k<w.heap.size
def RnAt.wf(a:RnAt)(k:Nat):Prop:=k=a.rb∨a.lv.ownBlock=some k∨a.sv.ownBlock=some k
namespace Rns
variable {w w':World} {a:RnAt} {S:Ni.NicS}
theorem mod{F:Nat→Prop}(h:Rns w a S)(hm:Mod F w w')(hF:∀k,a.wf k→¬F k):Rns w' a S:=
 ⟨(hm.block _ (lQ h.head) (hF _ (.inl rfl))).trans h.head,h.row.mod hm fun k hk=>hF k (.inr (.inl hk)),h.out.mod hm fun k hk=>hF k (.inr (.inr hk)),h.q,h.pt,h.q8,fun k hk=>⟨(h.lr k hk).1,Nat.lt_of_lt_of_le (h.lr k hk).2.1 hm.size,(h.lr k hk).2.2⟩,fun k hk=>⟨(h.sr k hk).1,Nat.lt_of_lt_of_le (h.sr k hk).2 hm.size⟩⟩
theorem below(h:Rns w a S)(hb:Below w.heap.size w w'):Rns w' a S:=h.mod (Mod.of_below hb (fun _=>False)) fun _ _ q=>q
theorem cells(h:Rns w a S):w.cell? ⟨a.rb,0,none⟩=some a.lv∧w.cell? ⟨a.rb,1,none⟩=some a.sv∧w.cell? ⟨a.rb,2,none⟩=some (.int .i64 S.gone)∧∀i,w.frozen? ⟨a.rb,i,none⟩=false:=by
 refine⟨?_, ?_, ?_,fun i=> ?_⟩
 ·unfold World.cell?;rw[h.head];rfl
 ·unfold World.cell?;rw[h.head];rfl
 ·unfold World.cell?;rw[h.head];rfl
 ·unfold World.frozen?;rw[h.head];simp
theorem len(h:Rns w a S):a.L.length≤524288:=Rn.len_le (fun y hy=>(h.pt y hy).1) fun x=>by rw[←h.q];exact h.q8 x
theorem at'(h:Rns w a S){i:Nat}{x:Int×ByteArray}(hx:a.L[i]? =some x):∃g off cap,a.lv=.slice (some ⟨g,off,none⟩) a.L.length cap∧w.cell? ⟨g,off+i*2,none⟩=some (.int .u16 x.1)∧w.cell? ⟨g,off+i*2+1,none⟩=some (.string x.2):=by
 have hi:=(List.getElem?_eq_some_iff.1 hx).1;have hr:=h.row;rcases hr.2 with⟨h0,_⟩|⟨g,off,cap,cur,hv,_⟩
 ·omega
 ·obtain⟨h1,h2⟩:=Rn.wtC_at _ _ _ hx;refine⟨g,off,cap,hv, ?_, ?_⟩
  ·rw[hv] at hr;rw[hr.cell (i*2) (by omega)];exact h1
  ·rw[hv] at hr;rw[Nat.add_assoc,hr.cell (i*2+1) (by omega)];exact h2
end Rns
namespace Rn
section
variable {w:World} {a:RnAt} {S:Ni.NicS}
theorem may(f:ByteArray)(hf:f.size<140737488355328)(w:World):Calls Tryz.prog 201 #[.string f] w fun e w'=>e=.returned (.bool (Ni.mayB f))∧w=w':=by
 by_cases a:1≤f.size
 ·by_cases b:f.size≤128
  ·go_enter func201,ntmps201;go_wp2;go_ret;exact⟨Ni.ret_bool (by unfold Ni.mayB;simp[a,b];omega),rfl⟩
  ·go_enter func201,ntmps201;go_wp2;go_ret;exact⟨Ni.ret_bool (by unfold Ni.mayB;simp[a,b];omega),rfl⟩
 ·go_enter func201,ntmps201;go_wp2;go_ret;exact⟨Ni.ret_bool (by unfold Ni.mayB;simp[a]),rfl⟩
def fdRel(w:World)(L:List (Int×ByteArray))(p:Int)(k:Nat)(vk vi:Value)(wr:World):Prop:=∃i j:Nat,i≤L.length∧j≤k∧vi=.int .i64 i∧vk=.int .i64 j∧fnd L p k=(fnd (L.drop i) p j).map (·+i)∧wr=w
theorem find(h:Rns w a S)(p:Int)(k:Nat)(hk:k≤1000000):Calls Tryz.prog 249 #[.pointer (some ⟨a.rb,0,none⟩),.int .u16 p,.int .i64 k] w fun e w'=>e=.returned (.int .i64 (fndV a.L p k))∧w=w':=by
 obtain⟨c0,c1,c2,_⟩:=h.cells;have hl:=h.len;have H:=Lh h;obtain⟨ao,ac,hlv⟩:=h.row.form;rw[hlv] at c0;clear h;go_enter func249,ntmps249;go_wp2;go_loopw [2,7] (fun vk vi wr=>fdRel w a.L p k vk vi wr) (fun _ vi _=>a.L.length - (intOf vi).toNat)
 case atStart=>exact⟨0,k,by omega,by omega,rfl,rfl,by simp,rfl⟩
 case round=>
  obtain⟨i,j,hi,hj,rfl,rfl,hf,rfl⟩:=hrel;have HF:=Lh hf;clear hf
  by_cases hin:i<a.L.length
  ·obtain⟨x,hx⟩:∃x,a.L[i]? =some x:=⟨_,Zg hin⟩;obtain⟨g,off,cap,hv,x0,x1⟩:=H.out.at' hx;rw[hlv] at hv;simp only[Value.slice.injEq] at hv;obtain⟨rfl,_,rfl⟩:=hv;have hi1:(i:Int)<a.L.length:=by omega
   have HD:=Lh (fnd_drop hx p j);clear hx hlv
   by_cases hxn:x.1=p
   ·have hb:(x.1 == p)=true:=beq_iff_eq.2 hxn;cases j with
    |zero=>
     have HV:Hid (fndV a.L p k=i):=Lh (by unfold fndV;rw[HF.out,HD.out,if_pos hxn];simp);clear hxn;go_wp2;go_ret;exact⟨by rw[HV.out];rfl,rfl⟩
    |succ j=>
     have HV:Hid (fnd a.L p k=(fnd (a.L.drop (i+1)) p j).map (·+(i+1))):=Lh (by
      rw[HF.out,HD.out,if_pos hxn]
      show((fnd (a.L.drop (i+1)) p j).map (·+1)).map (·+i)=_
      rw[Option.map_map]
      congr 1
      funext z
      show z+1+i=z+(i+1)
      omega)
     have hj0:(((j+1:Nat):Int) == 0)=false:=beq_eq_false_iff_ne.2 (by omega);clear hxn;go_wp2;refine⟨⟨i+1,j,by omega,by omega,by go_num,by go_num,HV.out,rfl⟩,by simp[intOf];omega⟩
   ·have hb:(x.1 == p)=false:=beq_eq_false_iff_ne.2 hxn;have HV:Hid (fnd a.L p k=(fnd (a.L.drop (i+1)) p j).map (·+(i+1))):=Lh (by
     rw[HF.out,HD.out,if_neg hxn,Option.map_map]
     congr 1
     funext z
     show z+1+i=z+(i+1)
     omega)
    clear hxn;go_wp2;refine⟨⟨i+1,j,by omega,by omega,by go_num,rfl,HV.out,rfl⟩,by simp[intOf];omega⟩
  ·have hi1:¬(i:Int)<a.L.length:=by omega
   have HV:Hid (fndV a.L p k= -1):=Lh (by
    unfold fndV;rw[HF.out,List.drop_eq_nil_of_le (by omega)];rfl)
   clear hlv;go_wp2;go_ret;exact⟨by rw[HV.out];rfl,rfl⟩
def lnRel(w:World)(n:Nat)(vk:Value)(wr:World):Prop:=∃k:Nat,k≤n∧vk=.int .i64 k∧wr=w
theorem len(h:Rns w a S)(p:Int):Calls Tryz.prog 203 #[.pointer (some ⟨a.rb,0,none⟩),.int .u16 p] w fun e w'=>e=.returned (.int .i64 (S.q p).length)∧w=w':=by
 have HF:=Lh fun k hk=>find h p k hk
 have hq:(qOf a.L p).length=(S.q p).length:=by rw[h.q]
 have h8:=h.q8 p;have HQ:=Lh hq;generalize (S.q p).length=n at*;clear hq h;go_enter func203,ntmps203;go_wp2;go_loopw [5] (fun vk wr=>lnRel w n vk wr) (fun vk _=>n - (intOf vk).toNat)
 case atStart=>exact⟨0,by omega,rfl,rfl⟩
 case round=>
  obtain⟨k,hk,rfl,rfl⟩:=hrel
  by_cases hkn:k<n
  ·have hf:=HF.out k (by omega);obtain⟨i,hi⟩:=fnd_one (L:=a.L) (p:=p) (k:=k) (by have:=HQ.out;omega);unfold fndV at hf;rw[hi] at hf;have hi0:(0:Int)≤i:=by omega
   have Hf:=Lh hf;clear hf hi;go_wp2_with fail;refine Hf.out.mono ?_;rintro e w1 ⟨rfl,rfl⟩;go_wp2;refine⟨⟨k+1,by omega,by go_num,rfl⟩,by simp[intOf];omega⟩
  ·obtain rfl:k=n:=by omega
   have hf:=HF.out k (by omega);unfold fndV at hf;rw[fnd_no (by have:=HQ.out;omega)] at hf;have Hf:=Lh hf;clear hf;go_wp2_with fail;refine Hf.out.mono ?_;rintro e w1 ⟨rfl,rfl⟩;go_wp2;go_ret;exact⟨rfl,rfl⟩
theorem next(h:Rns w a S)(p:Int):Calls Tryz.prog 216 #[.pointer (some ⟨a.rb,0,none⟩),.int .u16 p] w fun e w'=>e=.returned (.tuple #[.string (Ni.nextS S p),.bool (Ni.nextB S p)])∧w=w':=by
 obtain⟨c0,c1,c2,_⟩:=h.cells;have hl:=h.len;have hf:=find h p 0 (by omega);unfold fndV at hf;cases hi:fnd a.L p 0 with
 |none=>
  have hq:S.q p=[]:=by rw[h.q];exact List.eq_nil_of_length_eq_zero (Nat.le_zero.1 (fnd_none hi))
  have HV:Hid (Ni.nextS S p=ByteArray.empty∧Ni.nextB S p=false):=Lh (by unfold Ni.nextS Ni.nextB;rw[hq];exact⟨rfl,rfl⟩);rw[hi] at hf;have HF:=Lh hf;clear hf hi hq h;go_enter func216,ntmps216;go_wp2_with fail;refine HF.out.mono ?_;rintro e w1 ⟨rfl,rfl⟩;go_wp2;go_ret2;rw[HV.out.1,HV.out.2];exact⟨rfl,rfl⟩
 |some i=>
  obtain⟨s,r,h1,h2,_⟩:=qOf_del hi;have hq:S.q p=s::r:=by rw[h.q];exact h2
  have HV:Hid (Ni.nextS S p=s∧Ni.nextB S p=true):=Lh (by unfold Ni.nextS Ni.nextB;rw[hq];exact⟨rfl,rfl⟩);obtain⟨g,off,cap,hv,x0,x1⟩:=h.at' h1;rw[hv] at c0;have hi1:(i:Int)<a.L.length:=by have:=(List.getElem?_eq_some_iff.1 h1).1;omega
  have hi0:(0:Int)≤i:=by omega
  rw[hi] at hf;have HF:=Lh hf;clear hf hi hq h h1 h2 hv;go_enter func216,ntmps216;go_wp2_with fail;refine HF.out.mono ?_;rintro e w1 ⟨rfl,rfl⟩;go_wp2;go_ret2;rw[HV.out.1,HV.out.2];exact⟨rfl,rfl⟩
end
end Rn
namespace Rn
theorem below_drewN(w:World)(n:Nat):Below w.heap.size w (w.drewN n):=(Below.refl w.heap.size w).trans ⟨rfl,rfl,rfl,Nat.le_refl _,fun _ _=>rfl⟩
theorem wrap16{x:Int}(h0:0≤x)(h1:x<65536):IntKind.u16.wrap x=x:=by simp[IntKind.wrap,IntKind.signed,IntKind.bits];omega
theorem two16(x y:UInt8):IntKind.u16.wrap (IntKind.u16.wrap (256*IntKind.u16.wrap (x.toNat:Int))+IntKind.u16.wrap (y.toNat:Int))=256*(x.toNat:Int)+y.toNat:=by
 have hx:=x.toNat_lt;have hy:=y.toNat_lt;rw[wrap16 (x:=(x.toNat:Int)) (by omega) (by omega),wrap16 (x:=(y.toNat:Int)) (by omega) (by omega),wrap16 (x:=256*(x.toNat:Int)) (by omega) (by omega),wrap16 (by omega) (by omega)]
theorem portV_at(f:ByteArray)(j:Nat)(hj:j≤22)(h:¬f.size<24):Ni.portV f j=256*((f[j]'(by omega)).toNat:Int)+((f[j+1]'(by omega)).toNat:Int):=by
 have hz:(f.extract j (j+2)).size=2:=by simp;omega
 have h2:=nums_two (f.extract j (j+2)) (by omega);rw[nums_empty ((f.extract j (j+2)).extract 2 (f.extract j (j+2)).size) (by rw[hz,ByteArray.size_extract,hz];rfl)] at h2;unfold Ni.portV;rw[if_neg h,h2];have e0:(f.extract j (j+2))[0]'(by omega)=f[j]'(by omega):=by rw[ByteArray.getElem_extract];rfl
 have e1:(f.extract j (j+2))[1]'(by omega)=f[j+1]'(by omega):=by rw[ByteArray.getElem_extract]
 rw[e0,e1]
 show((f[j+1]'(by omega)).toNat:Int)+256*(((f[j]'(by omega)).toNat:Int)+256*0)=_
 omega
theorem port(f:ByteArray)(hf:f.size<140737488355328)(j:Nat)(hj:j=20∨j=22)(w:World):Calls Tryz.prog 285 #[.string f,.int .i64 j] w fun e w'=>e=.returned (.tuple #[.int .u16 (Ni.portV f j),.bool (Ni.portB f)])∧Below w.heap.size w w':=by
 by_cases a:f.size<24
 ·have hV:=Lh (show Ni.portV f j=0 by unfold Ni.portV;rw[if_pos a]);have hB:=Lh (show Ni.portB f=false by unfold Ni.portB;exact decide_eq_false (by omega));go_enter func285,ntmps285;go_wp2;go_ret2;exact⟨Ni.ret_ib hV.out.symm hB.out.symm,Below.refl _ _⟩
 ·have hB:=Lh (show Ni.portB f=true by unfold Ni.portB;exact decide_eq_true (by omega));rcases hj with rfl|rfl
  ·have j1:(20:Int)<f.size:=by omega
   have j2:(21:Int)<f.size:=by omega
   have j3:20<f.size:=by omega
   have j4:21<f.size:=by omega
   have HV:=Lh (portV_at f 20 (by omega) a);go_enter func285,ntmps285;go_wp2;go_quiet (fail);go_wp2;go_ret2;exact⟨Ni.ret_ib ((two16 _ _).trans HV.out.symm) hB.out.symm,below_drewN _ _⟩
  ·have j1:(22:Int)<f.size:=by omega
   have j2:(23:Int)<f.size:=by omega
   have j3:22<f.size:=by omega
   have j4:23<f.size:=by omega
   have HV:=Lh (portV_at f 22 (by omega) a);go_enter func285,ntmps285;go_wp2;go_quiet (fail);go_wp2;go_ret2;exact⟨Ni.ret_ib ((two16 _ _).trans HV.out.symm) hB.out.symm,below_drewN _ _⟩
theorem to_(f:ByteArray)(hf:f.size<140737488355328)(w:World):Calls Tryz.prog 202 #[.string f] w fun e w'=>e=.returned (.tuple #[.int .u16 (Ni.portV f 22),.bool (Ni.portB f)])∧Below w.heap.size w w':=by
 have hp:=Lh fun w=>port f hf 22 (.inr rfl) w
 go_enter func202,ntmps202;go_wp2_with fail;refine(hp.out _).mono ?_;rintro e w1 ⟨rfl,hb⟩;go_wp2;go_ret2;exact⟨rfl,hb⟩
end Rn
namespace Rn
theorem info_wt:(Tryz.prog.info? 299).map (fun i=>(i.zero,i.size,i.bytes))=some (some (.agg #[.int .u16 0,.string ByteArray.empty]),2,24):=by kernel_rfl
section
variable {w:World} {a:RnAt} {S:Ni.NicS}
def Post(w:World)(a:RnAt)(S:Ni.NicS)(w':World):Prop:=∃a',Rns w' a' S∧a'.rb=a.rb∧(∀k,a'.wf k→a.wf k∨w.heap.size≤k∧k<w'.heap.size)∧Mod a.wf w w'
theorem Post.refl(h:Rns w a S){w':World}(hb:Below w.heap.size w w'):Post w a S w':=⟨a,h.below hb,rfl,fun _ q=>.inl q,Mod.of_below hb _⟩
theorem layRow(h:Rns w a S){W:World}(hm:Mod (fun k=>a.lv.ownBlock=some k) w W){v:Value}{L:List (Int×ByteArray)}(hs:SlV W 299 2 v L.length (wtC L))(hv:∀k,v.ownBlock=some k→(a.lv.ownBlock=some k∨w.heap.size≤k)∧k<W.heap.size){S':Ni.NicS}(hq:∀x,S'.q x=qOf L x)(hse:S'.sent=S.sent)(hg:S'.gone=S.gone)(hp:∀y,y∈L→(0≤y.1∧y.1<65536)∧y.2.size≤128)(h8:∀x,(S'.q x).length≤8):
  Post w a S' (W.setCell ⟨a.rb,0,none⟩ v):=by
 have hr:∀k,a.lv.ownBlock=some k→k≠a.rb:=fun k hk=>(h.lr k hk).1
 have hh:W.heap[a.rb]? =some (.cells #[a.lv,a.sv,.int .i64 S.gone] 206 (0,0)):=(hm.block _ (lQ h.head) (fun e=>hr _ e rfl)).trans h.head;have hm2:Mod (fun k=>k=a.rb) W (W.setCell ⟨a.rb,0,none⟩ v):=Mod.setCell (F:=fun k=>k=a.rb) (Mod.refl _ _) ⟨a.rb,0,none⟩ (.inl rfl) _;have ha:=lQ h.head;have hv1:∀k,v.ownBlock=some k→k≠a.rb:=fun k hk=>by
  rcases(hv k hk).1 with z|z
  ·exact hr k z
  ·omega
 have hz:=hm2.size;refine⟨⟨a.rb,v,a.sv,L⟩,⟨?_,hs.mod hm2 hv1, ?_,hq,hp,h8,fun k hk=>⟨hv1 k hk,by have:=(hv k hk).2;omega, ?_⟩,fun k hk=>⟨(h.sr k hk).1,by have:=(h.sr k hk).2;have:=hm.size;omega⟩⟩,rfl,fun k hk=> ?_, ?_⟩
 ·rw[hg];exact heap_setCell_same W a.rb 0 _ _ v hh
 ·rw[hse];exact(h.out.mod hm fun k hk e=>(h.lr k e).2.2 hk).mod hm2 fun k hk=>(h.sr k hk).1
 ·rcases(hv k hk).1 with z|z
  ·exact(h.lr k z).2.2
  ·intro e;have:=(h.sr k e).2;omega
 ·rcases hk with z|z|z
  ·exact .inl (.inl z)
  ·have h1:=hv k z;rcases h1.1 with y|y
   ·exact .inl (.inr (.inl y))
   ·exact .inr ⟨y,by omega⟩
  ·exact .inl (.inr (.inr z))
 ·exact(hm.mono fun k _ e=>.inr (.inl e)).same (hm2.mono fun k _ e=>.inl e)
theorem layOut(h:Rns w a S){W:World}(hm:Mod (fun k=>a.sv.ownBlock=some k) w W){v:Value}{l:List ByteArray}(hs:SlV W 9 1 v l.length (l.map Value.string))(hv:∀k,v.ownBlock=some k→(a.sv.ownBlock=some k∨w.heap.size≤k)∧k<W.heap.size):
  Post w a {S with sent:=l} (W.setCell ⟨a.rb,1,none⟩ v):=by
 have hr:∀k,a.sv.ownBlock=some k→k≠a.rb:=fun k hk=>(h.sr k hk).1
 have hh:W.heap[a.rb]? =some (.cells #[a.lv,a.sv,.int .i64 S.gone] 206 (0,0)):=(hm.block _ (lQ h.head) (fun e=>hr _ e rfl)).trans h.head;have hm2:Mod (fun k=>k=a.rb) W (W.setCell ⟨a.rb,1,none⟩ v):=Mod.setCell (F:=fun k=>k=a.rb) (Mod.refl _ _) ⟨a.rb,1,none⟩ (.inl rfl) _;have ha:=lQ h.head;have hv1:∀k,v.ownBlock=some k→k≠a.rb:=fun k hk=>by
  rcases(hv k hk).1 with z|z
  ·exact hr k z
  ·omega
 have hz:=hm2.size;have hzm:=hm.size;refine⟨⟨a.rb,a.lv,v,a.L⟩,⟨heap_setCell_same W a.rb 1 _ _ v hh,(h.row.mod hm fun k hk e=>(h.lr k hk).2.2 e).mod hm2 fun k hk=>(h.lr k hk).1,hs.mod hm2 hv1,h.q,h.pt,h.q8,fun k hk=>⟨(h.lr k hk).1,by have:=(h.lr k hk).2.1;omega,fun e=> ?_⟩,fun k hk=>⟨hv1 k hk,by have:=(hv k hk).2;omega⟩⟩,rfl,fun k hk=> ?_,(hm.mono fun k _ e=>.inr (.inr e)).same (hm2.mono fun k _ e=>.inl e)⟩
 ·rcases(hv k e).1 with z|z
  ·exact(h.lr k hk).2.2 z
  ·have:=(h.lr k hk).2.1;omega
 ·rcases hk with z|z|z
  ·exact .inl (.inl z)
  ·exact .inl (.inr (.inl z))
  ·have h1:=hv k z;rcases h1.1 with y|y
   ·exact .inl (.inr (.inr y))
   ·exact .inr ⟨y,by omega⟩
theorem layGone(h:Rns w a S){W:World}(hb:Below w.heap.size w W)(g:Int):Post w a (Ni.goneS S g) (W.setCell ⟨a.rb,2,none⟩ (.int .i64 g)):=by
 have h1:=h.below hb;have hm2:Mod (fun k=>k=a.rb) W (W.setCell ⟨a.rb,2,none⟩ (.int .i64 g)):=Mod.setCell (F:=fun k=>k=a.rb) (Mod.refl _ _) ⟨a.rb,2,none⟩ (.inl rfl) _;have hz:=hm2.size;exact⟨a,⟨heap_setCell_same W a.rb 2 _ _ _ h1.head,h1.row.mod hm2 fun k hk=>(h1.lr k hk).1,h1.out.mod hm2 fun k hk=>(h1.sr k hk).1,h1.q,h1.pt,h1.q8,fun k hk=>⟨(h1.lr k hk).1,by have:=(h1.lr k hk).2.1;omega,(h1.lr k hk).2.2⟩,fun k hk=>⟨(h1.sr k hk).1,by have:=(h1.sr k hk).2;omega⟩⟩,rfl,fun k hk=>.inl hk,(Mod.of_below hb _).same (hm2.mono fun k _ e=>.inl e)⟩
theorem send(h:Rns w a S)(f:ByteArray)(hf:f.size<140737488355328)(hs:S.sent.length<1000000):Calls Tryz.prog 215 #[.pointer (some ⟨a.rb,0,none⟩),.string f] w fun e w'=>e=.returned (.int .i64 (Ni.sendE f))∧Post w a (Ni.sendS S f) w':=by
 have HMy:=Lh (may f hf w);obtain⟨b,hb⟩:∃b,Ni.mayB f=b:=⟨_,rfl⟩;rw[hb] at HMy;cases b with
 |false=>
  have HEnd:Hid (Post w a (Ni.sendS S f) w∧Ni.sendE f=2):=Lh (by unfold Ni.sendS Ni.sendE;rw[hb];exact⟨Post.refl h Br,rfl⟩);clear hb h;go_enter func215,ntmps215;go_wp2_with fail;refine HMy.out.mono ?_;rintro e w1 ⟨rfl,rfl⟩;go_wp2;go_ret;exact⟨by rw[HEnd.out.2];rfl,HEnd.out.1⟩
 |true=>
  obtain⟨c0,c1,c2,cf⟩:=h.cells;obtain⟨so,sc,hsv⟩:=h.out.form;obtain⟨i0,hi0',hz0,hz1,hz2⟩:=Ni.infoStr';have hb1:Below w.heap.size w (w.alloc (.cells #[.string f] 9)):=Ba _;have hk1:=heap_alloc_new w (.cells #[.string f] 9);have h1:=h.below hb1;have hrow:=h1.out;rw[hsv] at hrow;have hA:=Rw.app (t:=35) Rw.none_str Tryz.underlying35 hi0' hz0 hz1 hz2 rfl (by omega) (by omega) hrow (m:=1) (cap:=1) (ys:=[.string f]) rfl (a:=some ⟨w.heap.size,0,none⟩) (fun k u hu=>by
   refine⟨_,_,rfl, ?_⟩;unfold World.cell?;rw[hk1]
   simpa using hu) (by omega) (fun u hu=>by simp at hu;subst hu;rfl)
  obtain⟨o2,k2,W,hr,hs2,hm2,hw2⟩:=hA;have hend:Post w a (Ni.sendS S f) (W.setCell ⟨a.rb,1,none⟩ (.slice o2 (S.sent.length+1) k2)):=by
   have e:Ni.sendS S f= {S with sent:=S.sent++[f]}:=by unfold Ni.sendS;rw[if_pos hb]
   rw[e];have hz1:=hb1.size;have hz2:=hm2.size;refine layOut h (W:=W) (v:=.slice o2 (S.sent.length+1) k2) (by rw[hsv];exact(Mod.of_below hb1 _).same hm2) (by rw[List.length_append,List.map_append];exact hs2) fun k hk=> ?_
   rcases hw2 with z|⟨k',z,z1,z2⟩
   ·rw[z] at hk;have h9:=(h.sr k (by rw[hsv];exact hk)).2;exact⟨.inl (by rw[hsv];exact hk),by omega⟩
   ·rw[z] at hk;cases hk;exact⟨.inr (by omega),z2⟩
  have HEnd:Hid (Post w a (Ni.sendS S f) (W.setCell ⟨a.rb,1,none⟩ (.slice o2 (S.sent.length+1) k2))∧Ni.sendE f=0):=Lh ⟨hend,by unfold Ni.sendE;rw[if_pos hb]⟩;have HRun:=Lh hr;have hne:(Value.slice so S.sent.length sc).ownBlock≠some a.rb:=fun e=>(h.sr a.rb (by rw[hsv];exact e)).1 rfl
  have hh:W.heap[a.rb]? =some (.cells #[a.lv,a.sv,.int .i64 S.gone] 206 (0,0)):=(hm2.block _ (lQ h1.head) hne).trans h1.head;have d1:W.cell? ⟨a.rb,1,none⟩=some a.sv:=by unfold World.cell?;rw[hh];rfl
  have df:W.frozen? ⟨a.rb,1,none⟩=false:=by unfold World.frozen?;rw[hh];rfl
  rw[hsv] at c1 d1;clear hend hr hs2 hm2 hw2 hrow h1 hb1 hk1 h hb hne hh hsv hi0' hz0 hz1 hz2;go_enter func215,ntmps215;go_wp2_with fail;refine HMy.out.mono ?_;rintro e w1 ⟨rfl,rfl⟩;go_wp2_with (at_builtin;refine R11.wpList_append_run rfl _ _ _ rfl rfl rfl HRun.out ?_);go_ret;exact⟨by rw[HEnd.out.2];rfl,HEnd.out.1⟩
end
end Rn
end Go.Proofs.YtjjdjpdmgaipeaaGreat
