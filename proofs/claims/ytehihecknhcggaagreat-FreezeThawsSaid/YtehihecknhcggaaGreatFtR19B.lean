/- R19B, R19C, R19D, R19E in one text. -/
import Derived.Test.YtehihecknhcggaaGreatFtFzO
import Derived.Test.YtehihecknhcggaaGreatFtGraG
import Derived.Test.YtehihecknhcggaaGreatFtFzLg
import Derived.Test.YtehihecknhcggaaGreatFtFzPut
import Derived.Test.YtehihecknhcggaaGreatFtZa
set_option linter.unusedVariables false
set_option linter.unusedSimpArgs false
set_option maxRecDepth 100000
set_option maxHeartbeats 16000000
open Go.Proofs.Tryz
namespace Go.Proofs.YtehihecknhcggaaGreat
open Go.RowKit
namespace Rc
def MBx(w:World)(b:Nat)(m:Mn)(ev pv:Value):Prop:=w.heap[b]? =some (.cells (m.cells ev pv) 48 (0,0))
theorem MBx.below{w w':World}{b:Nat}{m:Mn}{ev pv:Value}(h:MBx w b m ev pv)(hb:Below w.heap.size w w'):MBx w' b m ev pv:=(hb.block _ (lQ h)).trans h
def bkRel(w:World)(l:List (Int×Int))(id:Int)(vi:Value)(wr:World):Prop:=∃i:Nat,i≤l.length∧vi=.int .i64 i∧(∀(k:Nat) (x:Int×Int),k<i→l[k]? =some x→x.1≠id)∧wr=w
theorem blocks{w:World}{m:Mn}{ev pv:Value}(h:MnAt w ev pv m)(id:Int):Calls Tryz.prog 272 #[.agg (m.cells ev pv),.int .u32 id] w fun e w'=>e=.returned (.int .u32 ((Gp.blocksOf m.ext id).getD 0))∧Below w.heap.size w w':=by
 obtain⟨eo,ec,rfl⟩:=h.e.form;have hcap:=slv_len h.e;unfold maxLen at hcap;have hb:Below w.heap.size w (w.alloc (.cells (m.cells (.slice eo m.ext.length ec) pv) 48)):=Ba _;have hk:=heap_alloc_new w (.cells (m.cells (.slice eo m.ext.length ec) pv) 48);have HE:=Lh (h.below hb).e;have HB:=Lh hb;obtain⟨c0,c1,c2,c3,_⟩:=man_cells hk;unfold Mn.cells at*;clear h hb hk;go_enter func272,ntmps272;go_wp2;generalize w.alloc (.cells #[.int .u32 m.pages,.slice eo m.ext.length ec,pv,.bool m.con] 48)=w1 at*;go_loopw [5] (fun vi wr=>bkRel w1 m.ext id vi wr) (fun vi _=>m.ext.length - (intOf vi).toNat)
 case atStart=>exact⟨0,by omega,rfl,fun k _ hk=>absurd hk (Nat.not_lt_zero _),rfl⟩
 case round=>
  obtain⟨i,hi,rfl,hno,rfl⟩:=hrel;have HNo:=Lh hno;clear hno
  by_cases hin:i<m.ext.length
  ·obtain⟨g,off,rfl,hc0,hc1⟩:=ext_cells HE.out (Zg hin);obtain⟨x,hx⟩:∃x,m.ext[i]=x:=⟨_,rfl⟩;rw[hx] at hc0 hc1;have HX:Hid (m.ext[i]? =some x):=Lh (by rw[Zg hin,hx]);have hi1:(i:Int)<m.ext.length:=by omega
   clear hx
   by_cases hxe:x.1=id
   ·have hd:(x.1 == id)=true:=beq_iff_eq.2 hxe;have HV:Hid ((Gp.blocksOf m.ext id).getD 0=x.2):=Lh (by rw[Ca.blocksOf_at HX.out hxe HNo.out];rfl);clear hxe;go_wp2;go_ret;exact⟨by rw[HV.out];rfl,HB.out⟩
   ·have hd:(x.1 == id)=false:=beq_eq_false_iff_ne.2 hxe;have HXe:=Lh hxe;clear hxe;go_wp2;refine⟨⟨i+1,by omega,by go_num,fun k y hk hy=> ?_,rfl⟩,by simp[intOf];omega⟩;rcases Nat.lt_or_ge k i with q|q
    ·exact HNo.out k y q hy
    ·obtain rfl:k=i:=by omega
     rw[HX.out] at hy;cases hy;exact HXe.out
  ·have hi1:¬(i:Int)<m.ext.length:=by omega
   have HV:Hid ((Gp.blocksOf m.ext id).getD 0=0):=Lh (by rw[Ca.blocksOf_none fun k x hk hx=>HNo.out k x (by omega) hx];rfl);go_wp2;go_ret;exact⟨by rw[HV.out];rfl,HB.out⟩
def hpRel(w:World)(l:List Int)(p:Int)(vi:Value)(wr:World):Prop:=∃i:Nat,i≤l.length∧vi=.int .i64 i∧(∀(k:Nat) (x:Int),k<i→l[k]? =some x→x≠p)∧wr=w
theorem hasPort{w:World}{m:Mn}{ev pv:Value}(h:MnAt w ev pv m)(p:Int):Calls Tryz.prog 273 #[.agg (m.cells ev pv),.int .u16 p] w fun e w'=>e=.returned (.bool (decide (p∈m.ports)))∧Below w.heap.size w w':=by
 obtain⟨po,pc,rfl⟩:=h.p.form;have hcap:=slv_len h.p;unfold maxLen at hcap;have hb:Below w.heap.size w (w.alloc (.cells (m.cells ev (.slice po m.ports.length pc)) 48)):=Ba _;have hk:=heap_alloc_new w (.cells (m.cells ev (.slice po m.ports.length pc)) 48);have HE:=Lh (h.below hb).p;have HB:=Lh hb;obtain⟨c0,c1,c2,c3,_⟩:=man_cells hk;unfold Mn.cells at*;clear h hb hk;go_enter func273,ntmps273;go_wp2;generalize w.alloc (.cells #[.int .u32 m.pages,ev,.slice po m.ports.length pc,.bool m.con] 48)=w1 at*;go_loopw [5] (fun vi wr=>hpRel w1 m.ports p vi wr) (fun vi _=>m.ports.length - (intOf vi).toNat)
 case atStart=>exact⟨0,by omega,rfl,fun k _ hk=>absurd hk (Nat.not_lt_zero _),rfl⟩
 case round=>
  obtain⟨i,hi,rfl,hno,rfl⟩:=hrel;have HNo:=Lh hno;clear hno
  by_cases hin:i<m.ports.length
  ·obtain⟨g,off,rfl,hc0⟩:=u16_cell HE.out (Zg hin);obtain⟨x,hx⟩:∃x,m.ports[i]=x:=⟨_,rfl⟩;rw[hx] at hc0;have HX:Hid (m.ports[i]? =some x):=Lh (by rw[Zg hin,hx]);have hi1:(i:Int)<m.ports.length:=by omega
   clear hx
   by_cases hxe:x=p
   ·have hd:(x == p)=true:=beq_iff_eq.2 hxe;have HV:Hid (decide (p∈m.ports)=true):=Lh (decide_eq_true (by rw[←hxe];exact List.mem_of_getElem? HX.out));clear hxe;go_wp2;go_ret;exact⟨by rw[HV.out];rfl,HB.out⟩
   ·have hd:(x == p)=false:=beq_eq_false_iff_ne.2 hxe;have HXe:=Lh hxe;clear hxe;go_wp2;refine⟨⟨i+1,by omega,by go_num,fun k y hk hy=> ?_,rfl⟩,by simp[intOf];omega⟩;rcases Nat.lt_or_ge k i with q|q
    ·exact HNo.out k y q hy
    ·obtain rfl:k=i:=by omega
     rw[HX.out] at hy;cases hy;exact HXe.out
  ·have hi1:¬(i:Int)<m.ports.length:=by omega
   have HV:Hid (decide (p∈m.ports)=false):=Lh (decide_eq_false fun hm=>by
    obtain⟨k,hk⟩:=List.getElem?_of_mem hm;exact HNo.out k p (by have:=(List.getElem?_eq_some_iff.1 hk).1;omega) hk rfl)
   go_wp2;go_ret;exact⟨by rw[HV.out];rfl,HB.out⟩
section
variable {w:World} {a:RcAt} {hp:Int} {G:Int→Option Gr}
theorem set4_mod(V:World)(b:Nat)(x y z u:Value):Mod (fun k=>k=b) V ((((V.setCell ⟨b,0,none⟩ x).setCell ⟨b,1,none⟩ y).setCell ⟨b,2,none⟩ z).setCell ⟨b,3,none⟩ u):=
 Mod.setCell (F:=fun i=>i=b) (Mod.setCell (F:=fun i=>i=b) (Mod.setCell (F:=fun i=>i=b) (Mod.setCell (F:=fun i=>i=b) (Mod.refl _ _) ⟨b,0,none⟩ (.inl rfl) _) ⟨b,1,none⟩ (.inl rfl) _) ⟨b,2,none⟩ (.inl rfl) _) ⟨b,3,none⟩ (.inl rfl) _
def MnP(w:World)(G:Int→Option Gr)(n:Int)(e:Ending)(w':World):Prop:=
 ∃ev pv,e=.returned (.tuple #[.agg ((gOf (G n)).m.cells ev pv),.bool (G n).isSome])∧Below w.heap.size w w'∧MnAt w' ev pv (gOf (G n)).m
theorem manifest(h:Rcs w a hp G)(n:Int):Calls Tryz.prog 143 #[.pointer (some ⟨a.rb,0,none⟩),.int .i64 n] w (MnP w G n):=by
 have hb:Below w.heap.size w (w.alloc (.cells #[.int .u32 0,.slice none 0 0,.slice none 0 0,.bool false] 48)):=Ba _;have hk:=heap_alloc_new w (.cells #[.int .u32 0,.slice none 0 0,.slice none 0 0,.bool false] 48);obtain⟨k0,k1,k2,k3,kf⟩:=man_cells (m:=⟨0,[],[],false⟩) hk;have h1:=h.below hb;have HF:=Lh (find h1 n);obtain⟨c0,c1,c2,_⟩:=h1.cells;have HFin:Hid (∀ev pv V b,b=(G n).isSome→Below w.heap.size w V→MnAt V ev pv (gOf (G n)).m→MnP w G n (.returned (.tuple #[.agg ((gOf (G n)).m.cells ev pv),.bool b])) V):=Lh fun ev pv V b hb h1 h2=>⟨ev,pv,by rw[hb],h1,h2⟩
 generalize MnP w G n=PQ at*;have HB:=Lh hb;have HK:=Lh hk;cases hg:G n with
 |none=>
  have hi:=of_none h1 hg;unfold idxV at HF;rw[hi] at HF;rw[hg] at HFin;have HEnd:Hid (∀V,Below w.heap.size w V→PQ (.returned (.tuple #[.agg #[.int .u32 0,.slice none 0 0,.slice none 0 0,.bool false],.bool false])) V):=Lh fun V hV=>HFin.out (.slice none 0 0) (.slice none 0 0) V false rfl hV ⟨SlV.nil _ _ _,SlV.nil _ _ _⟩
  clear h h1 hb hk hg hi HFin;go_enter func143,ntmps143;go_wp2_with fail;refine HF.out.mono ?_;rintro e w1 ⟨rfl,rfl⟩;go_wp2;refine bodyPost_ret (v:=.tuple #[.agg #[.int .u32 0,.slice none 0 0,.slice none 0 0,.bool false],.bool false]) (by simp[results,Tryz.results143,go_sem, *]) rfl ?_
  first
   |exact HEnd.out _ HB.out
   |exact HEnd.out _ (Mod.below HB.out (set4_mod _ _ _ _ _ _) HB.out.size fun k _ q=>by omega)
 |some g=>
  obtain⟨i,x,hi,hx,hn,hxg⟩:=of_some h1 hg;unfold idxV at HF;rw[hi] at HF;rw[hg] at HFin;obtain⟨q,off,cap,hv,hc⟩:=h1.at' hx;obtain⟨x0,x1,x2,x3,x4,x5,x6⟩:=Rcs.seven hc;rw[hxg] at x1 x4 x5 x6;rw[hv] at c2;have hl:=h1.len;have hi0:=(List.getElem?_eq_some_iff.1 hx).1;have hi1:(i:Int)<a.L.length:=by omega
  have hm:=(h.mns x (List.mem_of_getElem? hx));rw[hxg] at hm;have HEnd:Hid (∀V,Below w.heap.size w V→PQ (.returned (.tuple #[.agg #[.int .u32 g.m.pages,x.ev,x.pv,.bool g.m.con],.bool true])) V):=Lh fun V hV=>HFin.out x.ev x.pv V true rfl hV (hm.below hV)
  obtain⟨xe1,xe2⟩:(∃o n c,x.ev=.slice o n c)∧∃o n c,x.pv=.slice o n c:=⟨by obtain⟨o,c,e⟩:=hm.e.form;exact⟨o,_,c,e⟩,by obtain⟨o,c,e⟩:=hm.p.form;exact⟨o,_,c,e⟩⟩;obtain⟨eo,en,ec,hev⟩:=xe1;obtain⟨po,pn,pc,hpv⟩:=xe2;rw[hev] at x2 HEnd;rw[hpv] at x3 HEnd;clear h h1 hb hk hg hi HFin hx hn hxg hc hm hev hpv hi0 hl hv x0 x5 x6;go_enter func143,ntmps143;go_wp2_with fail;refine HF.out.mono ?_;rintro e w1 ⟨rfl,rfl⟩;go_wp2;refine bodyPost_ret (v:=.tuple #[.agg #[.int .u32 g.m.pages,.slice eo en ec,.slice po pn pc,.bool g.m.con],.bool true]) (by simp[results,Tryz.results143,go_sem, *]) rfl ?_;exact HEnd.out _ (Ba _)
theorem left(h:Rcs w a hp G)(n:Int):Calls Tryz.prog 31 #[.pointer (some ⟨a.rb,0,none⟩),.int .i64 n] w fun e w'=>e=.returned (.int .u32 (Gp.left (G n)))∧Below w.heap.size w w':=by
 have HF:=Lh (find h n);obtain⟨c0,c1,c2,_⟩:=h.cells;cases hg:G n with
 |none=>
  have hi:=of_none h hg;unfold idxV at HF;rw[hi] at HF;clear h hg hi;go_enter func31,ntmps31;go_wp2_with fail;refine HF.out.mono ?_;rintro e w1 ⟨rfl,rfl⟩;go_wp2;go_ret;exact⟨rfl,Below.refl _ _⟩
 |some g=>
  obtain⟨i,x,hi,hx,hn,hxg⟩:=of_some h hg;unfold idxV at HF;rw[hi] at HF;obtain⟨q,off,cap,hv,hc⟩:=h.at' hx;obtain⟨x0,x1,x2,x3,x4,x5,x6⟩:=Rcs.seven hc;rw[hxg] at x1 x6;rw[hv] at c2;have hl:=h.len;have hi0:=(List.getElem?_eq_some_iff.1 hx).1;have hi1:(i:Int)<a.L.length:=by omega
  have hok:=h.ok.ok n g hg;have t0:=hok.t0;have t1:=hok.t1;have p1:=hok.m.p1;have HW:IntKind.u32.wrap (g.m.pages - g.took)=g.m.pages - g.took:=wrap32 (by omega) (by omega);have HBd:=Lh (Below.refl w.heap.size w).drew;clear h hg hi hx hn hxg hc x0 x2 x3 x4 x5 hok t0 t1 p1 hv;go_enter func31,ntmps31;go_wp2_with fail;refine HF.out.mono ?_;rintro e w1 ⟨rfl,rfl⟩;go_wp2;refine B (fun V=>V.cell? ⟨a.rb,2,none⟩=some (.slice (some ⟨q,off,none⟩) a.L.length cap)∧V.cell? ⟨q,off+i*7+1,none⟩=some (.int .u32 g.m.pages)∧V.cell? ⟨q,off+i*7+6,none⟩=some (.int .u32 g.took)) ⟨c2,x1,x6⟩ fun wd hwd hS=> ?_
  have HWd:=Lh hwd;clear hwd c0 c1 c2 x1 x6;refine T 0 hS ?_;refine T 1 hS ?_;refine T 2 hS ?_;refine T 3 hS ?_;refine T 4 hS ?_;refine T 5 hS ?_;refine T 6 hS ?_;refine T 7 hS ?_;refine T 8 hS ?_;refine T 9 hS ?_;refine T 10 hS ?_;refine T 11 hS ?_;refine T 12 hS ?_;refine T 13 hS ?_;refine T 14 hS ?_;refine T 15 hS ?_;refine T 16 hS ?_;refine T 17 hS ?_;refine T 18 hS ?_;refine wpAnyH_done (by kernel_rfl) ?_ _;clear hS;go_wp2;go_ret;exact⟨rfl,by rw[HWd.out];exact HBd.out⟩
end
end Rc
namespace Rc
def pg(x:RcE):Int:=x.g.m.pages+x.g.pg
def sumE(L:List RcE):Int:=(L.map pg).sum
theorem sumE_key(L:List RcE):sumE L=sumR (L.map RcE.key):=by
 unfold sumE sumR;rw[List.map_map];rfl
theorem sumE_snoc(L:List RcE)(x:RcE):sumE (L++[x])=sumE L+pg x:=by unfold sumE;simp
theorem sumE_app(L M:List RcE):sumE (L++M)=sumE L+sumE M:=by unfold sumE;simp
theorem sumE_nn{L:List RcE}(h:∀x,x∈L→0≤pg x):0≤sumE L:=by
 induction L with
 |nil=>exact Int.le_refl _
 |cons x l ih=>
  have h1:=h x (List.mem_cons_self ..);have h2:=ih fun y hy=>h y (List.mem_cons_of_mem _ hy)
  show 0≤((x::l).map pg).sum
  rw[List.map_cons,List.sum_cons];unfold sumE at h2;omega
theorem take_succ{L:List RcE}{i:Nat}{x:RcE}(hx:L[i]? =some x):L.take (i+1)=L.take i++[x]:=by
 rw[List.take_add_one,hx];rfl
section
variable {w:World} {a:RcAt} {hp:Int} {G:Int→Option Gr}
theorem sumE_all(h:Rcs w a hp G):sumE a.L=Gp.sum G:=by rw[sumE_key,h.can,sumR_canon]
theorem pg_nn(h:Rcs w a hp G){x:RcE}(hx:x∈a.L):0≤pg x∧0≤x.g.m.pages∧0≤x.g.pg:=by
 have:=h.ok.ok _ x.g (h.key hx).2.2;have h1:=this.m.p0;have h2:=this.q0;exact⟨by unfold pg;omega,h1,h2⟩
theorem sumE_le(h:Rcs w a hp G)(i:Nat):0≤sumE (a.L.take i)∧sumE (a.L.take i)≤Gp.sum G:=by
 have h1:=sumE_nn (L:=a.L.take i) fun x hx=>(pg_nn h (List.mem_of_mem_take hx)).1
 have h2:=sumE_nn (L:=a.L.drop i) fun x hx=>(pg_nn h (List.mem_of_mem_drop hx)).1
 have h3:=sumE_app (a.L.take i) (a.L.drop i);rw[List.take_append_drop,sumE_all h] at h3;exact⟨h1,by omega⟩
def frR(w:World)(hp:Int)(L:List RcE)(vn vi:Value)(wr:World):Prop:=∃i:Nat,i≤L.length∧vi=.int .i64 i∧vn=.int .u32 (hp - sumE (L.take i))∧Below w.heap.size w wr
theorem free(h:Rcs w a hp G):Calls Tryz.prog 29 #[.pointer (some ⟨a.rb,0,none⟩)] w fun e w'=>e=.returned (.int .u32 (Gp.freeV hp G))∧Below w.heap.size w w':=by
 obtain⟨c0,c1,c2,_⟩:=h.cells;have hl:=h.len;have H:=Lh h;have HV:Hid (hp - sumE a.L=Gp.freeV hp G):=Lh (by rw[sumE_all h];rfl);have HR0:Hid (frR w hp a.L (.int .u32 hp) (.int .i64 0) w):=Lh ⟨0,by omega,rfl,by simp[sumE],Below.refl _ _⟩;obtain⟨ao,ac,hlv⟩:=h.row.form;clear h;go_enter func29,ntmps29;go_wp2;clear c0 c1 c2;go_loopw [3,4] (fun vn vi wr=>frR w hp a.L vn vi wr) (fun _ vi _=>a.L.length - (intOf vi).toNat)
 case atStart=>exact HR0.out
 case round=>
  clear HR0;obtain⟨i,hi,rfl,rfl,hb⟩:=hrel;have HB:=Lh hb;have h1:=H.out.below hb;obtain⟨c0,c1,c2,_⟩:=h1.cells;rw[hlv] at c2
  by_cases hin:i<a.L.length
  ·obtain⟨x,hx⟩:∃x,a.L[i]? =some x:=⟨_,Zg hin⟩;obtain⟨g,off,cap,hv,hc⟩:=h1.at' hx;rw[hlv] at hv;simp only[Value.slice.injEq] at hv;obtain⟨rfl,_,rfl⟩:=hv;obtain⟨x0,x1,x2,x3,x4,x5,x6⟩:=Rcs.seven hc;have hi1:(i:Int)<a.L.length:=by omega
   obtain⟨p0,p1,p2⟩:=pg_nn h1 (List.mem_of_getElem? hx);have hs0:=sumE_le h1 i;have hs1:=sumE_le h1 (i+1);have hsn:sumE (a.L.take (i+1))=sumE (a.L.take i)+(x.g.m.pages+x.g.pg):=by rw[take_succ hx,sumE_snoc];rfl
   rw[hsn] at hs1;have hft:=h1.ok.fit;have hh1:=h1.ok.h1;obtain⟨s,hs⟩:∃s,sumE (a.L.take i)=s:=⟨_,rfl⟩;rw[hs] at hs0 hs1 hsn⊢;have wr0:IntKind.u32.wrap (hp - s - x.g.m.pages)=hp - s - x.g.m.pages:=wrap32 (by omega) (by omega);have wr1:IntKind.u32.wrap (hp - s - x.g.m.pages - x.g.pg)=hp - s - x.g.m.pages - x.g.pg:=wrap32 (by omega) (by omega);have HEnd:Hid (∀V,Below w.heap.size w V→frR w hp a.L (.int .u32 (hp - s - x.g.m.pages - x.g.pg)) (.int .i64 ((i:Int)+1)) V):=Lh fun V hV=>⟨i+1,by omega,by go_num,by rw[hsn];congr 1;omega,hV⟩
   clear hb h1 hx hc x0 x2 x3 x4 x6 p0 p1 p2 hs0 hs1 hsn hft hh1 hs hlv;go_wp2;refine B (fun V=>V.cell? ⟨a.rb,2,none⟩=some (.slice (some ⟨g,off,none⟩) a.L.length ac)∧V.cell? ⟨g,off+i*7+1,none⟩=some (.int .u32 x.g.m.pages)∧V.cell? ⟨g,off+i*7+5,none⟩=some (.int .u32 x.g.pg)) ⟨c2,x1,x5⟩ fun wd hwd hS=> ?_
   have HWd:Hid (Below w.heap.size w wd):=Lh (by rw[hwd];exact HB.out.drew);clear hwd c0 c1 c2 x1 x5;refine T 0 hS ?_;refine T 1 hS ?_;refine T 2 hS ?_;refine T 3 hS ?_;refine T 4 hS ?_;refine T 5 hS ?_;refine T 6 hS ?_;refine T 7 hS ?_;refine T 8 hS ?_;refine T 9 hS ?_;refine T 10 hS ?_;refine T 11 hS ?_;refine T 12 hS ?_;refine T 13 hS ?_;refine T 14 hS ?_;refine T 15 hS ?_;refine T 16 hS ?_;refine T 17 hS ?_;refine T 18 hS ?_;refine T 19 hS ?_;refine T 20 hS ?_;refine wpAnyH_done (by kernel_rfl) ?_ _;clear hS;go_wp2;exact⟨HEnd.out _ HWd.out,by simp[intOf];omega⟩
  ·have hi1:¬(i:Int)<a.L.length:=by omega
   have HT:Hid (a.L.take i=a.L):=Lh (List.take_of_length_le (by omega));clear hb h1 hlv;go_wp2;go_ret;exact⟨by rw[←HV.out,HT.out]<;>rfl,HB.out⟩
structure RcSame(a a':RcAt):Prop where
 rb:a'.rb=a.rb
 hv:a'.hv=a.hv
 lv:a'.lv=a.lv
 rf:∀k,a'.rf k→a.rf k
theorem RcSame.refl(a:RcAt):RcSame a a:=⟨rfl,rfl,rfl,fun _ h=>h⟩
def RcAt.set(a:RcAt)(i:Nat)(x:RcE):RcAt:= {a with L:=a.L.set i x}
theorem setTook(h:Rcs w a hp G){n:Int}{g:Gr}{i:Nat}{x:RcE}(hg:G n=some g)(hx:a.L[i]? =some x)(hn:x.n=n)(hxg:x.g=g)(t:Int)(t0:0≤t)(t1:t≤g.m.pages){q off cap:Nat}(hv:a.lv=.slice (some ⟨q,off,none⟩) a.L.length cap):
  Rcs (w.setCell ⟨q,off+i*7+6,none⟩ (.int .u32 t)) (RcAt.set a i {x with g:= {g with took:=t}}) hp (Gp.upd G n (some {g with took:=t}))∧Mod (fun k=>a.lv.ownBlock=some k) w (w.setCell ⟨q,off+i*7+6,none⟩ (.int .u32 t)):=by
 have hi:=(List.getElem?_eq_some_iff.1 hx).1;have hm:Mod (fun k=>k=q) w (w.setCell ⟨q,off+i*7+6,none⟩ (.int .u32 t)):=Mod.setCell (F:=fun k=>k=q) (Mod.refl _ _) ⟨q,off+i*7+6,none⟩ (.inl rfl) _;have hr:=h.row;rw[hv] at hr;have hqb:∃c,w.heap[q]? =some (.cells c 212 (0,0)):=by
  rcases hr.2 with⟨h0,_⟩|⟨gg,oo,cc,cur,e,hgg,_⟩
  ·omega
  ·cases e;exact⟨_,hgg⟩
 obtain⟨qc,hqb⟩:=hqb;have hset:=SlV.setCell hr (i*7+6) (by omega) (.int .u32 t);have hcs:(rcC a.L).set (i*7+6) (.int .u32 t)=rcC (a.L.set i {x with g:= {g with took:=t}}):=by
  apply List.ext_getElem?
  intro k;have hl1:=rcC_len a.L;have hl2:=rcC_len (a.L.set i {x with g:= {g with took:=t}});rw[List.length_set] at hl2;rcases Nat.lt_or_ge k (a.L.length*7) with hk|hk
  ·have hkd:k=k / 7*7+k % 7:=by omega
   have hk7:k / 7<a.L.length:=by omega
   have hkm:k % 7<7:=by omega
   have e1:=rcC_at a.L (k / 7) _ (Zg hk7) (k % 7) hkm;have e2:(a.L.set i {x with g:= {g with took:=t}})[k / 7]? =some (if i=k / 7 then {x with g:= {g with took:=t}} else a.L[k / 7]):=by
    rw[List.getElem?_set]
    split
    ·rfl
    ·exact Zg hk7
   have e3:=rcC_at _ (k / 7) _ e2 (k % 7) hkm;rw[←hkd] at e1 e3;rw[e3,List.getElem?_set]
   by_cases hik:i=k / 7
   ·rw[if_pos hik];have hxk:a.L[k / 7]=x:=by
     rw[Zg hi] at hx;cases hx;simp only[hik]
    rw[hxk] at e1;rcases Nat.lt_or_ge (k % 7) 6 with q6|q6
    ·rw[if_neg (by omega),e1];have:k % 7=0∨k % 7=1∨k % 7=2∨k % 7=3∨k % 7=4∨k % 7=5:=by omega
     rcases this with z|z|z|z|z|z<;>rw[z]<;>simp[RcE.cells,hxg]
    ·have z:k % 7=6:=by omega
     rw[if_pos (by omega),if_pos (by omega),z];rfl
   ·rw[if_neg hik,if_neg (by omega),e1]
  ·rw[List.getElem?_eq_none (by rw[List.length_set];omega),List.getElem?_eq_none (by omega)]
 rw[hcs] at hset;have hqr:a.rb≠q:=fun e=>by
  have:=h.head;rw[e,hqb] at this;exact absurd (cells_ty this) (by decide)
 have hsl:∀ {ty:TypeId} {s n:Nat} {v:Value} {xs:List Value},SlV w ty s v n xs→212≠ty→SlV (w.setCell ⟨q,off+i*7+6,none⟩ (.int .u32 t)) ty s v n xs:=fun hsl hty=>by
  refine⟨hsl.1, ?_⟩;rcases hsl.2 with z|⟨g',o',c',cu',rfl,hgg,rest⟩
  ·exact .inl z
  ·exact .inr ⟨g',o',c',cu',rfl,(hm.block _ (lQ hgg) (fun e=>by rw[e,hqb] at hgg;cases hgg;exact hty rfl)).trans hgg,rest⟩
 have hgn:=h.ok.ok n g hg;obtain⟨n1,n8⟩:=h.ok.dom n (by rw[hg];rfl);refine⟨⟨(hm.block _ (lQ h.head) hqr).trans h.head, ?_,fun y hy=> ?_, ?_, ?_⟩,hm.mono fun k _ e=>by rw[hv,e];rfl⟩
 ·show SlV _ _ 7 a.lv (a.L.set i _).length (rcC (a.L.set i _))
  rw[List.length_set,hv];exact hset
 ·rcases List.mem_or_eq_of_mem_set (show y∈a.L.set i _ from hy) with z|rfl
  ·exact⟨hsl (h.mns y z).e (by decide),hsl (h.mns y z).p (by decide)⟩
  ·have:=h.mns x (List.mem_of_getElem? hx);rw[hxg] at this;exact⟨hsl this.e (by decide),hsl this.p (by decide)⟩
 ·show(a.L.set i _).map RcE.key=_
  have hk:=h.can;rw[canon_some n1 n8 hg] at hk;rw[canon_put n1 n8,List.map_set];rw[hk];have hil:i=(lo G n).length:=by
   have hki:(a.L.map RcE.key)[i]? =some (n,g):=by rw[List.getElem?_map,hx];simp[RcE.key,hn,hxg]
   rw[hk] at hki;rcases Nat.lt_trichotomy i (lo G n).length with z|z|z
   ·rw[List.getElem?_append_left z] at hki;have:=(mem_lo (List.mem_of_getElem? hki)).1;simp at this
   ·exact z
   ·rw[List.getElem?_append_right (by omega),show i - (lo G n).length=(i - (lo G n).length - 1)+1 by omega,List.getElem?_cons_succ] at hki;have:=(mem_hi (List.mem_of_getElem? hki)).1;simp at this
  rw[hil,List.set_append_right _ _ (Nat.le_refl _),Nat.sub_self,List.set_cons_zero];simp[RcE.key,hn]
 ·have hpg:Gp.pgs (some {g with took:=t})=Gp.pgs (G n):=by rw[hg];rfl
  refine⟨fun m=> ?_,fun m hm=>h.ok.dom m ?_,by rw[Gp.sum_upd hpg];exact h.ok.fit,fun m g' hg'=> ?_,h.ok.h1⟩
  ·by_cases e:m=n
   ·subst e;rw[Gp.upd_at];intro g' hg';cases hg';exact⟨hgn.m,t0,t1,hgn.q0⟩
   ·rw[Gp.upd_ne _ _ e];exact h.ok.ok m
  ·rw[←Gp.upd_some (G:=G) (n:=n) (g:=some {g with took:=t}) (by rw[hg];rfl)];exact hm
  ·by_cases e:m=n
   ·subst e;rw[Gp.upd_at] at hg';cases hg';exact h.ok.may m g hg
   ·rw[Gp.upd_ne _ _ e] at hg';exact h.ok.may m g' hg'
def takeP(w:World)(a:RcAt)(hp:Int)(G:Int→Option Gr)(n:Int)(w':World):Prop:=∃a',Rcs w' a' hp (Gp.upd G n (Gp.take (G n)))∧RcSame a a'∧Mod (fun k=>a.lv.ownBlock=some k) w w'
theorem same(h:Rcs w a hp G){n:Int}{g:Option Gr}(hg:g=G n){V:World}(hV:Below w.heap.size w V):∃a',Rcs V a' hp (Gp.upd G n g)∧RcSame a a'∧Mod (fun k=>a.lv.ownBlock=some k) w V:=⟨a,by rw[hg,Gp.upd_same];exact h.below hV,RcSame.refl a,Mod.of_below hV _⟩
theorem take(h:Rcs w a hp G)(n:Int):Calls Tryz.prog 100 #[.pointer (some ⟨a.rb,0,none⟩),.int .i64 n] w fun e w'=>e=.returned (.int .i64 (Gp.takeE (G n)))∧takeP w a hp G n w':=by
 have HF:=Lh (find h n);obtain⟨c0,c1,c2,_⟩:=h.cells;cases hg:G n with
 |none=>
  have hi:=of_none h hg;unfold idxV at HF;rw[hi] at HF;have HEnd:Hid (takeP w a hp G n w):=Lh (same h (by rw[hg]<;>rfl) Br);clear h hg hi;go_enter func100,ntmps100;go_wp2_with fail;refine HF.out.mono ?_;rintro e w1 ⟨rfl,rfl⟩;go_wp2;go_ret;exact⟨rfl,HEnd.out⟩
 |some g=>
  obtain⟨i,x,hi,hx,hn,hxg⟩:=of_some h hg;unfold idxV at HF;rw[hi] at HF;have HL:=Lh (left h n);rw[hg] at HL;obtain⟨q,off,cap,hv,hc⟩:=h.at' hx;obtain⟨x0,x1,x2,x3,x4,x5,x6⟩:=Rcs.seven hc;rw[hxg] at x1 x4 x5 x6;rw[hv] at c2;have hl:=h.len;have hi0:=(List.getElem?_eq_some_iff.1 hx).1;have hi1:(i:Int)<a.L.length:=by omega
  have hok:=h.ok.ok n g hg;have t0:=hok.t0;have t1:=hok.t1;have p1:=hok.m.p1;have HQ:=Lh (And.intro hg (And.intro hx (And.intro hn (And.intro hxg hv))));have HH:=Lh h;have HTk:Hid (0≤g.took∧g.took≤g.m.pages):=Lh ⟨t0,t1⟩;obtain⟨⟨eo,en,ec,hev⟩,⟨po,pn,pc,hpv⟩⟩:(∃o n c,x.ev=.slice o n c)∧∃o n c,x.pv=.slice o n c:=by
   have hm:=h.mns x (List.mem_of_getElem? hx);exact⟨by obtain⟨o,c,e⟩:=hm.e.form;exact⟨o,_,c,e⟩,by obtain⟨o,c,e⟩:=hm.p.form;exact⟨o,_,c,e⟩⟩
  rw[hev] at x2;rw[hpv] at x3;rw[hn] at x0;have HXv:=Lh (And.intro hev hpv)
  by_cases hq:Gp.left (some g)=0
  ·have hqb:(Gp.left (some g) == 0)=true:=beq_iff_eq.2 hq;have HE:Hid (Gp.takeE (some g)=4):=Lh (if_pos ((Gp.left_zero (h.ok.ok n) hg).1 (by rw[hg];exact hq)));have HSm:Hid (∀V,Below w.heap.size w V→takeP w a hp G n V):=Lh fun V hV=>same h (g:=Gp.take (G n)) (by rw[hg];exact if_pos ((Gp.left_zero (h.ok.ok n) hg).1 (by rw[hg];exact hq))) hV
   clear h hg hi hx hn hxg hc hok t0 t1 p1 hv hev hpv x0 x1 x2 x3 x4 x5;go_enter func100,ntmps100;go_wp2_with fail;refine HF.out.mono ?_;rintro e w1 ⟨rfl,rfl⟩;clear hq;go_wp2_with fail;refine HL.out.mono ?_;rintro e w2 ⟨rfl,hb2⟩;have HB2:=Lh hb2;clear hb2;go_wp2;go_ret;exact⟨by rw[HE.out];rfl,HSm.out _ HB2.out⟩
  ·have hqb:(Gp.left (some g) == 0)=false:=beq_eq_false_iff_ne.2 hq;have hq':¬g.m.pages≤g.took:=fun z=>hq (by have:=(Gp.left_zero (h.ok.ok n) hg).2 z;rw[hg] at this;exact this)
   have HE:Hid (Gp.takeE (some g)=0∧Gp.take (some g)=some {g with took:=g.took+1}):=Lh ⟨if_neg hq',if_neg hq'⟩;have HW:IntKind.u32.wrap (g.took+1)=g.took+1:=wrap32 (by omega) (by omega);have HNw:Hid (0≤g.took+1∧g.took+1≤g.m.pages):=Lh ⟨by omega,by omega⟩;clear h hg hi hx hn hxg hc hok t0 t1 p1 hv hev hpv hq' hq;go_enter func100,ntmps100;go_wp2_with fail;refine HF.out.mono ?_;rintro e w1 ⟨rfl,rfl⟩;go_wp2_with fail;refine HL.out.mono ?_;rintro e w2 ⟨rfl,hb2⟩;have c2:=cQ hb2 c2;have x0:=cQ hb2 x0;have x1:=cQ hb2 x1;have x2:=cQ hb2 x2;have x3:=cQ hb2 x3;have x4:=cQ hb2 x4;have x5:=cQ hb2 x5;have x6:=cQ hb2 x6;have HB2:=Lh hb2;clear hb2;go_wp2;have hbA:Below w2.heap.size w2 (w2.alloc (.cells #[.int .i64 n,.int .u32 g.m.pages,.slice eo en ec,.slice po pn pc,.bool g.m.con,.int .u32 g.pg,.int .u32 (g.took+1)] 212)):=Ba _;have hkA:=heap_alloc_new w2 (.cells #[.int .i64 n,.int .u32 g.m.pages,.slice eo en ec,.slice po pn pc,.bool g.m.con,.int .u32 g.pg,.int .u32 (g.took+1)] 212);have c2:=cQ hbA c2;have y0:=cQ hbA x0;have y1:=cQ hbA x1;have y2:=cQ hbA x2;have y3:=cQ hbA x3;have y4:=cQ hbA x4;have y5:=cQ hbA x5;have y6:=cQ hbA x6;have hqz:q<w2.heap.size:=by
    unfold World.cell? at x0;cases hgq:w2.heap[q]? with
    |none=>rw[hgq] at x0;cases x0
    |some _=>exact lQ hgq
   have hqb:∃c,w2.heap[q]? =some (.cells c 212 (0,0)):=by
    have h2:=HH.out.below HB2.out;have hr:=h2.row;rw[HQ.out.2.2.2.2] at hr;rcases hr.2 with⟨h0,_⟩|⟨gg,oo,cc,cur,e,hgg,_⟩
    ·omega
    ·cases e;exact⟨_,hgg⟩
   obtain⟨qc,hqb⟩:=hqb;have HQb:=Lh ((Below.heap_alloc w2 (.cells #[.int .i64 n,.int .u32 g.m.pages,.slice eo en ec,.slice po pn pc,.bool g.m.con,.int .u32 g.pg,.int .u32 (g.took+1)] 212) _ hqz).trans hqb);obtain⟨z0,z1,z2,z3,z4,z5,z6⟩:(w2.alloc (.cells #[.int .i64 n,.int .u32 g.m.pages,.slice eo en ec,.slice po pn pc,.bool g.m.con,.int .u32 g.pg,.int .u32 (g.took+1)] 212)).cell? ⟨w2.heap.size,0,none⟩=some (.int .i64 n)∧(w2.alloc (.cells #[.int .i64 n,.int .u32 g.m.pages,.slice eo en ec,.slice po pn pc,.bool g.m.con,.int .u32 g.pg,.int .u32 (g.took+1)] 212)).cell? ⟨w2.heap.size,1,none⟩=some (.int .u32 g.m.pages)∧(w2.alloc (.cells #[.int .i64 n,.int .u32 g.m.pages,.slice eo en ec,.slice po pn pc,.bool g.m.con,.int .u32 g.pg,.int .u32 (g.took+1)] 212)).cell? ⟨w2.heap.size,2,none⟩=some (.slice eo en ec)∧(w2.alloc (.cells #[.int .i64 n,.int .u32 g.m.pages,.slice eo en ec,.slice po pn pc,.bool g.m.con,.int .u32 g.pg,.int .u32 (g.took+1)] 212)).cell? ⟨w2.heap.size,3,none⟩=some (.slice po pn pc)∧(w2.alloc (.cells #[.int .i64 n,.int .u32 g.m.pages,.slice eo en ec,.slice po pn pc,.bool g.m.con,.int .u32 g.pg,.int .u32 (g.took+1)] 212)).cell? ⟨w2.heap.size,4,none⟩=some (.bool g.m.con)∧(w2.alloc (.cells #[.int .i64 n,.int .u32 g.m.pages,.slice eo en ec,.slice po pn pc,.bool g.m.con,.int .u32 g.pg,.int .u32 (g.took+1)] 212)).cell? ⟨w2.heap.size,5,none⟩=some (.int .u32 g.pg)∧(w2.alloc (.cells #[.int .i64 n,.int .u32 g.m.pages,.slice eo en ec,.slice po pn pc,.bool g.m.con,.int .u32 g.pg,.int .u32 (g.took+1)] 212)).cell? ⟨w2.heap.size,6,none⟩=some (.int .u32 (g.took+1)):=by
    refine⟨?_, ?_, ?_, ?_, ?_, ?_, ?_⟩<;>(unfold World.cell?;rw[hkA];rfl)
   have HBA:=Lh (bQ HB2.out hbA);clear x0 x1 x2 x3 x4 x5 x6 hbA hkA hqb HF c0 c1;refine LB (fun V=>V.cell? ⟨a.rb,2,none⟩=some (.slice (some ⟨q,off,none⟩) a.L.length cap)∧V.cell? ⟨w2.heap.size,0,none⟩=some (.int .i64 n)∧V.cell? ⟨w2.heap.size,1,none⟩=some (.int .u32 g.m.pages)∧V.cell? ⟨w2.heap.size,2,none⟩=some (.slice eo en ec)∧V.cell? ⟨w2.heap.size,3,none⟩=some (.slice po pn pc)∧V.cell? ⟨w2.heap.size,4,none⟩=some (.bool g.m.con)∧V.cell? ⟨w2.heap.size,5,none⟩=some (.int .u32 g.pg)∧V.cell? ⟨w2.heap.size,6,none⟩=some (.int .u32 (g.took+1))) 7 ⟨c2,z0,z1,z2,z3,z4,z5,z6⟩ fun wd hwd hS=> ?_
   have HWd:Hid (Below w.heap.size w wd):=Lh (by rw[hwd];exact HBA.out.drew);have hqd:wd.heap[q]? =some (.cells qc 212 (0,0)):=by rw[hwd];exact HQb.out
   have y0:wd.cell? ⟨q,off+i*7,none⟩=some (.int .i64 n):=by rw[hwd];exact y0
   have y1:wd.cell? ⟨q,off+i*7+1,none⟩=some (.int .u32 g.m.pages):=by rw[hwd];exact y1
   have y2:wd.cell? ⟨q,off+i*7+2,none⟩=some (.slice eo en ec):=by rw[hwd];exact y2
   have y3:wd.cell? ⟨q,off+i*7+3,none⟩=some (.slice po pn pc):=by rw[hwd];exact y3
   have y4:wd.cell? ⟨q,off+i*7+4,none⟩=some (.bool g.m.con):=by rw[hwd];exact y4
   have y5:wd.cell? ⟨q,off+i*7+5,none⟩=some (.int .u32 g.pg):=by rw[hwd];exact y5
   have y6:wd.cell? ⟨q,off+i*7+6,none⟩=some (.int .u32 g.took):=by rw[hwd];exact y6
   have yf:∀j,wd.frozen? ⟨q,j,none⟩=false:=fun j=>by unfold World.frozen?;rw[hqd];simp
   have yc:∀ {j:Nat} {v:Value},wd.cell? ⟨q,j,none⟩=some v→wd.setCell ⟨q,j,none⟩ v=wd:=fun hj=>by
    refine setCell_same hqd ?_;unfold World.cell? at hj;rw[hqd] at hj;exact hj
   have s0:=yc y0;have s1:=yc y1;have s2:=yc y2;have s3:=yc y3;have s4:=yc y4;have s5:=yc y5;have f0:=yf (off+i*7);have f1:=yf (off+i*7+1);have f2:=yf (off+i*7+2);have f3:=yf (off+i*7+3);have f4:=yf (off+i*7+4);have f5:=yf (off+i*7+5);have f6:=yf (off+i*7+6);have HEnd:Hid (takeP w a hp G n (wd.setCell ⟨q,off+i*7+6,none⟩ (.int .u32 (g.took+1)))):=Lh (by
    obtain⟨r1,r2⟩:=setTook (HH.out.below HWd.out) HQ.out.1 HQ.out.2.1 HQ.out.2.2.1 HQ.out.2.2.2.1 (g.took+1) HNw.out.1 HNw.out.2 HQ.out.2.2.2.2;refine⟨RcAt.set a i {x with g:= {g with took:=g.took+1}},by rw[HQ.out.1,HE.out.2];exact r1,⟨rfl,rfl,rfl,fun k hk=> ?_⟩,(Mod.of_below HWd.out _).same r2⟩;obtain⟨y,hy,hk⟩:=hk;rcases List.mem_or_eq_of_mem_set (show y∈a.L.set i {x with g:= {g with took:=g.took+1}} from hy) with z|rfl
    ·exact⟨y,z,hk⟩
    ·exact⟨x,List.mem_of_getElem? HQ.out.2.1,hk⟩)
   clear hwd hqd yf yc c2 z0 z1 z2 z3 z4 z5 z6;refine LT 0 hS ?_;refine LT 1 hS ?_;refine LT 2 hS ?_;refine LT 3 hS ?_;refine LT 4 hS ?_;refine LT 5 hS ?_;refine LT 6 hS ?_;refine LU 7 fun K hK=> ?_
   go_simp;try simp only[s0,s1,s2,s3,s4,s5]
   refine LV hK (fun e=>absurd rfl e) ?_;clear hK K;refine E_done (by kernel_rfl) ?_ _;clear hS y0 y1 y2 y3 y4 y5 y6 s0 s1 s2 s3 s4 s5 f0 f1 f2 f3 f4 f5 f6;go_wp2;go_ret;exact⟨by rw[HE.out.1];rfl,HEnd.out⟩
end
end Rc
namespace Rc
theorem blocks_pos{m:Mn}(hc:Gp.checkE m=0){id z:Int}(hz:Gp.blocksOf m.ext id=some z):1≤z:=by
 have hm:Gp.mayM m=true:=by
  unfold Gp.checkE at hc
  split at hc
  ·assumption
  ·cases hc
 unfold Gp.mayM at hm;simp only[Bool.and_eq_true] at hm;have hb:=hm.1.1.1.1.1;unfold Gp.blocksOf at hz;cases hf:m.ext.find? (fun x=>x.1 == id) with
 |none=>rw[hf] at hz;cases hz
 |some x=>
  rw[hf] at hz;cases hz;have hx:=List.mem_of_find?_eq_some hf;have hq:m.ext.any Gp.badX=false:=by simpa using hb
  rw[List.any_eq_false] at hq;have:=hq x hx;unfold Gp.badX at this;simp at this
  show 1≤x.2
  omega
section
variable {w:World} {a:RcAt} {hp:Int} {G:Int→Option Gr}
theorem busy_yes(h:Rcs w a hp G){m:Mn}{x:RcE}(hx:x∈a.L)(hb:Gp.busyO (some x.g) m=true):Gp.busyB G m=true:=by
 obtain⟨n1,n8,hg⟩:=h.key hx;exact Gp.busyB_yes n1 n8 (by rw[hg];exact hb)
theorem busy_no(h:Rcs w a hp G){m:Mn}(hb:∀x,x∈a.L→Gp.busyO (some x.g) m=false):Gp.busyB G m=false:=Gp.busyB_no fun n=>by
 cases hg:G n with
 |none=>rfl
 |some g=>
  obtain⟨i,x,_,hx,_,hxg⟩:=of_some h hg;rw[←hxg];exact hb x (List.mem_of_getElem? hx)
def byRel(w:World)(L:List RcE)(m:Mn)(ev pv:Value)(vi:Value)(wr:World):Prop:=
 ∃i:Nat,i≤L.length∧vi=.int .i64 i∧(∀(k:Nat) (x:RcE),k<i→L[k]? =some x→Gp.busyO (some x.g) m=false)∧Below w.heap.size w wr∧MBx wr w.heap.size m ev pv
def beRel(V:World)(g:Gr)(m:Mn)(vi:Value)(wr:World):Prop:=∃i:Nat,i≤m.ext.length∧vi=.int .i64 i∧(∀(k:Nat) (x:Int×Int),k<i→m.ext[k]? =some x→Gp.blocksOf g.m.ext x.1=none)∧Below V.heap.size V wr
def bpRel(V:World)(g:Gr)(m:Mn)(vi:Value)(wr:World):Prop:=∃i:Nat,i≤m.ports.length∧vi=.int .i64 i∧(∀(k:Nat) (x:Int),k<i→m.ports[k]? =some x→x∉g.m.ports)∧Below V.heap.size V wr
theorem busy(h:Rcs w a hp G){m:Mn}{ev pv:Value}(hm:MnIn w ev pv m):Calls Tryz.prog 207 #[.pointer (some ⟨a.rb,0,none⟩),.agg (m.cells ev pv)] w fun e w'=>e=.returned (.bool (Gp.busyB G m))∧Below w.heap.size w w':=by
 obtain⟨eo,ec,rfl⟩:=hm.e.form;obtain⟨po,pc,rfl⟩:=hm.p.form;have hcap:=rw_len hm.e;have hcap2:=rw_len hm.p;unfold maxLen at hcap hcap2;have HY:Hid (∀x,x∈a.L→Gp.busyO (some x.g) m=true→Gp.busyB G m=true):=Lh fun x hx hb=>busy_yes h hx hb
 have HN:Hid ((∀x,x∈a.L→Gp.busyO (some x.g) m=false)→Gp.busyB G m=false):=Lh fun hb=>busy_no h hb
 have hb:Below w.heap.size w (w.alloc (.cells (m.cells (.slice eo m.ext.length ec) (.slice po m.ports.length pc)) 48)):=Ba _;have hk:=heap_alloc_new w (.cells (m.cells (.slice eo m.ext.length ec) (.slice po m.ports.length pc)) 48);have H:=Lh fun V (hV:Below w.heap.size w V)=>h.below hV
 have HMn:=Lh fun V (hV:Below w.heap.size w V)=>hm.below hV
 have HR0:Hid (byRel w a.L m (.slice eo m.ext.length ec) (.slice po m.ports.length pc) (.int .i64 0) (w.alloc (.cells (m.cells (.slice eo m.ext.length ec) (.slice po m.ports.length pc)) 48))):=Lh ⟨0,by omega,rfl,fun k _ hk=>absurd hk (Nat.not_lt_zero _),hb,hk⟩;have hl:=h.len;obtain⟨ao,ac,hlv⟩:=h.row.form;have HLv:=Lh hlv;unfold Mn.cells at HR0;unfold Mn.cells;clear h hm hb hk hlv;go_enter func207,ntmps207;go_wp2;go_loopw [5,6,7] (fun vi _ _ wr=>byRel w a.L m (.slice eo m.ext.length ec) (.slice po m.ports.length pc) vi wr) (fun vi _ _ _=>a.L.length - (intOf vi).toNat)
 case atStart=>exact HR0.out
 case round=>
  clear HR0;obtain⟨i,hi,rfl,hno,hb,hbx⟩:=hrel;generalize wr=wo at*;have h1:=H.out wo hb;obtain⟨c0,c1,c2,_⟩:=h1.cells;rw[HLv.out] at c2;have HNo:=Lh hno;have HB:=Lh hb;have HBx:=Lh hbx
  by_cases hin:i<a.L.length
  ·obtain⟨x,hx⟩:∃x,a.L[i]? =some x:=⟨_,Zg hin⟩;have hi1:(i:Int)<a.L.length:=by omega
   have hxm:=List.mem_of_getElem? hx;have HX:=Lh (And.intro hx (And.intro hxm (And.intro (h1.key hxm).2.2 (h1.ok.may _ _ (h1.key hxm).2.2))));have HXf:Hid (∀V,Below wo.heap.size wo V→∃g off,ao=some ⟨g,off,none⟩∧V.cell? ⟨a.rb,2,none⟩=some (.slice (some ⟨g,off,none⟩) a.L.length ac)∧V.cell? ⟨g,off+i*7+1,none⟩=some (.int .u32 x.g.m.pages)∧V.cell? ⟨g,off+i*7+2,none⟩=some x.ev∧V.cell? ⟨g,off+i*7+3,none⟩=some x.pv∧V.cell? ⟨g,off+i*7+4,none⟩=some (.bool x.g.m.con)∧MnAt V x.ev x.pv x.g.m):=Lh fun V hV=>by
    have h2:=H.out V (bQ hb hV);obtain⟨g,off,cap,hv,hc⟩:=h2.at' hx;obtain⟨x0,x1,x2,x3,x4,x5,x6⟩:=Rcs.seven hc;have d2:=h2.cells.2.2.1;rw[HLv.out] at hv d2;simp only[Value.slice.injEq] at hv;obtain⟨rfl,_,rfl⟩:=hv;exact⟨g,off,rfl,d2,x1,x2,x3,x4,h2.mns x hxm⟩
   have HMb:Hid (∀V,Below wo.heap.size wo V→V.cell? ⟨w.heap.size,1,none⟩=some (.slice eo m.ext.length ec)∧V.cell? ⟨w.heap.size,2,none⟩=some (.slice po m.ports.length pc)):=Lh fun V hV=>by
    obtain⟨m0,m1,m2,m3,_⟩:=man_cells (m:=m) (hbx.below hV);exact⟨m1,m2⟩
   have HE0:Hid (beRel wo x.g m (.int .i64 0) wo):=Lh ⟨0,Nat.zero_le _,rfl,fun k _ hk=>absurd hk (Nat.not_lt_zero _),Below.refl _ _⟩;clear hno hb hbx h1 hx hxm;go_wp2;go_loopw [6] (fun vi V=>beRel wo x.g m vi V) (fun vi _=>m.ext.length - (intOf vi).toNat)
   case atStart=>exact HE0.out
   case round=>
    clear HE0 c0 c1 c2;obtain⟨k,hkl,rfl,hnk,hbk⟩:=hrel;have HNk:=Lh hnk;have HBk:=Lh hbk;obtain⟨m1,m2⟩:=HMb.out _ hbk;clear hnk
    by_cases hkn:k<m.ext.length
    ·have hk1:(k:Int)<m.ext.length:=by omega
     obtain⟨g,off,rfl,d2,x1,x2,x3,x4,hmx⟩:=HXf.out _ hbk;obtain⟨eg,eoff,heo,e0,e1⟩:=ext_cellsR (HMn.out _ (bQ HB.out hbk)).e (Zg hkn);obtain⟨z,hz⟩:∃z,m.ext[k]=z:=⟨_,rfl⟩;rw[hz] at e0 e1;have HZ:Hid (m.ext[k]? =some z):=Lh (by rw[Zg hkn,hz]);subst heo;have HMx:=Lh hmx;clear hz hbk hmx;go_wp2;refine B (fun V=>V.cell? ⟨a.rb,2,none⟩=some (.slice (some ⟨g,off,none⟩) a.L.length ac)∧V.cell? ⟨g,off+i*7+1,none⟩=some (.int .u32 x.g.m.pages)∧V.cell? ⟨g,off+i*7+2,none⟩=some x.ev∧V.cell? ⟨g,off+i*7+3,none⟩=some x.pv∧V.cell? ⟨g,off+i*7+4,none⟩=some (.bool x.g.m.con)∧V.cell? ⟨w.heap.size,1,none⟩=some (.slice (some ⟨eg,eoff,none⟩) m.ext.length ec)∧V.cell? ⟨eg,eoff+k*2,none⟩=some (.int .u32 z.1)) ⟨d2,x1,x2,x3,x4,m1,e0⟩ fun wd hwd hS=> ?_
     have HBd:Hid (Below wo.heap.size wo wd):=Lh (by rw[hwd];exact HBk.out.drew);have HMd:Hid (MnAt wd x.ev x.pv x.g.m):=Lh (by rw[hwd];exact HMx.out.below Br.drew);clear hwd d2 x1 x2 x3 x4 m1 m2 e0 e1;refine T 0 hS ?_;refine T 1 hS ?_;refine T 2 hS ?_;refine T 3 hS ?_;refine T 4 hS ?_;refine T 5 hS ?_;refine T 6 hS ?_;refine T 7 hS ?_;refine T 8 hS ?_;refine T 9 hS ?_;refine T 10 hS ?_;refine T 11 hS ?_;refine T 12 hS ?_;refine T 13 hS ?_;refine U 14 fun K hK=> ?_
     go_simp;go_at_call 272;refine(blocks HMd.out z.1).mono ?_;rintro e w5 ⟨rfl,hb5⟩;have hS5:=And.intro (cQ hb5 hS.1) (And.intro (cQ hb5 hS.2.1) (And.intro (cQ hb5 hS.2.2.1) (And.intro (cQ hb5 hS.2.2.2.1) (And.intro (cQ hb5 hS.2.2.2.2.1) (And.intro (cQ hb5 hS.2.2.2.2.2.1) (cQ hb5 hS.2.2.2.2.2.2))))));have HB5:=Lh (bQ HBd.out hb5);refine V hK hS5 ?_;clear hK K;refine T 15 hS5 ?_;refine wpAnyH_done (by kernel_rfl) ?_ _;clear hS hS5 hb5;cases hbo:Gp.blocksOf x.g.m.ext z.1 with
     |some y=>
      have hy:=blocks_pos HX.out.2.2.2 hbo;have HV:Hid (Gp.busyB G m=true):=Lh (HY.out x HX.out.2.1 (by
       show(Gp.busyP x.g m||Gp.busyX x.g m)=true
       rw[Bool.or_eq_true];exact .inr (List.any_eq_true.2 ⟨z,List.mem_of_getElem? HZ.out,by rw[hbo];rfl⟩)))
      have hd:decide (y>0)=true:=decide_eq_true (by omega);have ho:(some y).getD 0=y:=rfl;clear hbo;go_wp2;go_ret;exact⟨by rw[HV.out];rfl,bQ HB.out HB5.out⟩
     |none=>
      have HBo:=Lh hbo;clear hbo;have ho:(none:Option Int).getD 0=0:=rfl;go_wp2;refine⟨⟨k+1,by omega,by go_num,fun j y hj hy=> ?_,HB5.out⟩,by simp[intOf];omega⟩;rcases Nat.lt_or_ge j k with q|q
      ·exact HNk.out j y q hy
      ·obtain rfl:j=k:=by omega
       rw[HZ.out] at hy;cases hy;exact HBo.out
    ·have hk1:¬(k:Int)<m.ext.length:=by omega
     have HXn:Hid (Gp.busyX x.g m=false):=Lh (by
      unfold Gp.busyX;rw[List.any_eq_false];intro y hy;obtain⟨j,hj⟩:=List.getElem?_of_mem hy;rw[HNk.out j y (by have:=(List.getElem?_eq_some_iff.1 hj).1;omega) hj]
      simp)
     clear HNk;have HP0:Hid (bpRel wr x.g m (.int .i64 0) wr):=Lh ⟨0,Nat.zero_le _,rfl,fun k _ hk=>absurd hk (Nat.not_lt_zero _),Below.refl _ _⟩;clear hbk;go_wp2;generalize wr=w2 at*;clear m1 m2 hk1 hkn;go_loopw [7] (fun vi V=>bpRel w2 x.g m vi V) (fun vi _=>m.ports.length - (intOf vi).toNat)
     case atStart=>exact HP0.out
     case round=>
      clear HP0;obtain⟨k,hkl,rfl,hnk,hbk⟩:=hrel;have HNk:=Lh hnk;have HB32:=Lh hbk;have HB3:=Lh (bQ HBk.out hbk);obtain⟨m1,m2⟩:=HMb.out _ HB3.out;clear hnk hbk
      by_cases hkn:k<m.ports.length
      ·have hk1:(k:Int)<m.ports.length:=by omega
       obtain⟨g,off,rfl,d2,x1,x2,x3,x4,hmx⟩:=HXf.out _ HB3.out;obtain⟨eg,eoff,heo,e0⟩:=u16_cellR (HMn.out _ (bQ HB.out HB3.out)).p (Zg hkn);obtain⟨z,hz⟩:∃z,m.ports[k]=z:=⟨_,rfl⟩;rw[hz] at e0;have HZ:Hid (m.ports[k]? =some z):=Lh (by rw[Zg hkn,hz]);subst heo;have HMx:=Lh hmx;clear hz hmx;go_wp2;refine B (fun V=>V.cell? ⟨a.rb,2,none⟩=some (.slice (some ⟨g,off,none⟩) a.L.length ac)∧V.cell? ⟨g,off+i*7+1,none⟩=some (.int .u32 x.g.m.pages)∧V.cell? ⟨g,off+i*7+2,none⟩=some x.ev∧V.cell? ⟨g,off+i*7+3,none⟩=some x.pv∧V.cell? ⟨g,off+i*7+4,none⟩=some (.bool x.g.m.con)∧V.cell? ⟨w.heap.size,2,none⟩=some (.slice (some ⟨eg,eoff,none⟩) m.ports.length pc)∧V.cell? ⟨eg,eoff+k,none⟩=some (.int .u16 z)) ⟨d2,x1,x2,x3,x4,m2,e0⟩ fun wd hwd hS=> ?_
       have HBd:Hid (Below wo.heap.size wo wd):=Lh (by rw[hwd];exact HB3.out.drew);have HMd:Hid (MnAt wd x.ev x.pv x.g.m):=Lh (by rw[hwd];exact HMx.out.below Br.drew);have HB2d:Hid (Below w2.heap.size w2 wd):=Lh (by rw[hwd];exact HB32.out.drew);clear hwd d2 x1 x2 x3 x4 m1 m2 e0;refine T 0 hS ?_;refine T 1 hS ?_;refine T 2 hS ?_;refine T 3 hS ?_;refine T 4 hS ?_;refine T 5 hS ?_;refine T 6 hS ?_;refine T 7 hS ?_;refine T 8 hS ?_;refine T 9 hS ?_;refine T 10 hS ?_;refine T 11 hS ?_;refine T 12 hS ?_;refine U 13 fun K hK=> ?_
       go_simp;go_at_call 273;refine(hasPort HMd.out z).mono ?_;rintro e w5 ⟨he,hb5⟩;obtain⟨bz,hbz⟩:∃b,decide (z∈x.g.m.ports)=b:=⟨_,rfl⟩;rw[hbz] at he;subst he;have hS5:=And.intro (cQ hb5 hS.1) (And.intro (cQ hb5 hS.2.1) (And.intro (cQ hb5 hS.2.2.1) (And.intro (cQ hb5 hS.2.2.2.1) (And.intro (cQ hb5 hS.2.2.2.2.1) (And.intro (cQ hb5 hS.2.2.2.2.2.1) (cQ hb5 hS.2.2.2.2.2.2))))));have HB5:=Lh (bQ HBd.out hb5);have HB52:=Lh (bQ HB2d.out hb5);refine V hK hS5 ?_;clear hK K;refine wpAnyH_done (by kernel_rfl) ?_ _;clear hS hS5 hb5;cases bz with
       |true=>
        have hz:z∈x.g.m.ports:=of_decide_eq_true hbz;have HV:Hid (Gp.busyB G m=true):=Lh (HY.out x HX.out.2.1 (by
         show(Gp.busyP x.g m||Gp.busyX x.g m)=true
         rw[Bool.or_eq_true];exact .inl (List.any_eq_true.2 ⟨z,List.mem_of_getElem? HZ.out,by simpa using hz⟩)))
        clear hz hbz;go_wp2;go_ret;exact⟨by rw[HV.out];rfl,bQ HB.out HB5.out⟩
       |false=>
        have HBo:=Lh (of_decide_eq_false hbz);clear hbz;go_wp2;refine⟨⟨k+1,by omega,by go_num,fun j y hj hy=> ?_,HB52.out⟩,by simp[intOf];omega⟩;rcases Nat.lt_or_ge j k with q|q
        ·exact HNk.out j y q hy
        ·obtain rfl:j=k:=by omega
         rw[HZ.out] at hy;cases hy;exact HBo.out
      ·have hk1:¬(k:Int)<m.ports.length:=by omega
       have HPn:Hid (Gp.busyP x.g m=false):=Lh (by
        unfold Gp.busyP;rw[List.any_eq_false];intro y hy;obtain⟨j,hj⟩:=List.getElem?_of_mem hy
        simpa using HNk.out j y (by have:=(List.getElem?_eq_some_iff.1 hj).1;omega) hj)
       have HEnd:Hid (byRel w a.L m (.slice eo m.ext.length ec) (.slice po m.ports.length pc) (.int .i64 ((i:Int)+1)) wr):=Lh ⟨i+1,by omega,by go_num,fun k' y hk' hy=>by
        rcases Nat.lt_or_ge k' i with q|q
        ·exact HNo.out k' y q hy
        ·obtain rfl:k'=i:=by omega
         rw[HX.out.1] at hy;cases hy
         show(Gp.busyP x.g m||Gp.busyX x.g m)=false
         rw[HPn.out,HXn.out];rfl,bQ HB.out HB3.out,HBx.out.below HB3.out⟩
       go_wp2;exact⟨HEnd.out,by simp[intOf];omega⟩
  ·have hi1:¬(i:Int)<a.L.length:=by omega
   have HV:Hid (Gp.busyB G m=false):=Lh (HN.out fun x hx=>by
    obtain⟨k,hk⟩:=List.getElem?_of_mem hx;exact HNo.out k x (by have:=(List.getElem?_eq_some_iff.1 hk).1;omega) hk)
   clear hno hb hbx h1;go_wp2;go_ret;exact⟨by rw[HV.out];rfl,HB.out⟩
end
end Rc
namespace Rc
theorem info_gr:(Tryz.prog.info? 212).map (fun i=>(i.zero,i.size,i.bytes))=some (some (.agg #[.int .i64 0,.int .u32 0,.slice none 0 0,.slice none 0 0,.bool false,.int .u32 0,.int .u32 0]),7,80):=by kernel_rfl
theorem rcC_app(L M:List RcE):rcC (L++M)=rcC L++rcC M:=by unfold rcC;rw[List.flatMap_append]
theorem rcC_take(L:List RcE)(i:Nat):rcC (L.take i)=(rcC L).take (i*7):=by
 rcases Nat.le_total i L.length with q|q
 ·have h:=rcC_app (L.take i) (L.drop i);rw[List.take_append_drop] at h;rw[h,List.take_left' (by rw[rcC_len,List.length_take];omega)]
 ·rw[List.take_of_length_le q,List.take_of_length_le (by rw[rcC_len];omega)]
theorem rcC_drop(L:List RcE)(i:Nat):rcC (L.drop i)=(rcC L).drop (i*7):=by
 rcases Nat.le_total i L.length with q|q
 ·have h:=rcC_app (L.take i) (L.drop i);rw[List.take_append_drop] at h;rw[h,List.drop_left' (by rw[rcC_len,List.length_take];omega)]
 ·rw[List.drop_eq_nil_of_le q,List.drop_eq_nil_of_le (by rw[rcC_len];omega)];rfl
section
variable {w:World} {a:RcAt} {hp:Int} {G:Int→Option Gr}
theorem one_cells(h:Rcs w a hp G):∀u,u∈rcC a.L→u.oneCell'=true:=rcC_one a.L fun x hx=>by
 have hm:=h.mns x hx;obtain⟨o,c,e⟩:=hm.e.form;obtain⟨o',c',e'⟩:=hm.p.form;rw[e,e'];exact⟨rfl,rfl⟩
theorem ty_keep{w w':World}{gb:Nat}{c:Array Value}{T:TypeId}(hg:w.heap[gb]? =some (.cells c T (0,0)))(hm:Mod (fun k=>k=gb) w w'){ty:TypeId}{s n:Nat}{v:Value}{xs:List Value}(hsl:SlV w ty s v n xs)(hty:T≠ty):SlV w' ty s v n xs:=by
 refine⟨hsl.1, ?_⟩;rcases hsl.2 with g|⟨g,off,cap,cur,rfl,hgg,rest⟩
 ·exact .inl g
 ·exact .inr ⟨g,off,cap,cur,rfl,(hm.block _ (lQ hgg) (fun e=>by rw[e,hg] at hgg;cases hgg;exact hty rfl)).trans hgg,rest⟩
theorem newRow(h:Rcs w a hp G){W:World}(hb:Below w.heap.size w W){v:Value}{L:List RcE}{G':Int→Option Gr}(hs:SlV W 212 7 v L.length (rcC L))(hmn:∀y,y∈L→MnAt W y.ev y.pv y.g.m)(hc:L.map RcE.key=canon G')(ho:Gp.OkG hp G'):
  Rcs (W.setCell ⟨a.rb,2,none⟩ v) ⟨a.rb,a.hv,v,L⟩ hp G'∧Mod (fun k=>k=a.rb) W (W.setCell ⟨a.rb,2,none⟩ v):=by
 have hm:Mod (fun k=>k=a.rb) W (W.setCell ⟨a.rb,2,none⟩ v):=Mod.setCell (F:=fun k=>k=a.rb) (Mod.refl _ _) ⟨a.rb,2,none⟩ (.inl rfl) _;have hh:=(hb.block _ (lQ h.head)).trans h.head;exact⟨⟨heap_setCell_same W a.rb 2 _ _ v hh,ty_keep hh hm hs (by decide),fun y hy=>⟨ty_keep hh hm (hmn y hy).e (by decide),ty_keep hh hm (hmn y hy).p (by decide)⟩,hc,ho⟩,hm⟩
end
end Rc
end Go.Proofs.YtehihecknhcggaaGreat
