/- RegU, BusG in one text. -/
import Derived.Test.YtjjdjpdmgaipeaaGreatCwReg
import Derived.Test.YtjjdjpdmgaipeaaGreatCwGrantG
import Derived.Test.YtjjdjpdmgaipeaaGreatCwZa
set_option linter.unusedVariables false
set_option linter.unusedSimpArgs false
set_option maxRecDepth 100000
set_option maxHeartbeats 16000000
open Go.Proofs.Tryz
namespace Go.Proofs.YtjjdjpdmgaipeaaGreat
open Go.RowKit
section
variable {P:Program} {Q:Exit→Act→World→Prop} {md:Region.Mode} {S:World→Prop}
theorem U2{l:List Oper}{o o':Oper}{fuel:Nat}{listed:Array Bool}{a:Act}{w:World}(i j:Nat)
  (h:∀K':Act→World→Prop,Shut (∀a w,S w→(S w→wpAnyH P md l.toArray Q S fuel (listed.setIfInBounds i true) a w)→K' a w)→if Region.wanted o (yielded l.toArray a.tmps)=true then Oper.wp P o a w K' Q else K' (a.put o.dst undef) w)
  (h':∀K':Act→World→Prop,Shut (∀a w,S w→(S w→wpAnyH P md l.toArray Q S fuel (listed.setIfInBounds j true) a w)→K' a w)→if Region.wanted o' (yielded l.toArray a.tmps)=true then Oper.wp P o' a w K' Q else K' (a.put o'.dst undef) w)
  (hr:Region.ready md l.toArray listed=[i,j]:=by kernel_rfl) (ho:l[i]? =some o:=by rfl) (ho':l[j]? =some o':=by rfl):
  wpAnyH P md l.toArray Q S (fuel+1) listed a w:=
 wpAnyH_ready hr (by simp) (AllReadyH.cons (by rw[List.getElem?_toArray];exact ho) h (AllReadyH.cons (by rw[List.getElem?_toArray];exact ho') h' AllReadyH.nil))
end
namespace Gp
def busyP(g:Gr)(m:Mn):Bool:=m.ports.any fun p=>decide (p∈g.m.ports)
def busyX(g:Gr)(m:Mn):Bool:=m.ext.any fun x=>(blocksOf g.m.ext x.1).isSome
def busyO(g:Option Gr)(m:Mn):Bool:=match g with|none=>false|some g=>busyP g m||busyX g m
def busyB(G:Int→Option Gr)(m:Mn):Bool:=([1,2,3,4,5,6,7,8]:List Int).any fun k=>busyO (G k) m
theorem busyB_yes{G:Int→Option Gr}{m:Mn}{n:Int}(n1:1≤n)(n8:n≤8)(h:busyO (G n) m=true):busyB G m=true:=by
 have hn:n=1∨n=2∨n=3∨n=4∨n=5∨n=6∨n=7∨n=8:=by omega
 refine List.any_eq_true.2 ⟨n, ?_,h⟩;rcases hn with rfl|rfl|rfl|rfl|rfl|rfl|rfl|rfl<;>simp
theorem busyB_no{G:Int→Option Gr}{m:Mn}(h:∀n,busyO (G n) m=false):busyB G m=false:=by
 unfold busyB;rw[List.any_eq_false];intro n _;rw[h n]
 simp
end Gp
namespace Ca
def busyE(G:Int→Option Gr)(m:Mn):Int:=if Gp.busyB G m=true then 190 else 0
section
variable {w:World} {a:CAt} {hp:Int} {G:Int→Option Gr}
theorem has1{gc gb:Nat}{g:Gr}{ev pv:Value}(hc:w.heap[gc]? =some (.cells #[.pointer (some ⟨gb,0,none⟩)] 191 (0,0)))(hg:w.heap[gb]? =some (.cells (grC g ev pv) 276 (0,0)))(hm:MnAt w ev pv g.m)(p:Int):
  Calls Tryz.prog 315 #[.int .u16 p,.pointer (some ⟨gc,0,none⟩)] w fun e w'=>e=.returned (.bool (decide (p∈g.m.ports)))∧w=w':=by
 have c0:w.cell? ⟨gc,0,none⟩=some (.pointer (some ⟨gb,0,none⟩)):=by unfold World.cell?;rw[hc];rfl
 obtain⟨g0,g1,g2,g3,g4,g5,_⟩:=gr_cells hg;have HC:=Lh (contains hm.p p);clear hc hg hm;go_enter func315,ntmps315;go_wp2_with fail;refine HC.out.mono ?_;rintro e w1 ⟨rfl,rfl⟩;go_wp2;go_ret;exact⟨rfl,rfl⟩
def apRel(w:World)(l:List Int)(q:List Int)(vi:Value)(wr:World):Prop:=∃i:Nat,i≤l.length∧vi=.int .i64 i∧(∀(k:Nat) (x:Int),k<i→l[k]? =some x→x∉q)∧wr=w
theorem anyPort{gc gb:Nat}{g:Gr}{ev pv qv:Value}{l:List Int}(h:SlV w 31 1 qv l.length (l.map (Value.int .u16)))(hc:w.heap[gc]? =some (.cells #[.pointer (some ⟨gb,0,none⟩)] 191 (0,0)))(hg:w.heap[gb]? =some (.cells (grC g ev pv) 276 (0,0)))(hm:MnAt w ev pv g.m):
  Calls Tryz.prog 314 #[qv,.func (.func 315) #[] #[.pointer (some ⟨gc,0,none⟩)]] w fun e w'=>e=.returned (.bool (l.any fun p=>decide (p∈g.m.ports)))∧w=w':=by
 have hix:Calls Tryz.prog 344 #[qv,.func (.func 315) #[] #[.pointer (some ⟨gc,0,none⟩)]] w fun e w'=>(∃i:Int,e=.returned (.int .i64 i)∧ -1≤i∧i≤9223372036854775807∧decide (i≥0)=l.any fun p=>decide (p∈g.m.ports))∧w=w':=by
  have hcap:=slv_len h;unfold maxLen at hcap;obtain⟨ao,ac,rfl⟩:=h.form;have HS:=Lh h;have HQ:=Lh fun p=>has1 hc hg hm p
  clear h hc hg hm;go_enter func344,ntmps344;go_wp2;go_loopw [5,8] (fun _ vi wr=>apRel w l g.m.ports vi wr) (fun _ vi _=>l.length - (intOf vi).toNat)
  case atStart=>exact⟨0,by omega,by go_num,fun k _ hk=>absurd hk (Nat.not_lt_zero _),rfl⟩
  case round=>
   obtain⟨i,hi,rfl,hno,rfl⟩:=hrel;have HNo:=Lh hno;clear hno
   by_cases hin:i<l.length
   ·obtain⟨ag,off,rfl,hc0⟩:=u16_cell HS.out (Zg hin);obtain⟨x,hx⟩:∃x,l[i]=x:=⟨_,rfl⟩;rw[hx] at hc0;have HX:Hid (l[i]? =some x):=Lh (by rw[Zg hin,hx]);clear hx;have HQx:=Lh (HQ.out x)
    by_cases hb:x∈g.m.ports
    ·have HM:Hid (decide ((i:Int)≥0)=l.any fun p=>decide (p∈g.m.ports)):=Lh (by
      rw[decide_eq_true (by omega),List.any_eq_true.2];exact⟨x,List.mem_of_getElem? HX.out,by simpa using hb⟩)
     rw[decide_eq_true hb] at HQx;clear hb;go_wp2_with fail;refine HQx.out.mono ?_;rintro e w2 ⟨rfl,rfl⟩;go_wp2;go_ret;exact⟨⟨i,rfl,by omega,by omega,HM.out⟩,rfl⟩
    ·have HBx:=Lh hb;rw[decide_eq_false hb] at HQx;clear hb;go_wp2_with fail;refine HQx.out.mono ?_;rintro e w2 ⟨rfl,rfl⟩;go_wp2;refine⟨⟨i+1,by omega,by go_num,fun k y hk hy=> ?_,rfl⟩,by simp[intOf];omega⟩;rcases Nat.lt_or_ge k i with q|q
     ·exact HNo.out k y q hy
     ·obtain rfl:k=i:=by omega
      rw[HX.out] at hy;cases hy;exact HBx.out
   ·have HM:Hid (decide ((-1:Int)≥0)=l.any fun p=>decide (p∈g.m.ports)):=Lh (by
     rw[decide_eq_false (by omega)]
     symm
     rw[List.any_eq_false];intro x hx;obtain⟨k,hk⟩:=List.getElem?_of_mem hx
     simpa using HNo.out k x (by have:=(List.getElem?_eq_some_iff.1 hk).1;omega) hk)
    go_wp2;go_ret;exact⟨⟨-1,rfl,by omega,by omega,HM.out⟩,rfl⟩
 have H:=Lh hix;clear hix h hc hg hm;go_enter func314,ntmps314;go_wp2_with fail;refine H.out.mono ?_;rintro e w1 ⟨⟨i,rfl,i0,i1,hd⟩,rfl⟩;have HD:=Lh hd;clear hd;go_wp2;go_ret;exact⟨by rw[HD.out];rfl,rfl⟩
def buRel(w:World)(a:CAt)(G:Int→Option Gr)(m:Mn)(ev pv:Value)(D:DataW Unit)(n r:Nat)(wr:World):Prop:=
 ∃left cnt,wr.ranges Tryz.prog 3 ptrElem a.mb r n D left cnt∧Below w.heap.size w wr∧w.heap.size<r∧wr.heap[w.heap.size]? =some (.cells (m.cells ev pv) 29 (0,0))∧∀x,left (.int .i64 x)=false→Gp.busyO (G x) m=false
def bxRel(w V:World)(g:Gr)(m:Mn)(vi:Value)(wr:World):Prop:=∃i:Nat,i≤m.ext.length∧vi=.int .i64 i∧(∀(k:Nat) (x:Int×Int),k<i→m.ext[k]? =some x→Gp.blocksOf g.m.ext x.1=none)∧Below V.heap.size V wr
theorem cellX{F:Nat→Prop}{w w':World}(hm:Mod F w w'){b i:Nat}{v:Value}(h:w.cell? ⟨b,i,none⟩=some v)(hF:¬F b):w'.cell? ⟨b,i,none⟩=some v:=by
 have hl:b<w.heap.size:=by
  unfold World.cell? at h;cases hg:w.heap[b]? with
  |none=>rw[hg] at h;cases h
  |some _=>exact lt_of_block hg
 exact(World.cell?_of_block (w:=w) (hm.block _ hl hF)).trans h
theorem ranges_below{V W:World}{b r n:Nat}{D:DataW Unit}{left:Lit→Bool}{cnt:Nat}(h:V.ranges Tryz.prog 3 ptrElem b r n D left cnt)(hb:Below V.heap.size V W):W.ranges Tryz.prog 3 ptrElem b r n D left cnt:=h.kept (row:=none) ⟨hb.os,hb.tape,hb.output,hb.size,fun k hk _=>hb.block k hk⟩ (by simp) (by simp)
theorem busy(h:Cps w a hp G){m:Mn}{ev pv:Value}(hm:MnAt w ev pv m):Calls Tryz.prog 269 #[.pointer (some ⟨a.cb,0,none⟩),.agg (m.cells ev pv)] w fun e w'=>e=.returned (.int .i64 (busyE G m))∧Below w.heap.size w w':=by
 obtain⟨eo,ec,rfl⟩:=hm.e.form;obtain⟨po,pc,rfl⟩:=hm.p.form;have HY:Hid (∀n,1≤n→n≤8→Gp.busyO (G n) m=true→busyE G m=190):=Lh fun n n1 n8 hn=>by unfold busyE;rw[if_pos (Gp.busyB_yes n1 n8 hn)]
 have HN:Hid ((∀n,Gp.busyO (G n) m=false)→busyE G m=0):=Lh fun hn=>by unfold busyE;rw[if_neg (by rw[Gp.busyB_no hn];simp)]
 have K:=Maps.int_keyed (P:=Tryz.prog) Tryz.underlying3;have hb:Below w.heap.size w (w.alloc (.cells (m.cells (.slice eo m.ext.length ec) (.slice po m.ports.length pc)) 29)):=(Below.refl _ _).alloc (Nat.le_refl _) _;have h1:=h.below hb;obtain⟨D,n,ho,hv,hs⟩:=h1.map;have Hv:=Lh hv;have Ho:=Lh ho;have HB:=Lh hb;have HM:=Lh (heap_alloc_new w (.cells (m.cells (.slice eo m.ext.length ec) (.slice po m.ports.length pc)) 29));have HMn:=Lh fun V (hV:Below w.heap.size w V)=>hm.below hV
 have HC:=Lh fun V (hV:Below w.heap.size w V)=>h.below hV
 have hcap:=slv_len hm.e;unfold maxLen at hcap;obtain⟨c0,c1,c2⟩:=h1.cells;unfold Mn.cells at*;clear h h1 hv hs ho hb hm;go_enter func269,ntmps269;go_wp2_with (at_range;refine wpList_range_own _ rfl _ 192 rfl 3 191 K Tryz.underlying192 ptrElem a.mb n D rfl Ho.out ?_;intro w2 hrg hg2 hz2);obtain⟨r,hr⟩:∃r,(w.alloc (.cells #[.int .u32 m.pages,.slice eo m.ext.length ec,.slice po m.ports.length pc,.bool m.con] 29)).heap.size=r:=⟨_,rfl⟩;have hr2:w.heap.size+1=r:=by simpa using hr
 have hk2:=(hg2.block w.heap.size (lt_of_block HM.out) (by simp)).trans HM.out;rw[hr] at hrg⊢;have H2:Hid (buRel w a G m (.slice eo m.ext.length ec) (.slice po m.ports.length pc) D n r w2):=Lh ⟨_,_,hrg,HB.out.grown hg2 HB.out.size (fun k e=>by cases e),by omega,hk2,fun x hx=>by
  have hx:Maps.has D (.int .i64 x)=false:=hx;cases hg:G x with
  |none=>rfl
  |some g=>
   have:Maps.has D (.int .i64 x)=true:=Maps.has_true_of_atKey (y:=.lit (.int .i64 (a.gb x))) fun zd=>by rw[Hv.out,if_pos (by rw[hg];rfl)]
   rw[hx] at this;cases this⟩
 clear hr hr2 hrg hg2 hz2 hk2;go_frame;go_loopw [6,8,9,10] (fun _ _ _ _ wr=>buRel w a G m (.slice eo m.ext.length ec) (.slice po m.ports.length pc) D n r wr) (fun _ _ _ _ wr=>wr.rangeLeft a.mb r)
 case atStart=>exact H2.out
 case round=>
  clear H2 c0 c1 c2;obtain⟨left,cnt,hrg,hbw,hr3,hmk,hno⟩:=hrel;have Hrg:=Lh hrg;have Hbw:=Lh hbw;have Hr3:=Lh hr3;have Hmk:=Lh hmk;have Hno:=Lh hno;clear hrg hbw hr3 hmk hno;go_wp2_with (at_next;refine wpList_next_ranges _ rfl _ rfl 3 K ptrElem (Value.int .i64) id (fun key kl hk=>by obtain⟨x,hx,_⟩:=Maps.keyOf_int_inv Tryz.underlying3 hk;exact⟨x,hx⟩) (fun v _ _=>⟨v,rfl⟩) a.mb r n D left cnt rfl Hrg.out ?_ ?_)
  ·intro hc0 hl0;have HE:=Lh (HN.out fun x=>Hno.out x (hl0 _));go_wp2;go_ret;exact⟨by rw[HE.out];rfl,Hbw.out⟩
  ·intro x c kl y1 y2 w3 cnt2 hkey hlk hR hat3 hrg3 hlt hg3 hs3 hen;obtain⟨x',ex,rfl,hwx⟩:=Maps.keyOf_int_inv Tryz.underlying3 hkey;obtain rfl:x=x':=by simpa using ex
   obtain⟨⟨g,hg⟩,rfl⟩:=entry Hv.out hat3;obtain rfl:c=.pointer (some ⟨a.gb x,0,none⟩):=by
    rcases ptrElem_inv hR with⟨_,hb⟩|⟨b,e,hb⟩
    ·omega
    ·have:b=a.gb x:=by omega
     subst this;exact e
   have hw3b:Below w.heap.size w w3:=Hbw.out.grown hg3 Hbw.out.size (fun k e=>by cases e;have:=Hr3.out;omega);have hmk3:w3.heap[w.heap.size]? =some (.cells (m.cells (.slice eo m.ext.length ec) (.slice po m.ports.length pc)) 29 (0,0)):=(hg3.block _ (lt_of_block Hmk.out) (by have:=Hr3.out;simp;omega)).trans Hmk.out;have hal:=hw3b.alloc hw3b.size (.cells #[.pointer (some ⟨a.gb x,0,none⟩)] 191);have hmk4:(w3.alloc (.cells #[.pointer (some ⟨a.gb x,0,none⟩)] 191)).heap[w.heap.size]? =some (.cells (m.cells (.slice eo m.ext.length ec) (.slice po m.ports.length pc)) 29 (0,0)):=(Below.heap_alloc _ _ _ (lt_of_block hmk3)).trans hmk3;have hbx:=heap_alloc_new w3 (.cells #[.pointer (some ⟨a.gb x,0,none⟩)] 191);have hrg4:=hrg3.alloc (.cells #[.pointer (some ⟨a.gb x,0,none⟩)] 191);have hms:(w3.alloc (.cells #[.pointer (some ⟨a.gb x,0,none⟩)] 191)).rangeLeft a.mb r<wr.rangeLeft a.mb r:=by rw[hrg4.left_eq,Hrg.out.left_eq];exact hlt
   have hdm:=(HC.out _ hal).dom x (by rw[hg];rfl);have hgr:=(HC.out _ hal).grant x g hg;have hok:=(HC.out _ hal).ok x g hg;have HAp:=Lh (anyPort (HMn.out _ hal).p hbx hgr.1 hgr.2);have HW4:=Lh (And.intro hrg4 (And.intro hal (And.intro hmk4 (And.intro hbx (And.intro hms hgr)))));have HDm:=Lh hdm;have HG:=Lh hg;have HR4:Hid (w.heap.size<r):=Hr3;have HNo2:Hid (Gp.busyO (some g) m=false→∀y,(left (.int .i64 y)&& !(Lit.int .i64 y).sameKey (.int .i64 x))=false→Gp.busyO (G y) m=false):=Lh fun hbn y hy=>by
    by_cases e:y=x
    ·rw[e,hg];exact hbn
    ·have:(Lit.int .i64 y).sameKey (.int .i64 x)=false:=by simp[Lit.sameKey];omega
     rw[this] at hy;exact Hno.out y (by simpa using hy)
   have HPB:Hid (Gp.busyP g m=m.ports.any fun p=>decide (p∈g.m.ports)):=Lh rfl;obtain⟨m0,m1,m2,m3,mf⟩:=man_cells hmk4;clear ex hwx hg hkey hlk hR hat3 hrg3 hlt hg3 hs3 hw3b hmk3 hal hmk4 hbx hrg4 hms hdm hgr;obtain⟨bp,hbp⟩:∃bp,(m.ports.any fun p=>decide (p∈g.m.ports))=bp:=⟨_,rfl⟩;rw[hbp] at HAp HPB;clear hbp;cases bp with
   |true=>
    have HE:=Lh (HY.out x HDm.out.1 HDm.out.2 (by rw[HG.out];show(Gp.busyP g m||Gp.busyX g m)=true;rw[HPB.out];rfl));go_wp2_with fail;refine HAp.out.mono ?_;rintro e w5 ⟨rfl,rfl⟩;go_wp2;go_ret;exact⟨by rw[HE.out];rfl,HW4.out.2.1⟩
   |false=>
    go_wp2_with fail;refine HAp.out.mono ?_;rintro e w5 ⟨rfl,rfl⟩;go_wp2;obtain⟨gc,hgc⟩:∃gc,w3.heap.size=gc:=⟨_,rfl⟩;rw[hgc] at HW4⊢;generalize w3.alloc (.cells #[.pointer (some ⟨a.gb x,0,none⟩)] 191)=w4 at*;clear hgc m0 m1 m2 m3 mf HAp;have HX0:=Lh (show bxRel w w4 g m (.int .i64 0) w4 from⟨0,Nat.zero_le _,rfl,fun k _ hk=>absurd hk (Nat.not_lt_zero _),Below.refl _ _⟩);go_loopw [8,9,10,27] (fun _ _ _ vi wr=>bxRel w w4 g m vi wr) (fun _ _ _ vi _=>m.ext.length - (intOf vi).toNat)
    case atStart=>exact HX0.out
    case round=>
     clear HX0;obtain⟨i,hi,rfl,hno,hbi⟩:=hrel;have Hni:=Lh hno;have Hbi:=Lh hbi;clear hno hbi
     by_cases hin:i<m.ext.length
     ·have hsl:=(HMn.out _ (below_th HW4.out.2.1 Hbi.out)).e;obtain⟨ag,off,heo,hc0,hc1⟩:=ext_cells hsl (Zg hin);obtain⟨z,hz⟩:∃z,m.ext[i]=z:=⟨_,rfl⟩;rw[hz] at hc0 hc1;have HZ:Hid (m.ext[i]? =some z):=Lh (by rw[Zg hin,hz]);have hi1:(i:Int)<m.ext.length:=by omega
      have hal:=(Below.refl wr.heap.size wr).alloc (Nat.le_refl _) (.cells #[.int .u32 z.1,.int .u32 z.2] 273);have hbk:=heap_alloc_new wr (.cells #[.int .u32 z.1,.int .u32 z.2] 273);have hB4:=below_th Hbi.out hal;have hgk:=(hB4.block _ (lt_of_block HW4.out.2.2.2.2.2.1)).trans HW4.out.2.2.2.2.2.1;have hpk:=(hB4.block _ (lt_of_block HW4.out.2.2.2.1)).trans HW4.out.2.2.2.1;obtain⟨g0,g1,g2,g3,_⟩:=gr_cells hgk;have hg6:(wr.alloc (.cells #[.int .u32 z.1,.int .u32 z.2] 273)).cell? ⟨gc,0,none⟩=some (.pointer (some ⟨a.gb x,0,none⟩)):=by unfold World.cell?;rw[hpk];rfl
      obtain⟨z0,z1,zf⟩:=two_of hbk;have HMg:=Lh fun V (hV:Below (wr.alloc (.cells #[.int .u32 z.1,.int .u32 z.2] 273)).heap.size (wr.alloc (.cells #[.int .u32 z.1,.int .u32 z.2] 273)) V)=>(HW4.out.2.2.2.2.2.2.below (below_th hB4 hV))
      have HB4:=Lh hB4;have HAl:=Lh hal;have HL6:Hid (gc<w4.heap.size∧a.gb x<w4.heap.size∧w4.heap.size≤wr.heap.size∧wr.heap.size<(wr.alloc (.cells #[.int .u32 z.1,.int .u32 z.2] 273)).heap.size):=Lh ⟨lt_of_block HW4.out.2.2.2.1,lt_of_block HW4.out.2.2.2.2.2.1,Hbi.out.size,lt_of_block hbk⟩;subst heo;clear hsl hz hal hbk hB4 hgk hpk;go_wp2;generalize wr.alloc (.cells #[.int .u32 z.1,.int .u32 z.2] 273)=w6 at*;refine B (fun V=>V.cell? ⟨gc,0,none⟩=some (.pointer (some ⟨a.gb x,0,none⟩))∧V.cell? ⟨a.gb x,0,none⟩=some (.int .u32 g.m.pages)∧V.cell? ⟨a.gb x,1,none⟩=some (a.ev x)∧V.cell? ⟨a.gb x,2,none⟩=some (a.pv x)∧V.cell? ⟨a.gb x,3,none⟩=some (.bool g.m.con)∧V.cell? ⟨wr.heap.size,0,none⟩=some (.int .u32 z.1)) ⟨hg6,g0,g1,g2,g3,z0⟩ fun wd hwd hS=> ?_
      have HBd:Hid (Below w6.heap.size w6 wd):=Lh (by rw[hwd];exact(Below.refl _ _).drew);clear hwd g0 g1 g2 g3 hg6 z0 z1 zf hc0 hc1;refine T 0 hS ?_;refine T 1 hS ?_;refine T 2 hS ?_;refine T 3 hS ?_;refine T 4 hS ?_;refine T 5 hS ?_;refine U2 6 10 (fun K hK=> ?_) (fun K hK=> ?_)
      ·go_simp;go_at_call 283;refine(extent (HMg.out wd HBd.out) z.1).mono ?_;rintro e w7 ⟨⟨ei,en,rfl,_⟩,hb7⟩;have hS7:=And.intro (cell_below hb7 hS.1) (And.intro (cell_below hb7 hS.2.1) (And.intro (cell_below hb7 hS.2.2.1) (And.intro (cell_below hb7 hS.2.2.2.1) (And.intro (cell_below hb7 hS.2.2.2.2.1) (cell_below hb7 hS.2.2.2.2.2)))));have HB7:=Lh (below_th HBd.out hb7);clear hb7;refine V hK hS7 ?_;clear hK K;refine T 7 hS7 ?_;refine T 8 hS7 ?_;refine T 9 hS7 ?_;refine U 10 fun K hK=> ?_
       go_simp;have hb8:Below w7.heap.size w7 (w7.alloc (.cells #[.int .u32 0,.int .u32 0] 273)):=(Below.refl _ _).alloc (Nat.le_refl _) _;have hk8:=heap_alloc_new w7 (.cells #[.int .u32 0,.int .u32 0] 273);have hS8:=And.intro (cell_below hb8 hS7.1) (And.intro (cell_below hb8 hS7.2.1) (And.intro (cell_below hb8 hS7.2.2.1) (And.intro (cell_below hb8 hS7.2.2.2.1) (And.intro (cell_below hb8 hS7.2.2.2.2.1) (cell_below hb8 hS7.2.2.2.2.2)))));have HB8:=Lh (below_th HB7.out hb8)
       change K _ (w7.alloc (.cells #[.int .u32 0,.int .u32 0] 273))
       have hz8:w6.heap.size≤w7.heap.size:=HB7.out.size;generalize hw8:w7.alloc (.cells #[.int .u32 0,.int .u32 0] 273)=w8 at*;clear hb8 hw8;refine V hK hS8 ?_;clear hK K;obtain⟨r0,r1,rf⟩:=two_of hk8;have rf0:=rf 0;have rf1:=rf 1;refine U 11 fun K hK=> ?_
       go_simp;have hm9:=set2_mod w8 w7.heap.size (.int .u32 ei) (.int .u32 en);have hl:=HL6.out;have hS9:=And.intro (cellX hm9 hS8.1 (by omega)) (And.intro (cellX hm9 hS8.2.1 (by omega)) (And.intro (cellX hm9 hS8.2.2.1 (by omega)) (And.intro (cellX hm9 hS8.2.2.2.1 (by omega)) (And.intro (cellX hm9 hS8.2.2.2.2.1 (by omega)) (cellX hm9 hS8.2.2.2.2.2 (by omega))))));have HB9:=Lh (Mod.below HB8.out hm9 HB8.out.size fun k _ q=>by rw[q];exact hz8);clear hm9 r0 r1 rf rf0 rf1;refine V hK hS9 ?_;clear hK K;refine T 12 hS9 ?_;refine wpAnyH_done (by kernel_rfl) ?_ _;clear hS9 HMg HBd;cases hbo:Gp.blocksOf g.m.ext z.1 with
       |some k=>
        have HE:=Lh (HY.out x HDm.out.1 HDm.out.2 (by
         rw[HG.out]
         show(Gp.busyP g m||Gp.busyX g m)=true
         rw[Bool.or_eq_true];exact .inr (List.any_eq_true.2 ⟨z,List.mem_of_getElem? HZ.out,by rw[hbo];rfl⟩)))
        clear hbo;go_wp2;go_ret;exact⟨by rw[HE.out];rfl,below_th HW4.out.2.1 (below_th HB4.out HB9.out)⟩
       |none=>
        have HBo:=Lh hbo;clear hbo;go_wp2;refine⟨⟨i+1,by omega,by go_num,fun k y hk hy=> ?_,below_th (below_th Hbi.out (Below.refl _ _)) (below_th HAl.out HB9.out)⟩,by simp[intOf];omega⟩;rcases Nat.lt_or_ge k i with q|q
        ·exact Hni.out k y q hy
        ·obtain rfl:k=i:=by omega
         rw[HZ.out] at hy;cases hy;exact HBo.out
      ·go_simp;have hb8:Below wd.heap.size wd (wd.alloc (.cells #[.int .u32 0,.int .u32 0] 273)):=(Below.refl _ _).alloc (Nat.le_refl _) _;have hk8:=heap_alloc_new wd (.cells #[.int .u32 0,.int .u32 0] 273);have hS8:=And.intro (cell_below hb8 hS.1) (And.intro (cell_below hb8 hS.2.1) (And.intro (cell_below hb8 hS.2.2.1) (And.intro (cell_below hb8 hS.2.2.2.1) (And.intro (cell_below hb8 hS.2.2.2.2.1) (cell_below hb8 hS.2.2.2.2.2)))));have HB8:=Lh (below_th HBd.out hb8);have HK8:=Lh hk8
       change K _ (wd.alloc (.cells #[.int .u32 0,.int .u32 0] 273))
       have hz8:w6.heap.size≤wd.heap.size:=HBd.out.size;generalize hw8:wd.alloc (.cells #[.int .u32 0,.int .u32 0] 273)=w8 at*;clear hb8 hw8 hk8 hS;refine V hK hS8 ?_;clear hK K;refine U 6 fun K hK=> ?_
       go_simp;go_at_call 283;refine(extent (HMg.out w8 HB8.out) z.1).mono ?_;rintro e w7 ⟨⟨ei,en,rfl,_⟩,hb7⟩;have hS7:=And.intro (cell_below hb7 hS8.1) (And.intro (cell_below hb7 hS8.2.1) (And.intro (cell_below hb7 hS8.2.2.1) (And.intro (cell_below hb7 hS8.2.2.2.1) (And.intro (cell_below hb7 hS8.2.2.2.2.1) (cell_below hb7 hS8.2.2.2.2.2)))));have HB7:=Lh (below_th HB8.out hb7);have hk7:=(hb7.block _ (lt_of_block HK8.out)).trans HK8.out;clear hb7 hS8;refine V hK hS7 ?_;clear hK K;refine T 7 hS7 ?_;refine T 8 hS7 ?_;refine T 9 hS7 ?_;obtain⟨r0,r1,rf⟩:=two_of hk7;have rf0:=rf 0;have rf1:=rf 1;refine U 11 fun K hK=> ?_
       go_simp;have hm9:=set2_mod w7 wd.heap.size (.int .u32 ei) (.int .u32 en);have hl:=HL6.out;have hS9:=And.intro (cellX hm9 hS7.1 (by omega)) (And.intro (cellX hm9 hS7.2.1 (by omega)) (And.intro (cellX hm9 hS7.2.2.1 (by omega)) (And.intro (cellX hm9 hS7.2.2.2.1 (by omega)) (And.intro (cellX hm9 hS7.2.2.2.2.1 (by omega)) (cellX hm9 hS7.2.2.2.2.2 (by omega))))));have HB9:=Lh (Mod.below HB7.out hm9 HB7.out.size fun k _ q=>by rw[q];exact hz8);clear hm9 r0 r1 rf rf0 rf1 hk7;refine V hK hS9 ?_;clear hK K;refine T 12 hS9 ?_;refine wpAnyH_done (by kernel_rfl) ?_ _;clear hS9 HMg HBd;cases hbo:Gp.blocksOf g.m.ext z.1 with
       |some k=>
        have HE:=Lh (HY.out x HDm.out.1 HDm.out.2 (by
         rw[HG.out]
         show(Gp.busyP g m||Gp.busyX g m)=true
         rw[Bool.or_eq_true];exact .inr (List.any_eq_true.2 ⟨z,List.mem_of_getElem? HZ.out,by rw[hbo];rfl⟩)))
        clear hbo;go_wp2;go_ret;exact⟨by rw[HE.out];rfl,below_th HW4.out.2.1 (below_th HB4.out HB9.out)⟩
       |none=>
        have HBo:=Lh hbo;clear hbo;go_wp2;refine⟨⟨i+1,by omega,by go_num,fun k y hk hy=> ?_,below_th (below_th Hbi.out (Below.refl _ _)) (below_th HAl.out HB9.out)⟩,by simp[intOf];omega⟩;rcases Nat.lt_or_ge k i with q|q
        ·exact Hni.out k y q hy
        ·obtain rfl:k=i:=by omega
         rw[HZ.out] at hy;cases hy;exact HBo.out
     ·have HXn:=Lh (HNo2.out (by
       show(Gp.busyP g m||Gp.busyX g m)=false
       rw[HPB.out]
       show Gp.busyX g m=false
       unfold Gp.busyX;rw[List.any_eq_false];intro y hy;obtain⟨k,hk⟩:=List.getElem?_of_mem hy;rw[Hni.out k y (by have:=(List.getElem?_eq_some_iff.1 hk).1;omega) hk]
       simp))
      have hi1:¬(i:Int)<m.ext.length:=by omega
      have hrel':buRel w a G m (.slice eo m.ext.length ec) (.slice po m.ports.length pc) D n r wr:=⟨_,_,ranges_below HW4.out.1 Hbi.out,below_th HW4.out.2.1 Hbi.out,HR4.out,(Hbi.out.block _ (lt_of_block HW4.out.2.2.1)).trans HW4.out.2.2.1,HXn.out⟩;have hms:wr.rangeLeft a.mb r=w4.rangeLeft a.mb r:=by rw[(ranges_below HW4.out.1 Hbi.out).left_eq,HW4.out.1.left_eq]
      have HRl:=Lh hrel';have HMs:=Lh (show wr.rangeLeft a.mb r<_ from hms▸HW4.out.2.2.2.2.1);clear hrel' hms;go_wp2;exact⟨HRl.out,HMs.out⟩
end
end Ca
end Go.Proofs.YtjjdjpdmgaipeaaGreat
