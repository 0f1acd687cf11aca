/- R19D, CopG, Row, MayG, R19E in one text. -/
import Derived.Test.YtnpicaigdfnmfaaGreatPnXoA
import Derived.Test.YtnpicaigdfnmfaaGreatPnRegT
import Derived.BigQuiet
import Derived.Test.YtnpicaigdfnmfaaGreatPnZa
set_option linter.unusedVariables false
set_option linter.unusedSimpArgs false
set_option maxRecDepth 100000
set_option maxHeartbeats 16000000
open Go.Proofs.Tryz
namespace Go.Proofs.YtnpicaigdfnmfaaGreat
open Go.RowKit
namespace Rc
theorem blocks_pos{m:Mn}(hc:Gp.checkE m=0){id z:Int}(hz:Gp.blocksOf m.ext id=some z):1≤z:=by
 have hm:Gp.mayM m=true:=by
  unfold Gp.checkE at hc
  split at hc
  ·assumption
  ·cases hc
 unfold Gp.mayM at hm;simp only[Bool.and_eq_true] at hm;have hb:=hm.1.1.1.1.1;unfold Gp.blocksOf at hz;cases hf:m.ext.find? (fun x=>x.1 == id) with
 |none=>rw[hf] at hz;cases hz
 |some x=>
  rw[hf] at hz;cases hz;have hx:=List.mem_of_find?_eq_some hf;have hq:m.ext.any Gp.badX=false:=by simpa using hb
  rw[List.any_eq_false] at hq;have:=hq x hx;unfold Gp.badX at this;simp at this
  show 1≤x.2
  omega
section
variable {w:World} {a:RcAt} {hp:Int} {G:Int→Option Gr}
theorem busy_yes(h:Rcs w a hp G){m:Mn}{x:RcE}(hx:x∈a.L)(hb:Gp.busyO (some x.g) m=true):Gp.busyB G m=true:=by
 obtain⟨n1,n8,hg⟩:=h.key hx;exact Gp.busyB_yes n1 n8 (by rw[hg];exact hb)
theorem busy_no(h:Rcs w a hp G){m:Mn}(hb:∀x,x∈a.L→Gp.busyO (some x.g) m=false):Gp.busyB G m=false:=Gp.busyB_no fun n=>by
 cases hg:G n with
 |none=>rfl
 |some g=>
  obtain⟨i,x,_,hx,_,hxg⟩:=of_some h hg;rw[←hxg];exact hb x (List.mem_of_getElem? hx)
def byRel(w:World)(L:List RcE)(m:Mn)(ev pv:Value)(vi:Value)(wr:World):Prop:=
 ∃i:Nat,i≤L.length∧vi=.int .i64 i∧(∀(k:Nat) (x:RcE),k<i→L[k]? =some x→Gp.busyO (some x.g) m=false)∧Below w.heap.size w wr∧MBx wr w.heap.size m ev pv
def beRel(V:World)(g:Gr)(m:Mn)(vi:Value)(wr:World):Prop:=∃i:Nat,i≤m.ext.length∧vi=.int .i64 i∧(∀(k:Nat) (x:Int×Int),k<i→m.ext[k]? =some x→Gp.blocksOf g.m.ext x.1=none)∧Below V.heap.size V wr
def bpRel(V:World)(g:Gr)(m:Mn)(vi:Value)(wr:World):Prop:=∃i:Nat,i≤m.ports.length∧vi=.int .i64 i∧(∀(k:Nat) (x:Int),k<i→m.ports[k]? =some x→x∉g.m.ports)∧Below V.heap.size V wr
theorem busy(h:Rcs w a hp G){m:Mn}{ev pv:Value}(hm:MnIn w ev pv m):Calls Tryz.prog 195 #[.pointer (some ⟨a.rb,0,none⟩),.agg (m.cells ev pv)] w fun e w'=>e=.returned (.bool (Gp.busyB G m))∧Below w.heap.size w w':=by
 obtain⟨eo,ec,rfl⟩:=hm.e.form;obtain⟨po,pc,rfl⟩:=hm.p.form;have hcap:=rw_len hm.e;have hcap2:=rw_len hm.p;unfold maxLen at hcap hcap2;have HY:Hid (∀x,x∈a.L→Gp.busyO (some x.g) m=true→Gp.busyB G m=true):=Lh fun x hx hb=>busy_yes h hx hb
 have HN:Hid ((∀x,x∈a.L→Gp.busyO (some x.g) m=false)→Gp.busyB G m=false):=Lh fun hb=>busy_no h hb
 have hb:Below w.heap.size w (w.alloc (.cells (m.cells (.slice eo m.ext.length ec) (.slice po m.ports.length pc)) 109)):=Ba _;have hk:=heap_alloc_new w (.cells (m.cells (.slice eo m.ext.length ec) (.slice po m.ports.length pc)) 109);have H:=Lh fun V (hV:Below w.heap.size w V)=>h.below hV
 have HMn:=Lh fun V (hV:Below w.heap.size w V)=>hm.below hV
 have HR0:Hid (byRel w a.L m (.slice eo m.ext.length ec) (.slice po m.ports.length pc) (.int .i64 0) (w.alloc (.cells (m.cells (.slice eo m.ext.length ec) (.slice po m.ports.length pc)) 109))):=Lh ⟨0,by omega,rfl,fun k _ hk=>absurd hk (Nat.not_lt_zero _),hb,hk⟩;have hl:=h.len;obtain⟨ao,ac,hlv⟩:=h.row.form;have HLv:=Lh hlv;unfold Mn.cells at HR0;unfold Mn.cells;clear h hm hb hk hlv;go_enter func195,ntmps195;go_wp2;go_loopw [5,6,7] (fun vi _ _ wr=>byRel w a.L m (.slice eo m.ext.length ec) (.slice po m.ports.length pc) vi wr) (fun vi _ _ _=>a.L.length - (intOf vi).toNat)
 case atStart=>exact HR0.out
 case round=>
  clear HR0;obtain⟨i,hi,rfl,hno,hb,hbx⟩:=hrel;generalize wr=wo at*;have h1:=H.out wo hb;obtain⟨c0,c1,c2,_⟩:=h1.cells;rw[HLv.out] at c2;have HNo:=Lh hno;have HB:=Lh hb;have HBx:=Lh hbx
  by_cases hin:i<a.L.length
  ·obtain⟨x,hx⟩:∃x,a.L[i]? =some x:=⟨_,Zg hin⟩;have hi1:(i:Int)<a.L.length:=by omega
   have hxm:=List.mem_of_getElem? hx;have HX:=Lh (And.intro hx (And.intro hxm (And.intro (h1.key hxm).2.2 (h1.ok.may _ _ (h1.key hxm).2.2))));have HXf:Hid (∀V,Below wo.heap.size wo V→∃g off,ao=some ⟨g,off,none⟩∧V.cell? ⟨a.rb,2,none⟩=some (.slice (some ⟨g,off,none⟩) a.L.length ac)∧V.cell? ⟨g,off+i*7+1,none⟩=some (.int .u32 x.g.m.pages)∧V.cell? ⟨g,off+i*7+2,none⟩=some x.ev∧V.cell? ⟨g,off+i*7+3,none⟩=some x.pv∧V.cell? ⟨g,off+i*7+4,none⟩=some (.bool x.g.m.con)∧MnAt V x.ev x.pv x.g.m):=Lh fun V hV=>by
    have h2:=H.out V (bQ hb hV);obtain⟨g,off,cap,hv,hc⟩:=h2.at' hx;obtain⟨x0,x1,x2,x3,x4,x5,x6⟩:=Rcs.seven hc;have d2:=h2.cells.2.2.1;rw[HLv.out] at hv d2;simp only[Value.slice.injEq] at hv;obtain⟨rfl,_,rfl⟩:=hv;exact⟨g,off,rfl,d2,x1,x2,x3,x4,h2.mns x hxm⟩
   have HMb:Hid (∀V,Below wo.heap.size wo V→V.cell? ⟨w.heap.size,1,none⟩=some (.slice eo m.ext.length ec)∧V.cell? ⟨w.heap.size,2,none⟩=some (.slice po m.ports.length pc)):=Lh fun V hV=>by
    obtain⟨m0,m1,m2,m3,_⟩:=man_cells (m:=m) (hbx.below hV);exact⟨m1,m2⟩
   have HE0:Hid (beRel wo x.g m (.int .i64 0) wo):=Lh ⟨0,Nat.zero_le _,rfl,fun k _ hk=>absurd hk (Nat.not_lt_zero _),Below.refl _ _⟩;clear hno hb hbx h1 hx hxm;go_wp2;go_loopw [6] (fun vi V=>beRel wo x.g m vi V) (fun vi _=>m.ext.length - (intOf vi).toNat)
   case atStart=>exact HE0.out
   case round=>
    clear HE0 c0 c1 c2;obtain⟨k,hkl,rfl,hnk,hbk⟩:=hrel;have HNk:=Lh hnk;have HBk:=Lh hbk;obtain⟨m1,m2⟩:=HMb.out _ hbk;clear hnk
    by_cases hkn:k<m.ext.length
    ·have hk1:(k:Int)<m.ext.length:=by omega
     obtain⟨g,off,rfl,d2,x1,x2,x3,x4,hmx⟩:=HXf.out _ hbk;obtain⟨eg,eoff,heo,e0,e1⟩:=ext_cellsR (HMn.out _ (bQ HB.out hbk)).e (Zg hkn);obtain⟨z,hz⟩:∃z,m.ext[k]=z:=⟨_,rfl⟩;rw[hz] at e0 e1;have HZ:Hid (m.ext[k]? =some z):=Lh (by rw[Zg hkn,hz]);subst heo;have HMx:=Lh hmx;clear hz hbk hmx;go_wp2;refine B (fun V=>V.cell? ⟨a.rb,2,none⟩=some (.slice (some ⟨g,off,none⟩) a.L.length ac)∧V.cell? ⟨g,off+i*7+1,none⟩=some (.int .u32 x.g.m.pages)∧V.cell? ⟨g,off+i*7+2,none⟩=some x.ev∧V.cell? ⟨g,off+i*7+3,none⟩=some x.pv∧V.cell? ⟨g,off+i*7+4,none⟩=some (.bool x.g.m.con)∧V.cell? ⟨w.heap.size,1,none⟩=some (.slice (some ⟨eg,eoff,none⟩) m.ext.length ec)∧V.cell? ⟨eg,eoff+k*2,none⟩=some (.int .u32 z.1)) ⟨d2,x1,x2,x3,x4,m1,e0⟩ fun wd hwd hS=> ?_
     have HBd:Hid (Below wo.heap.size wo wd):=Lh (by rw[hwd];exact HBk.out.drew);have HMd:Hid (MnAt wd x.ev x.pv x.g.m):=Lh (by rw[hwd];exact HMx.out.below Br.drew);clear hwd d2 x1 x2 x3 x4 m1 m2 e0 e1;refine T 0 hS ?_;refine T 1 hS ?_;refine T 2 hS ?_;refine T 3 hS ?_;refine T 4 hS ?_;refine T 5 hS ?_;refine T 6 hS ?_;refine T 7 hS ?_;refine T 8 hS ?_;refine T 9 hS ?_;refine T 10 hS ?_;refine T 11 hS ?_;refine T 12 hS ?_;refine T 13 hS ?_;refine U 14 fun K hK=> ?_
     go_simp;go_at_call 254;refine(blocks HMd.out z.1).mono ?_;rintro e w5 ⟨rfl,hb5⟩;have hS5:=And.intro (cQ hb5 hS.1) (And.intro (cQ hb5 hS.2.1) (And.intro (cQ hb5 hS.2.2.1) (And.intro (cQ hb5 hS.2.2.2.1) (And.intro (cQ hb5 hS.2.2.2.2.1) (And.intro (cQ hb5 hS.2.2.2.2.2.1) (cQ hb5 hS.2.2.2.2.2.2))))));have HB5:=Lh (bQ HBd.out hb5);refine V hK hS5 ?_;clear hK K;refine T 15 hS5 ?_;refine wpAnyH_done (by kernel_rfl) ?_ _;clear hS hS5 hb5;cases hbo:Gp.blocksOf x.g.m.ext z.1 with
     |some y=>
      have hy:=blocks_pos HX.out.2.2.2 hbo;have HV:Hid (Gp.busyB G m=true):=Lh (HY.out x HX.out.2.1 (by
       show(Gp.busyP x.g m||Gp.busyX x.g m)=true
       rw[Bool.or_eq_true];exact .inr (List.any_eq_true.2 ⟨z,List.mem_of_getElem? HZ.out,by rw[hbo];rfl⟩)))
      have hd:decide (y>0)=true:=decide_eq_true (by omega);have ho:(some y).getD 0=y:=rfl;clear hbo;go_wp2;go_ret;exact⟨by rw[HV.out];rfl,bQ HB.out HB5.out⟩
     |none=>
      have HBo:=Lh hbo;clear hbo;have ho:(none:Option Int).getD 0=0:=rfl;go_wp2;refine⟨⟨k+1,by omega,by go_num,fun j y hj hy=> ?_,HB5.out⟩,by simp[intOf];omega⟩;rcases Nat.lt_or_ge j k with q|q
      ·exact HNk.out j y q hy
      ·obtain rfl:j=k:=by omega
       rw[HZ.out] at hy;cases hy;exact HBo.out
    ·have hk1:¬(k:Int)<m.ext.length:=by omega
     have HXn:Hid (Gp.busyX x.g m=false):=Lh (by
      unfold Gp.busyX;rw[List.any_eq_false];intro y hy;obtain⟨j,hj⟩:=List.getElem?_of_mem hy;rw[HNk.out j y (by have:=(List.getElem?_eq_some_iff.1 hj).1;omega) hj]
      simp)
     clear HNk;have HP0:Hid (bpRel wr x.g m (.int .i64 0) wr):=Lh ⟨0,Nat.zero_le _,rfl,fun k _ hk=>absurd hk (Nat.not_lt_zero _),Below.refl _ _⟩;clear hbk;go_wp2;generalize wr=w2 at*;clear m1 m2 hk1 hkn;go_loopw [7] (fun vi V=>bpRel w2 x.g m vi V) (fun vi _=>m.ports.length - (intOf vi).toNat)
     case atStart=>exact HP0.out
     case round=>
      clear HP0;obtain⟨k,hkl,rfl,hnk,hbk⟩:=hrel;have HNk:=Lh hnk;have HB32:=Lh hbk;have HB3:=Lh (bQ HBk.out hbk);obtain⟨m1,m2⟩:=HMb.out _ HB3.out;clear hnk hbk
      by_cases hkn:k<m.ports.length
      ·have hk1:(k:Int)<m.ports.length:=by omega
       obtain⟨g,off,rfl,d2,x1,x2,x3,x4,hmx⟩:=HXf.out _ HB3.out;obtain⟨eg,eoff,heo,e0⟩:=u16_cellR (HMn.out _ (bQ HB.out HB3.out)).p (Zg hkn);obtain⟨z,hz⟩:∃z,m.ports[k]=z:=⟨_,rfl⟩;rw[hz] at e0;have HZ:Hid (m.ports[k]? =some z):=Lh (by rw[Zg hkn,hz]);subst heo;have HMx:=Lh hmx;clear hz hmx;go_wp2;refine B (fun V=>V.cell? ⟨a.rb,2,none⟩=some (.slice (some ⟨g,off,none⟩) a.L.length ac)∧V.cell? ⟨g,off+i*7+1,none⟩=some (.int .u32 x.g.m.pages)∧V.cell? ⟨g,off+i*7+2,none⟩=some x.ev∧V.cell? ⟨g,off+i*7+3,none⟩=some x.pv∧V.cell? ⟨g,off+i*7+4,none⟩=some (.bool x.g.m.con)∧V.cell? ⟨w.heap.size,2,none⟩=some (.slice (some ⟨eg,eoff,none⟩) m.ports.length pc)∧V.cell? ⟨eg,eoff+k,none⟩=some (.int .u16 z)) ⟨d2,x1,x2,x3,x4,m2,e0⟩ fun wd hwd hS=> ?_
       have HBd:Hid (Below wo.heap.size wo wd):=Lh (by rw[hwd];exact HB3.out.drew);have HMd:Hid (MnAt wd x.ev x.pv x.g.m):=Lh (by rw[hwd];exact HMx.out.below Br.drew);have HB2d:Hid (Below w2.heap.size w2 wd):=Lh (by rw[hwd];exact HB32.out.drew);clear hwd d2 x1 x2 x3 x4 m1 m2 e0;refine T 0 hS ?_;refine T 1 hS ?_;refine T 2 hS ?_;refine T 3 hS ?_;refine T 4 hS ?_;refine T 5 hS ?_;refine T 6 hS ?_;refine T 7 hS ?_;refine T 8 hS ?_;refine T 9 hS ?_;refine T 10 hS ?_;refine T 11 hS ?_;refine T 12 hS ?_;refine U 13 fun K hK=> ?_
       go_simp;go_at_call 255;refine(hasPort HMd.out z).mono ?_;rintro e w5 ⟨he,hb5⟩;obtain⟨bz,hbz⟩:∃b,decide (z∈x.g.m.ports)=b:=⟨_,rfl⟩;rw[hbz] at he;subst he;have hS5:=And.intro (cQ hb5 hS.1) (And.intro (cQ hb5 hS.2.1) (And.intro (cQ hb5 hS.2.2.1) (And.intro (cQ hb5 hS.2.2.2.1) (And.intro (cQ hb5 hS.2.2.2.2.1) (And.intro (cQ hb5 hS.2.2.2.2.2.1) (cQ hb5 hS.2.2.2.2.2.2))))));have HB5:=Lh (bQ HBd.out hb5);have HB52:=Lh (bQ HB2d.out hb5);refine V hK hS5 ?_;clear hK K;refine wpAnyH_done (by kernel_rfl) ?_ _;clear hS hS5 hb5;cases bz with
       |true=>
        have hz:z∈x.g.m.ports:=of_decide_eq_true hbz;have HV:Hid (Gp.busyB G m=true):=Lh (HY.out x HX.out.2.1 (by
         show(Gp.busyP x.g m||Gp.busyX x.g m)=true
         rw[Bool.or_eq_true];exact .inl (List.any_eq_true.2 ⟨z,List.mem_of_getElem? HZ.out,by simpa using hz⟩)))
        clear hz hbz;go_wp2;go_ret;exact⟨by rw[HV.out];rfl,bQ HB.out HB5.out⟩
       |false=>
        have HBo:=Lh (of_decide_eq_false hbz);clear hbz;go_wp2;refine⟨⟨k+1,by omega,by go_num,fun j y hj hy=> ?_,HB52.out⟩,by simp[intOf];omega⟩;rcases Nat.lt_or_ge j k with q|q
        ·exact HNk.out j y q hy
        ·obtain rfl:j=k:=by omega
         rw[HZ.out] at hy;cases hy;exact HBo.out
      ·have hk1:¬(k:Int)<m.ports.length:=by omega
       have HPn:Hid (Gp.busyP x.g m=false):=Lh (by
        unfold Gp.busyP;rw[List.any_eq_false];intro y hy;obtain⟨j,hj⟩:=List.getElem?_of_mem hy
        simpa using HNk.out j y (by have:=(List.getElem?_eq_some_iff.1 hj).1;omega) hj)
       have HEnd:Hid (byRel w a.L m (.slice eo m.ext.length ec) (.slice po m.ports.length pc) (.int .i64 ((i:Int)+1)) wr):=Lh ⟨i+1,by omega,by go_num,fun k' y hk' hy=>by
        rcases Nat.lt_or_ge k' i with q|q
        ·exact HNo.out k' y q hy
        ·obtain rfl:k'=i:=by omega
         rw[HX.out.1] at hy;cases hy
         show(Gp.busyP x.g m||Gp.busyX x.g m)=false
         rw[HPn.out,HXn.out];rfl,bQ HB.out HB3.out,HBx.out.below HB3.out⟩
       go_wp2;exact⟨HEnd.out,by simp[intOf];omega⟩
  ·have hi1:¬(i:Int)<a.L.length:=by omega
   have HV:Hid (Gp.busyB G m=false):=Lh (HN.out fun x hx=>by
    obtain⟨k,hk⟩:=List.getElem?_of_mem hx;exact HNo.out k x (by have:=(List.getElem?_eq_some_iff.1 hk).1;omega) hk)
   clear hno hb hbx h1;go_wp2;go_ret;exact⟨by rw[HV.out];rfl,HB.out⟩
end
end Rc
namespace R11
theorem app_ext{W:World}{a:Option Addr}{n cap:Nat}{xs:List Value}(hl:xs.length=n*2)(hc:Cl.At W a xs)(hs:n≤2000000)(h1:∀u,u∈xs→u.oneCell'=true):
  ∃o c W',(Builtin.append_ #[107,107] 107 #[.slice none 0 0,.slice a n cap]).run Tryz.prog W=.ok (.slice o n c) W'∧SlV W' 290 2 (.slice o n c) n xs∧Below W.heap.size W W'∧(∀b,(Value.slice o n c).ownBlock=some b→W.heap.size≤b∧b<W'.heap.size):=by
 obtain⟨i0,hi0,hz0,hz1,hz2⟩:=info_parts Cl.info_ext
 by_cases h0:n=0
 ·subst h0;obtain rfl:xs=[]:=List.length_eq_zero_iff.1 (by omega);refine⟨none,0,W, ?_,SlV.nil _ _ _,Below.refl _ _,fun b hb=>(nomatch hb)⟩;have hu:=Tryz.underlying107;cases a<;>go_simp
 ·obtain⟨u,hu⟩:∃u,xs[0]? =some u:=⟨_,Zg (by omega)⟩;obtain⟨g,off,rfl,_⟩:=hc 0 u hu;obtain⟨v',w',hrun,r1,r2,r3⟩:=(SlV.nil W 290 2).append (P:=Tryz.prog) (t:=107) (bytes:=8) 107 i0 _ Tryz.underlying107 hi0 hz0 hz1 hz2 rfl (by omega) ⟨g,off,none⟩ n cap xs (by omega) hl (fun j u hu=>by
   obtain⟨g',o',e,hcc⟩:=hc j u hu;simp only[Option.some.injEq,Addr.mk.injEq,and_true] at e;obtain⟨rfl,rfl⟩:=e;rw[Addr.add_lit];exact hcc) h1 (by unfold maxLen;omega) (by omega)
  rw[Nat.zero_add,List.nil_append] at r1;obtain⟨o,c,rfl⟩:=r1.form;refine⟨o,c,w',hrun,r1,(r2.mono fun k _ g=>(nomatch g):Mod (fun _=>False) W w').toBelow,fun b hb=> ?_⟩;rcases r3 with g|⟨k,g,gk⟩
  ·rw[g] at hb;exact(nomatch hb)
  ·rw[g] at hb;cases hb;obtain⟨q,hq,hql⟩:=r1.lt (by omega);rw[g] at hq;cases hq;exact⟨gk,hql⟩
theorem app_u16{W:World}{a:Option Addr}{n cap:Nat}{xs:List Value}(hl:xs.length=n*1)(hc:Cl.At W a xs)(hs:n≤2000000)(h1:∀u,u∈xs→u.oneCell'=true):
  ∃o c W',(Builtin.append_ #[106,106] 106 #[.slice none 0 0,.slice a n cap]).run Tryz.prog W=.ok (.slice o n c) W'∧SlV W' 22 1 (.slice o n c) n xs∧Below W.heap.size W W'∧(∀b,(Value.slice o n c).ownBlock=some b→W.heap.size≤b∧b<W'.heap.size):=by
 obtain⟨i0,hi0,hz0,hz1,hz2⟩:=info_parts Cl.info_u16
 by_cases h0:n=0
 ·subst h0;obtain rfl:xs=[]:=List.length_eq_zero_iff.1 (by omega);refine⟨none,0,W, ?_,SlV.nil _ _ _,Below.refl _ _,fun b hb=>(nomatch hb)⟩;have hu:=Tryz.underlying106;cases a<;>go_simp
 ·obtain⟨u,hu⟩:∃u,xs[0]? =some u:=⟨_,Zg (by omega)⟩;obtain⟨g,off,rfl,_⟩:=hc 0 u hu;obtain⟨v',w',hrun,r1,r2,r3⟩:=(SlV.nil W 22 1).append (P:=Tryz.prog) (t:=106) (bytes:=2) 106 i0 _ Tryz.underlying106 hi0 hz0 hz1 hz2 rfl (by omega) ⟨g,off,none⟩ n cap xs (by omega) hl (fun j u hu=>by
   obtain⟨g',o',e,hcc⟩:=hc j u hu;simp only[Option.some.injEq,Addr.mk.injEq,and_true] at e;obtain⟨rfl,rfl⟩:=e;rw[Addr.add_lit];exact hcc) h1 (by unfold maxLen;omega) (by omega)
  rw[Nat.zero_add,List.nil_append] at r1;obtain⟨o,c,rfl⟩:=r1.form;refine⟨o,c,w',hrun,r1,(r2.mono fun k _ g=>(nomatch g):Mod (fun _=>False) W w').toBelow,fun b hb=> ?_⟩;rcases r3 with g|⟨k,g,gk⟩
  ·rw[g] at hb;exact(nomatch hb)
  ·rw[g] at hb;cases hb;obtain⟨q,hq,hql⟩:=r1.lt (by omega);rw[g] at hq;cases hq;exact⟨gk,hql⟩
theorem wpList_append_run{P:Program}{w w':World}{ops:Array Oper}{rest:List Oper}{o:Oper}{ac:Act}{Q:Exit→Act→World→Prop}(hgd:o.guard=none)(sl x:Operand)(t:TypeId)
  (ho:o.op=.call { callee:=.builtin .append,args:= #[sl,x],argTypes:= #[t,t] }) {v y v':Value} (hs:ac.eval sl=v) (hx:ac.eval x=y) (hrun:(Builtin.append_ #[t,t] o.type #[v,y]).run P w=.ok v' w')
  (hK:wpList P ops Q rest (ac.put o.dst v') w'):wpList P ops Q (o::rest) ac w:=by
 refine wpList_plain hgd fun K hK'=> ?_
 unfold Oper.wp;simp[execOp,ho,resolve,invoke,builtin,hs,hx,hrun,Result.andThen];exact hK' _ _ hK
def CopyPost(w:World)(m:Mn)(e:Ending)(w':World):Prop:=
 ∃ev pv,e=.returned (.agg (m.cells ev pv))∧MnAt w' ev pv m∧(∀k,ev.ownBlock=some k∨pv.ownBlock=some k→w.heap.size≤k∧k<w'.heap.size)∧Below w.heap.size w w'
theorem copy{w:World}{m:Mn}{ev pv:Value}(hm:MnIn w ev pv m)(he:m.ext.length≤2000000)(hp:m.ports.length≤2000000):
  Calls Tryz.prog 93 #[.agg (m.cells ev pv)] w (CopyPost w m):=by
 obtain⟨eo,ec,rfl⟩:=hm.e.form;obtain⟨po,pc,rfl⟩:=hm.p.form;have hb0:Below w.heap.size w (w.alloc (.cells (m.cells (.slice eo m.ext.length ec) (.slice po m.ports.length pc)) 109)):=Ba _;have hb1:=hb0.alloc hb0.size (.cells #[.int .u32 0,.slice none 0 0,.slice none 0 0,.bool false] 109);have hk0:((w.alloc (.cells (m.cells (.slice eo m.ext.length ec) (.slice po m.ports.length pc)) 109)).alloc (.cells #[.int .u32 0,.slice none 0 0,.slice none 0 0,.bool false] 109)).heap[w.heap.size]? =some (.cells (m.cells (.slice eo m.ext.length ec) (.slice po m.ports.length pc)) 109):=(Below.heap_alloc _ _ _ (lQ (heap_alloc_new w _))).trans (heap_alloc_new w _);have hk1:=heap_alloc_new (w.alloc (.cells (m.cells (.slice eo m.ext.length ec) (.slice po m.ports.length pc)) 109)) (.cells #[.int .u32 0,.slice none 0 0,.slice none 0 0,.bool false] 109);rw[show(w.alloc (.cells (m.cells (.slice eo m.ext.length ec) (.slice po m.ports.length pc)) 109)).heap.size=w.heap.size+1 by simp] at hk1;have HM:=Lh fun V (hV:Below w.heap.size w V)=>hm.below hV
 unfold Mn.cells at*;obtain⟨W2,hW2⟩:∃W2,W2=(w.alloc (.cells #[.int .u32 m.pages,.slice eo m.ext.length ec,.slice po m.ports.length pc,.bool m.con] 109)).alloc (.cells #[.int .u32 0,.slice none 0 0,.slice none 0 0,.bool false] 109):=⟨_,rfl⟩;rw[←hW2] at hb1 hk0 hk1;obtain⟨o1,oc1,W3,hr1,hs1,hb3,ho1⟩:=app_ext (cap:=ec) (extC_length _) (rw_at (HM.out W2 hb1).e) he (one_ext _);have hk0':=(hb3.block _ (lQ hk0)).trans hk0;have hk1':=(hb3.block _ (lQ hk1)).trans hk1;have hbw3:=bQ hb1 hb3;have hz2:=hb3.size;have l0:=lQ hk0;have l1:=lQ hk1;have hm4:Mod (fun i=>i=w.heap.size) W3 (W3.setCell ⟨w.heap.size,1,none⟩ (.slice o1 m.ext.length oc1)):=Mod.setCell (F:=fun i=>i=w.heap.size) (Mod.refl _ _) ⟨w.heap.size,1,none⟩ (.inl rfl) _;have hk04:=heap_setCell_same W3 w.heap.size 1 _ _ (.slice o1 m.ext.length oc1) hk0';have hk14:=(hm4.block _ (lQ hk1') (by omega)).trans hk1';have hbw4:=Mod.below hbw3 hm4 hbw3.size fun k _ hk=>Nat.le_of_eq hk.symm
 have hz4:(W3.setCell ⟨w.heap.size,1,none⟩ (.slice o1 m.ext.length oc1)).heap.size=W3.heap.size:=by simp[World.setCell]
 have hs14:=hs1.mod hm4 fun k hk e=>by have:=(ho1 k hk).1;omega
 obtain⟨W4,hW4⟩:∃W4,W4=W3.setCell ⟨w.heap.size,1,none⟩ (.slice o1 m.ext.length oc1):=⟨_,rfl⟩;rw[←hW4] at hk04 hk14 hbw4 hz4 hs14;obtain⟨o2,oc2,W5,hr2,hs2,hb5,ho2⟩:=app_u16 (cap:=pc) (by simp) (rw_at (HM.out W4 hbw4).p) hp (one_u16 _);have hk05:=(hb5.block _ (lQ hk04)).trans hk04;have hk15:=(hb5.block _ (lQ hk14)).trans hk14;obtain⟨c0,c1,c2,c3,cf⟩:=man_cells hk0;obtain⟨d0,d1,d2,d3,df⟩:=man_cells (m:=m) (ev:=.slice eo m.ext.length ec) (pv:=.slice po m.ports.length pc) hk0';obtain⟨e0,e1,e2,e3,ef⟩:=man_cells (m:=m) (ev:=.slice o1 m.ext.length oc1) (pv:=.slice po m.ports.length pc) hk04;obtain⟨f0,f1,f2,f3,ff⟩:=man_cells (m:=m) (ev:=.slice o1 m.ext.length oc1) (pv:=.slice po m.ports.length pc) hk05;have hl5:=lQ hk15;have hm6:Mod (fun i=>i=w.heap.size) W5 (W5.setCell ⟨w.heap.size,2,none⟩ (.slice o2 m.ports.length oc2)):=Mod.setCell (F:=fun i=>i=w.heap.size) (Mod.refl _ _) ⟨w.heap.size,2,none⟩ (.inl rfl) _;have hk16:=(hm6.block _ hl5 (by omega)).trans hk15;have g0:(W5.setCell ⟨w.heap.size,2,none⟩ (.slice o2 m.ports.length oc2)).cell? ⟨w.heap.size+1,0,none⟩=some (.int .u32 0):=by unfold World.cell?;rw[hk16];rfl
 have g1:(W5.setCell ⟨w.heap.size,2,none⟩ (.slice o2 m.ports.length oc2)).cell? ⟨w.heap.size+1,1,none⟩=some (.slice none 0 0):=by unfold World.cell?;rw[hk16];rfl
 have g2:(W5.setCell ⟨w.heap.size,2,none⟩ (.slice o2 m.ports.length oc2)).cell? ⟨w.heap.size+1,2,none⟩=some (.slice none 0 0):=by unfold World.cell?;rw[hk16];rfl
 have g3:(W5.setCell ⟨w.heap.size,2,none⟩ (.slice o2 m.ports.length oc2)).cell? ⟨w.heap.size+1,3,none⟩=some (.bool false):=by unfold World.cell?;rw[hk16];rfl
 have gf:∀i,(W5.setCell ⟨w.heap.size,2,none⟩ (.slice o2 m.ports.length oc2)).frozen? ⟨w.heap.size+1,i,none⟩=false:=fun i=>by unfold World.frozen?;rw[hk16];simp
 have hz6:(W5.setCell ⟨w.heap.size,2,none⟩ (.slice o2 m.ports.length oc2)).heap.size=W5.heap.size:=by simp[World.setCell]
 have HG:=Lh (And.intro hk16 (And.intro hm6 hz6));clear hk16 hm6 hz6 hl5;rw[hW2] at hr1 c0 c1 c2 c3;rw[hW4] at hr2 e0 e1 e2 e3;have H1:=Lh hr1;have H2:=Lh hr2;have df1:=df 1;have ff2:=ff 2;have HK:=Lh (And.intro hk05 hk15);have HS:=Lh (And.intro hs14 (And.intro hs2 (And.intro ho1 ho2)));have HZ:=Lh (And.intro hb5 (And.intro hbw4 (And.intro hz4 (And.intro hz2 (And.intro l0 l1)))));clear hr1 hr2 hk0 hk1 hk0' hk1' hk04 hk14 hk05 hk15 hs1 hs14 hs2 ho1 ho2 hb0 hb1 hb3 hb5 hbw3 hbw4 hm4 hz2 hz4 l0 l1 cf df ef ff HM hm he hp;go_enter func93,ntmps93;go_wp2_with (at_builtin;first|refine wpList_append_run rfl _ _ _ rfl rfl rfl H1.out ?_|refine wpList_append_run rfl _ _ _ rfl rfl rfl H2.out ?_);clear c0 c1 c2 c3 d0 d1 d2 d3 e0 e1 e2 e3 f0 f1 f2 f3 g0 g1 g2 g3 gf df1 ff2;obtain⟨hk16,hm6,hz6⟩:=HG.out;have k1:=heap_setCell_same _ (w.heap.size+1) 3 _ _ (.bool m.con) (heap_setCell_same _ (w.heap.size+1) 2 _ _ (.slice o2 m.ports.length oc2) (heap_setCell_same _ (w.heap.size+1) 1 _ _ (.slice o1 m.ext.length oc1) (heap_setCell_same _ (w.heap.size+1) 0 _ _ (.int .u32 m.pages) hk16)));have hm7:Mod (fun i=>i=w.heap.size+1) (W5.setCell ⟨w.heap.size,2,none⟩ (.slice o2 m.ports.length oc2)) (((((W5.setCell ⟨w.heap.size,2,none⟩ (.slice o2 m.ports.length oc2)).setCell ⟨w.heap.size+1,0,none⟩ (.int .u32 m.pages)).setCell ⟨w.heap.size+1,1,none⟩ (.slice o1 m.ext.length oc1)).setCell ⟨w.heap.size+1,2,none⟩ (.slice o2 m.ports.length oc2)).setCell ⟨w.heap.size+1,3,none⟩ (.bool m.con)):=
  Mod.setCell (F:=fun i=>i=w.heap.size+1) (Mod.setCell (F:=fun i=>i=w.heap.size+1) (Mod.setCell (F:=fun i=>i=w.heap.size+1) (Mod.setCell (F:=fun i=>i=w.heap.size+1) (Mod.refl _ _) ⟨w.heap.size+1,0,none⟩ (.inl rfl) _) ⟨w.heap.size+1,1,none⟩ (.inl rfl) _) ⟨w.heap.size+1,2,none⟩ (.inl rfl) _) ⟨w.heap.size+1,3,none⟩ (.inl rfl) _
 generalize (((((W5.setCell ⟨w.heap.size,2,none⟩ (.slice o2 m.ports.length oc2)).setCell ⟨w.heap.size+1,0,none⟩ (.int .u32 m.pages)).setCell ⟨w.heap.size+1,1,none⟩ (.slice o1 m.ext.length oc1)).setCell ⟨w.heap.size+1,2,none⟩ (.slice o2 m.ports.length oc2)).setCell ⟨w.heap.size+1,3,none⟩ (.bool m.con))=W7 at*;obtain⟨q0,q1,q2,q3,_⟩:=man_cells (m:=m) (ev:=.slice o1 m.ext.length oc1) (pv:=.slice o2 m.ports.length oc2) k1;obtain⟨hs14,hs2,ho1,ho2⟩:=HS.out;obtain⟨hb5,hbw4,hz4,hz2,l0,l1⟩:=HZ.out;have z5:=hb5.size;have z7:=hm7.size;have hpost:CopyPost w m (.returned (.agg #[.int .u32 m.pages,.slice o1 m.ext.length oc1,.slice o2 m.ports.length oc2,.bool m.con])) W7:=by
  refine⟨.slice o1 m.ext.length oc1,.slice o2 m.ports.length oc2,rfl,⟨((hs14.below hb5).mod hm6 fun k hk e=> ?_).mod hm7 fun k hk e=> ?_,(hs2.mod hm6 fun k hk e=> ?_).mod hm7 fun k hk e=> ?_⟩,fun k hk=> ?_,Mod.below (Mod.below (bQ hbw4 hb5) hm6 (bQ hbw4 hb5).size fun k _ hk=>Nat.le_of_eq hk.symm) hm7 (by omega) fun k _ hk=>by omega⟩
  ·have:=(ho1 k hk).1;omega
  ·have:=(ho1 k hk).1;omega
  ·have:=(ho2 k hk).1;omega
  ·have:=(ho2 k hk).1;omega
  ·rcases hk with hk|hk
   ·have:=ho1 k hk;omega
   ·have:=ho2 k hk;omega
 clear hs14 hs2 ho1 ho2 hb5 hbw4 hm6 hm7 k1 hk16;exact bodyPost_ret (v:=.agg #[.int .u32 m.pages,.slice o1 m.ext.length oc1,.slice o2 m.ports.length oc2,.bool m.con]) (by simp[results,Tryz.results93,go_sem, *]) rfl hpost
end R11
namespace Rw
section
variable {W:World} {t e:TypeId} {i0:TypeInfo} {z:Value} {s bytes:Nat}
def None(t:TypeId):Prop:=∀(W:World) (o:Option Addr) (n c:Nat) (a:Option Addr) (cap:Nat),n≤c→(Builtin.append_ #[t,t] t #[.slice o n c,.slice a 0 cap]).run Tryz.prog W=.ok (.slice o n c) W
theorem none_gr:None 298:=fun W o n c a cap hnc=>by
 have hu:=Tryz.underlying298;cases a<;>cases o<;>go_simp
theorem _root_.Go.Proofs.YtnpicaigdfnmfaaGreat.SlV.ncap{w:World}{e:TypeId}{s n c:Nat}{o:Option Addr}{xs:List Value}(h:SlV w e s (.slice o n c) n xs):n≤c:=by
 rcases h.2 with⟨h0,_⟩|⟨g,off,cap,cur,hv,hg,h1,_⟩
 ·omega
 ·cases hv;omega
theorem app(hno:None t)(ht:Tryz.prog.underlying t=some (.slice e))(hi:Tryz.prog.info? e=some i0)(hz:i0.zero=some z)(hsz:i0.size=s)(hby:i0.bytes=bytes)(hzs:z.cells.size=s)(hs0:0<s)(hb8:bytes≤1000)
  {o:Option Addr} {n c:Nat} {xs:List Value} (h:SlV W e s (.slice o n c) n xs) {a:Option Addr} {m cap:Nat} {ys:List Value} (hl:ys.length=m*s) (hc:Cl.At W a ys) (hn:n+m≤2000000) (h1:∀u,u∈ys→u.oneCell'=true):
  ∃o' c' W',(Builtin.append_ #[t,t] t #[.slice o n c,.slice a m cap]).run Tryz.prog W=.ok (.slice o' (n+m) c') W'∧SlV W' e s (.slice o' (n+m) c') (n+m) (xs++ys)∧Mod (fun k=>(Value.slice o n c).ownBlock=some k) W W'∧((Value.slice o' (n+m) c').ownBlock=(Value.slice o n c).ownBlock∨∃k,(Value.slice o' (n+m) c').ownBlock=some k∧W.heap.size≤k∧k<W'.heap.size):=by
 by_cases h0:m=0
 ·subst h0;obtain rfl:ys=[]:=List.length_eq_zero_iff.1 (by omega);exact⟨o,c,W,hno W o n c a cap h.ncap,by rw[List.append_nil];exact h,Mod.refl _ _,.inl rfl⟩
 ·have hm:0<m:=by omega
  have hms:0<m*s:=Nat.mul_pos hm hs0;obtain⟨u,hu⟩:∃u,ys[0]? =some u:=⟨_,Zg (by omega)⟩;obtain⟨g,off,rfl,_⟩:=hc 0 u hu;have hbb:(n+m)*bytes≤140737488355328:=Nat.le_trans (Nat.mul_le_mul (show n+m≤2000000 from hn) hb8) (by decide);obtain⟨v',w',hrun,r1,r2,r3⟩:=h.append (P:=Tryz.prog) (t:=t) (bytes:=bytes) t i0 z ht hi hz hsz hby hzs hs0 ⟨g,off,none⟩ m cap ys hm hl (fun j u hu=>by
   obtain⟨g',o',e',hcc⟩:=hc j u hu;simp only[Option.some.injEq,Addr.mk.injEq,and_true] at e';obtain⟨rfl,rfl⟩:=e';rw[Addr.add_lit];exact hcc) h1 (by unfold maxLen;omega) hbb
  obtain⟨o',c',rfl⟩:=r1.form;refine⟨o',c',w',hrun,r1,r2, ?_⟩;rcases r3 with q|⟨k,q,qk⟩
  ·exact .inl q
  ·refine .inr ⟨k,q,qk, ?_⟩;obtain⟨k',hk',hkl⟩:=r1.lt (by omega);rw[q] at hk';cases hk';exact hkl
theorem at_part{o:Option Addr}{n c:Nat}{xs:List Value}(h:SlV W e s (.slice o n c) n xs){g off:Nat}(ho:o=some ⟨g,off,none⟩)(i j:Nat)(hij:i≤j)(hj:j≤n):Cl.At W (some ⟨g,off+i*s,none⟩) ((xs.drop (i*s)).take ((j - i)*s)):=fun k u hu=>by
 have hk:=(List.getElem?_eq_some_iff.1 hu).1;have hkl:k<(j - i)*s:=by rw[List.length_take] at hk;omega
 rw[List.getElem?_take_of_lt hkl,List.getElem?_drop] at hu;refine⟨g,off+i*s,rfl, ?_⟩;subst ho;have hb:i*s+k<n*s:=by
  have h2:(j - i)*s=j*s - i*s:=Nat.sub_mul ..;have h3:j*s≤n*s:=Nat.mul_le_mul_right _ hj;omega
 rw[Nat.add_assoc,h.cell (i*s+k) hb];exact hu
end
end Rw
namespace R11
theorem drewN_below{B:Nat}{a w:World}(h:Below B a w)(n:Nat):Below B a (w.drewN n):=h.trans ⟨rfl,rfl,rfl,Nat.le_refl _,fun _ _=>rfl⟩
def eOk(l:List (Int×Int))(k:Nat):Prop:=∀x,l[k]? =some x→Gp.badX x=false∧∀y,0<k→l[k - 1]? =some y→y.1<x.1
def pOk(l:List Int)(k:Nat):Prop:=∀x,l[k]? =some x→x≠0∧∀y,0<k→l[k - 1]? =some y→y<x
def eRel(w:World)(m:Mn)(vi:Value)(wr:World):Prop:=∃i:Nat,i≤m.ext.length∧vi=.int .i64 i∧(∀k,k<i→eOk m.ext k)∧Below w.heap.size w wr
def pRel(w:World)(m:Mn)(vi:Value)(wr:World):Prop:=∃i:Nat,i≤m.ports.length∧vi=.int .i64 i∧(∀k,k<i→pOk m.ports k)∧Below w.heap.size w wr
theorem may_ext{m:Mn}{k:Nat}(h:¬eOk m.ext k):Gp.mayM m=false:=by
 cases hm:Gp.mayM m with
 |false=>rfl
 |true=>
  exfalso
  unfold Gp.mayM at hm;simp only[Bool.and_eq_true,Bool.not_eq_true'] at hm;refine h fun x hx=>⟨?_,fun y hk hy=> ?_⟩
  ·have:=hm.1.1.1.1.1;rw[List.any_eq_false] at this
   simpa using this x (List.mem_of_getElem? hx)
  ·have:=(Gp.risesB_iff _ m.ext).1 hm.1.1.1.1.2 (k - 1) y x hy (by rw[show k - 1+1=k by omega];exact hx)
   simpa using this
theorem may_port{m:Mn}{k:Nat}(h:¬pOk m.ports k):Gp.mayM m=false:=by
 cases hm:Gp.mayM m with
 |false=>rfl
 |true=>
  exfalso
  unfold Gp.mayM at hm;simp only[Bool.and_eq_true,Bool.not_eq_true'] at hm;refine h fun x hx=>⟨fun e=> ?_,fun y hk hy=> ?_⟩
  ·have:=hm.1.1.2;simp at this;exact this (e▸List.mem_of_getElem? hx)
  ·have:=(Gp.risesB_iff _ m.ports).1 hm.1.1.1.2 (k - 1) y x hy (by rw[show k - 1+1=k by omega];exact hx)
   simpa using this
theorem may_all{m:Mn}(h1:∀k,k<m.ext.length→eOk m.ext k)(h2:∀k,k<m.ports.length→pOk m.ports k):Gp.mayM m=(decide (m.pages≤1024)&&decide (m.ports.length≤16)):=by
 unfold Gp.mayM;have a1:m.ext.any Gp.badX=false:=by
  rw[List.any_eq_false];intro x hx;obtain⟨k,hk⟩:=List.getElem?_of_mem hx;have:=(h1 k (List.getElem?_eq_some_iff.1 hk).1 x hk).1;simp[this]
 have a2:Gp.risesB (fun a b:Int×Int=>decide (a.1<b.1)) m.ext=true:=(Gp.risesB_iff _ _).2 fun k x y hx hy=>by
  have:=(h1 (k+1) (List.getElem?_eq_some_iff.1 hy).1 y hy).2 x (by omega) hx
  simpa using this
 have a3:Gp.risesB (fun a b:Int=>decide (a<b)) m.ports=true:=(Gp.risesB_iff _ _).2 fun k x y hx hy=>by
  have:=(h2 (k+1) (List.getElem?_eq_some_iff.1 hy).1 y hy).2 x (by omega) hx
  simpa using this
 have a4:decide ((0:Int)∈m.ports)=false:=by
  rw[decide_eq_false_iff_not];intro hx;obtain⟨k,hk⟩:=List.getElem?_of_mem hx;exact(h2 k (List.getElem?_eq_some_iff.1 hk).1 0 hk).1 rfl
 rw[a1,a2,a3,a4];simp[Bool.and_comm]
theorem may{w:World}{m:Mn}{ev pv:Value}(hm:MnIn w ev pv m)(hok:m.ok):Calls Tryz.prog 193 #[.agg (m.cells ev pv)] w fun e w'=>e=.returned (.bool (Gp.mayM m))∧Below w.heap.size w w':=by
 obtain⟨eo,ec,rfl⟩:=hm.e.form;obtain⟨po,pc,rfl⟩:=hm.p.form;have hel:=rw_len hm.e;have hpl:=rw_len hm.p;unfold maxLen at hel hpl;have hb:=(Below.refl w.heap.size w).alloc (Nat.le_refl _) (.cells (m.cells (.slice eo m.ext.length ec) (.slice po m.ports.length pc)) 109);have hblk:=heap_alloc_new w (.cells (m.cells (.slice eo m.ext.length ec) (.slice po m.ports.length pc)) 109);have HM:=Lh fun V (hV:Below w.heap.size w V)=>hm.below hV
 have HOk:=Lh hok;unfold Mn.cells at*;have HB:=Lh hb;have HC:=Lh fun V (hV:Below (w.alloc (.cells #[.int .u32 m.pages,.slice eo m.ext.length ec,.slice po m.ports.length pc,.bool m.con] 109)).heap.size (w.alloc (.cells #[.int .u32 m.pages,.slice eo m.ext.length ec,.slice po m.ports.length pc,.bool m.con] 109)) V)=>man_cells (m:=m) ((hV.block _ (lQ hblk)).trans hblk)
 have HR0:Hid (eRel (w.alloc (.cells #[.int .u32 m.pages,.slice eo m.ext.length ec,.slice po m.ports.length pc,.bool m.con] 109)) m (.int .i64 0) (w.alloc (.cells #[.int .u32 m.pages,.slice eo m.ext.length ec,.slice po m.ports.length pc,.bool m.con] 109))):=Lh ⟨0,by omega,rfl,fun k hk=>absurd hk (Nat.not_lt_zero _),Below.refl _ _⟩;have HFin:Hid (∀V b,Gp.mayM m=b→Below (w.alloc (.cells #[.int .u32 m.pages,.slice eo m.ext.length ec,.slice po m.ports.length pc,.bool m.con] 109)).heap.size (w.alloc (.cells #[.int .u32 m.pages,.slice eo m.ext.length ec,.slice po m.ports.length pc,.bool m.con] 109)) V→(fun e w'=>e=Ending.returned (.bool (Gp.mayM m))∧Below w.heap.size w w') (.returned (.bool b)) V):=Lh fun V b h1 h2=>⟨by rw[h1],bQ HB.out h2⟩
 generalize (fun e w'=>e=Ending.returned (.bool (Gp.mayM m))∧Below w.heap.size w w')=PQ at*;clear hb hblk hm hok;generalize hw1:w.alloc (.cells #[.int .u32 m.pages,.slice eo m.ext.length ec,.slice po m.ports.length pc,.bool m.con] 109)=w1 at*;go_enter func193,ntmps193;go_wp2;try rw[hw1]
 clear hw1;go_loopw [3,4] (fun vi _ wr=>eRel w1 m vi wr) (fun vi _ _=>m.ext.length - (intOf vi).toNat)
 case atStart=>exact HR0.out
 case round=>
  clear HR0;obtain⟨i,hi,rfl,hall,hbw⟩:=hrel;have HAll:=Lh hall;have HBw:=Lh hbw;obtain⟨c0,c1,c2,c3,cf⟩:=HC.out wr hbw
  by_cases hin:i<m.ext.length
  ·obtain⟨x,hx⟩:∃x,m.ext[i]? =some x:=⟨_,Zg hin⟩;obtain⟨g,off,rfl,k0,k1⟩:=ext_cellsR (HM.out wr (bQ HB.out hbw)).e hx;have hok:=HOk.out.e x (List.mem_of_getElem? hx);obtain⟨x0,x1⟩:=x;obtain⟨b0,b1,b2,b3⟩:=hok;have HX:=Lh hx;have hi1:(i:Int)<m.ext.length:=by omega
   clear hall hbw hx
   by_cases d1:16≤x0
   ·have e1:decide (16≤x0)=true:=decide_eq_true d1;have hend:=fun V=>HFin.out V false (may_ext (k:=i) fun h=>by have:=(h _ HX.out).1;simp[Gp.badX] at this;omega)
    have HEnd:=Lh hend;clear hend;go_wp2;go_quiet (fail);go_wp2;exact HEnd.out _ (drewN_below (HBw.out.alloc HBw.out.size _) _)
   have e1:decide (16≤x0)=false:=decide_eq_false d1
   by_cases d2:x1<1
   ·have e2:decide (x1<1)=true:=decide_eq_true d2;have hend:=fun V=>HFin.out V false (may_ext (k:=i) fun h=>by have:=(h _ HX.out).1;simp[Gp.badX] at this;omega)
    have HEnd:=Lh hend;clear hend;go_wp2;go_quiet (fail);go_wp2;exact HEnd.out _ (drewN_below (HBw.out.alloc HBw.out.size _) _)
   have e2:decide (x1<1)=false:=decide_eq_false d2
   by_cases d3:1024<x1
   ·have e3:decide (1024<x1)=true:=decide_eq_true d3;have hend:=fun V=>HFin.out V false (may_ext (k:=i) fun h=>by have:=(h _ HX.out).1;simp[Gp.badX] at this;omega)
    have HEnd:=Lh hend;clear hend;go_wp2;go_quiet (fail);go_wp2;exact HEnd.out _ (drewN_below (HBw.out.alloc HBw.out.size _) _)
   have e3:decide (1024<x1)=false:=decide_eq_false d3;have HGd:Hid (Gp.badX (x0,x1)=false):=Lh (by simp[Gp.badX];omega)
   by_cases d4:i=0
   ·have e4:decide ((0:Int)<i)=false:=decide_eq_false (by omega);have e4n:decide (0<i)=false:=decide_eq_false (by omega);have HS:Hid (eOk m.ext i):=Lh (fun x hx=>by rw[HX.out] at hx;cases hx;exact⟨HGd.out,fun y hk=>by omega⟩);clear d4;go_wp2;go_quiet (fail);go_wp2;refine⟨⟨i+1,by omega,by go_num,fun k hk=> ?_,drewN_below (HBw.out.alloc HBw.out.size _) _⟩,by simp[intOf];omega⟩;rcases Nat.lt_or_ge k i with q|q
    ·exact HAll.out k q
    ·obtain rfl:k=i:=by omega
     exact HS.out
   have e4:decide ((0:Int)<i)=true:=decide_eq_true (by omega);have e4n:decide (0<i)=true:=decide_eq_true (by omega);obtain⟨y,hy⟩:∃y,m.ext[i - 1]? =some y:=⟨_,Zg (by omega)⟩;obtain⟨g',off',hgo,k2,k3⟩:=ext_cellsR (HM.out wr (bQ HB.out HBw.out)).e hy;obtain⟨rfl,rfl⟩:g=g'∧off=off':=by simpa using hgo
   have hw:IntKind.i64.wrap ((i:Int) - 1)=((i - 1:Nat):Int):=by rw[IntKind.wrap_i64];omega
   have HY:=Lh hy;clear hy hgo;obtain⟨y0,y1⟩:=y;have hj0:(0:Int)≤((i - 1:Nat):Int):=by omega
   have hj1:((i - 1:Nat):Int)<m.ext.length:=by omega
   obtain⟨j,hj⟩:∃j,i - 1=j:=⟨_,rfl⟩;rw[hj] at k2 k3 hw hj0 hj1 HY
   by_cases d5:x0≤y0
   ·have e5:decide (x0≤y0)=true:=decide_eq_true d5;have hend:=fun V=>HFin.out V false (may_ext (k:=i) fun h=>by have:=(h _ HX.out).2 _ (by omega) (by rw[hj];exact HY.out);simp at this;omega)
    have HEnd:=Lh hend;clear hend d5 hj d4;have hbk:=heap_alloc_new wr (.cells #[.int .u32 x0,.int .u32 x1] 290);have hal:=(Below.refl wr.heap.size wr).alloc (Nat.le_refl _) (.cells #[.int .u32 x0,.int .u32 x1] 290);obtain⟨z0,z1,zf⟩:=two_of hbk;have k2':=cQ hal k2;have c1':=cQ hal c1;go_wp2;refine B (fun V=>V.cell? ⟨wr.heap.size,0,none⟩=some (.int .u32 x0)∧V.cell? ⟨wr.heap.size,1,none⟩=some (.int .u32 x1)∧V.cell? ⟨w.heap.size,1,none⟩=some (.slice (some ⟨g,off,none⟩) m.ext.length ec)∧V.cell? ⟨g,off+j*2,none⟩=some (.int .u32 y0)) ⟨z0,z1,c1',k2'⟩ fun wd hwd hS=> ?_
    have HWd:Hid (Below w1.heap.size w1 wd):=Lh (by rw[hwd];exact(HBw.out.alloc HBw.out.size _).drew);clear hwd z0 z1 zf k2' c1' hbk hal c0 c1 c2 c3 cf k0 k1 k2 k3;refine T 0 hS ?_;refine T 1 hS ?_;refine T 2 hS ?_;refine T 3 hS ?_;refine T 4 hS ?_;refine T 5 hS ?_;refine T 6 hS ?_;refine T 7 hS ?_;refine T 8 hS ?_;refine T 9 hS ?_;refine T 10 hS ?_;refine T 11 hS ?_;refine T 12 hS ?_;refine T 13 hS ?_;refine T 14 hS ?_;refine T 15 hS ?_;refine T 16 hS ?_;refine T 17 hS ?_;refine T 18 hS ?_;refine T 19 hS ?_;refine T 20 hS ?_;refine T 21 hS ?_;refine T 22 hS ?_;refine T 23 hS ?_;refine T 24 hS ?_;refine T 25 hS ?_;refine T 26 hS ?_;refine T 27 hS ?_;refine T 28 hS ?_;refine wpAnyH_done (by kernel_rfl) ?_ _;clear hS;go_wp2;exact HEnd.out _ HWd.out
   ·have e5:decide (x0≤y0)=false:=decide_eq_false d5;have HS:Hid (eOk m.ext i):=Lh (fun x hx=>by rw[HX.out] at hx;cases hx;exact⟨HGd.out,fun y hk hy=>by rw[hj,HY.out] at hy;cases hy;show y0<x0;omega⟩);clear d5 hj d4;have hbk:=heap_alloc_new wr (.cells #[.int .u32 x0,.int .u32 x1] 290);have hal:=(Below.refl wr.heap.size wr).alloc (Nat.le_refl _) (.cells #[.int .u32 x0,.int .u32 x1] 290);obtain⟨z0,z1,zf⟩:=two_of hbk;have k2':=cQ hal k2;have c1':=cQ hal c1;go_wp2;refine B (fun V=>V.cell? ⟨wr.heap.size,0,none⟩=some (.int .u32 x0)∧V.cell? ⟨wr.heap.size,1,none⟩=some (.int .u32 x1)∧V.cell? ⟨w.heap.size,1,none⟩=some (.slice (some ⟨g,off,none⟩) m.ext.length ec)∧V.cell? ⟨g,off+j*2,none⟩=some (.int .u32 y0)) ⟨z0,z1,c1',k2'⟩ fun wd hwd hS=> ?_
    have HWd:Hid (Below w1.heap.size w1 wd):=Lh (by rw[hwd];exact(HBw.out.alloc HBw.out.size _).drew);clear hwd z0 z1 zf k2' c1' hbk hal c0 c1 c2 c3 cf k0 k1 k2 k3;refine T 0 hS ?_;refine T 1 hS ?_;refine T 2 hS ?_;refine T 3 hS ?_;refine T 4 hS ?_;refine T 5 hS ?_;refine T 6 hS ?_;refine T 7 hS ?_;refine T 8 hS ?_;refine T 9 hS ?_;refine T 10 hS ?_;refine T 11 hS ?_;refine T 12 hS ?_;refine T 13 hS ?_;refine T 14 hS ?_;refine T 15 hS ?_;refine T 16 hS ?_;refine T 17 hS ?_;refine T 18 hS ?_;refine T 19 hS ?_;refine T 20 hS ?_;refine T 21 hS ?_;refine T 22 hS ?_;refine T 23 hS ?_;refine T 24 hS ?_;refine T 25 hS ?_;refine T 26 hS ?_;refine T 27 hS ?_;refine T 28 hS ?_;refine wpAnyH_done (by kernel_rfl) ?_ _;clear hS;go_wp2;refine⟨⟨i+1,by omega,by go_num,fun k hk=> ?_,HWd.out⟩,by simp[intOf];omega⟩;rcases Nat.lt_or_ge k i with q|q
    ·exact HAll.out k q
    ·obtain rfl:k=i:=by omega
     exact HS.out
  ·have hi1:¬(i:Int)<m.ext.length:=by omega
   have HEx:Hid (∀k,k<m.ext.length→eOk m.ext k):=Lh fun k hk=>hall k (by omega)
   have HP0:Hid (pRel w1 m (.int .i64 0) wr):=Lh ⟨0,by omega,rfl,fun k hk=>absurd hk (Nat.not_lt_zero _),hbw⟩;clear hall hbw HAll HBw;go_wp2;clear c0 c1 c2 c3 cf hi1 hi hin;go_loopw [5] (fun vi V=>pRel w1 m vi V) (fun vi _=>m.ports.length - (intOf vi).toNat)
   case atStart=>exact HP0.out
   case round=>
    clear HP0;obtain⟨i,hi,rfl,hall,hbw⟩:=hrel;have HAll:=Lh hall;have HBw:=Lh hbw;obtain⟨c0,c1,c2,c3,cf⟩:=HC.out _ hbw
    by_cases hin:i<m.ports.length
    ·obtain⟨x,hx⟩:∃x,m.ports[i]? =some x:=⟨_,Zg hin⟩;obtain⟨g,off,rfl,k0⟩:=u16_cellR (HM.out _ (bQ HB.out hbw)).p hx;have HX:=Lh hx;have hi1:(i:Int)<m.ports.length:=by omega
     clear hall hbw hx
     by_cases d1:x=0
     ·subst d1;have hend:=fun V=>HFin.out V false (may_port (k:=i) fun h=>(h _ HX.out).1 rfl)
      have HEnd:=Lh hend;clear hend;go_wp2;go_quiet (fail);go_wp2;exact HEnd.out _ (drewN_below HBw.out _)
     have e1:(x == 0)=false:=beq_eq_false_iff_ne.2 d1;have HD1:=Lh d1;clear d1
     by_cases d4:i=0
     ·have e4:decide ((0:Int)<i)=false:=decide_eq_false (by omega);have e4n:decide (0<i)=false:=decide_eq_false (by omega);have HS:Hid (pOk m.ports i):=Lh (fun x hx=>by rw[HX.out] at hx;cases hx;exact⟨HD1.out,fun y hk=>by omega⟩);clear d4;go_wp2;go_quiet (fail);go_wp2;refine⟨⟨i+1,by omega,by go_num,fun k hk=> ?_,drewN_below HBw.out _⟩,by simp[intOf];omega⟩;rcases Nat.lt_or_ge k i with q|q
      ·exact HAll.out k q
      ·obtain rfl:k=i:=by omega
       exact HS.out
     have e4:decide ((0:Int)<i)=true:=decide_eq_true (by omega);have e4n:decide (0<i)=true:=decide_eq_true (by omega);obtain⟨y,hy⟩:∃y,m.ports[i - 1]? =some y:=⟨_,Zg (by omega)⟩;obtain⟨g',off',hgo,k2⟩:=u16_cellR (HM.out _ (bQ HB.out HBw.out)).p hy;obtain⟨rfl,rfl⟩:g=g'∧off=off':=by simpa using hgo
     have hw:IntKind.i64.wrap ((i:Int) - 1)=((i - 1:Nat):Int):=by rw[IntKind.wrap_i64];omega
     have HY:=Lh hy;clear hy hgo;have hj0:(0:Int)≤((i - 1:Nat):Int):=by omega
     have hj1:((i - 1:Nat):Int)<m.ports.length:=by omega
     obtain⟨j,hj⟩:∃j,i - 1=j:=⟨_,rfl⟩;rw[hj] at k2 hw hj0 hj1 HY;have HJ:=Lh hj;have HI0:Hid (0<i):=Lh (by omega);clear hj d4
     by_cases d5:x≤y
     ·have e5:decide (x≤y)=true:=decide_eq_true d5;have hend:=fun V=>HFin.out V false (may_port (k:=i) fun h=>by have hj:=HJ.out;have:=(h x HX.out).2 y HI0.out (by rw[hj];exact HY.out);exact absurd this (by omega))
      have HEnd:=Lh hend;clear hend d5;go_wp2;refine B (fun V=>V.cell? ⟨w.heap.size,2,none⟩=some (.slice (some ⟨g,off,none⟩) m.ports.length pc)∧V.cell? ⟨g,off+i,none⟩=some (.int .u16 x)∧V.cell? ⟨g,off+j,none⟩=some (.int .u16 y)) ⟨c2,k0,k2⟩ fun wd hwd hS=> ?_
      have HWd:Hid (Below w1.heap.size w1 wd):=Lh (by rw[hwd];exact HBw.out.drew);clear hwd c0 c1 c2 c3 cf k0 k2;refine T 0 hS ?_;refine T 1 hS ?_;refine T 2 hS ?_;refine T 3 hS ?_;refine T 4 hS ?_;refine T 5 hS ?_;refine T 6 hS ?_;refine T 7 hS ?_;refine T 8 hS ?_;refine T 9 hS ?_;refine T 10 hS ?_;refine T 11 hS ?_;refine T 12 hS ?_;refine T 13 hS ?_;refine T 14 hS ?_;refine T 15 hS ?_;refine T 16 hS ?_;refine T 17 hS ?_;refine T 18 hS ?_;refine T 19 hS ?_;refine T 20 hS ?_;refine T 21 hS ?_;refine T 22 hS ?_;refine T 23 hS ?_;refine wpAnyH_done (by kernel_rfl) ?_ _;clear hS;go_wp2;exact HEnd.out _ HWd.out
     ·have e5:decide (x≤y)=false:=decide_eq_false d5;have HS:Hid (pOk m.ports i):=Lh (fun x hx=>by rw[HX.out] at hx;cases hx;exact⟨HD1.out,fun y hk hy=>by rw[HJ.out,HY.out] at hy;cases hy;omega⟩);clear d5;go_wp2;refine B (fun V=>V.cell? ⟨w.heap.size,2,none⟩=some (.slice (some ⟨g,off,none⟩) m.ports.length pc)∧V.cell? ⟨g,off+i,none⟩=some (.int .u16 x)∧V.cell? ⟨g,off+j,none⟩=some (.int .u16 y)) ⟨c2,k0,k2⟩ fun wd hwd hS=> ?_
      have HWd:Hid (Below w1.heap.size w1 wd):=Lh (by rw[hwd];exact HBw.out.drew);clear hwd c0 c1 c2 c3 cf k0 k2;refine T 0 hS ?_;refine T 1 hS ?_;refine T 2 hS ?_;refine T 3 hS ?_;refine T 4 hS ?_;refine T 5 hS ?_;refine T 6 hS ?_;refine T 7 hS ?_;refine T 8 hS ?_;refine T 9 hS ?_;refine T 10 hS ?_;refine T 11 hS ?_;refine T 12 hS ?_;refine T 13 hS ?_;refine T 14 hS ?_;refine T 15 hS ?_;refine T 16 hS ?_;refine T 17 hS ?_;refine T 18 hS ?_;refine T 19 hS ?_;refine T 20 hS ?_;refine T 21 hS ?_;refine T 22 hS ?_;refine T 23 hS ?_;refine wpAnyH_done (by kernel_rfl) ?_ _;clear hS;go_wp2;refine⟨⟨i+1,by omega,by go_num,fun k hk=> ?_,HWd.out⟩,by simp[intOf];omega⟩;rcases Nat.lt_or_ge k i with q|q
      ·exact HAll.out k q
      ·obtain rfl:k=i:=by omega
       exact HS.out
    ·have hi1:¬(i:Int)<m.ports.length:=by omega
     have HV:=Lh (may_all HEx.out fun k hk=>hall k (by omega))
     by_cases d1:m.pages≤1024
     ·have e1:decide (m.pages≤1024)=true:=decide_eq_true d1
      by_cases d2:m.ports.length≤16
      ·have e2:decide ((m.ports.length:Int)≤16)=true:=decide_eq_true (by omega);have hend:=fun V=>HFin.out V true (by rw[HV.out,decide_eq_true d1,decide_eq_true d2];rfl)
       have HEnd:=Lh hend;clear hend hall d1 d2 hbw;go_wp2
       first
        |exact HEnd.out _ HBw.out
        |(go_ret;exact HEnd.out _ HBw.out)
      ·have e2:decide ((m.ports.length:Int)≤16)=false:=decide_eq_false (by omega);have hend:=fun V=>HFin.out V false (by rw[HV.out,decide_eq_true d1,decide_eq_false d2];rfl)
       have HEnd:=Lh hend;clear hend hall d1 d2 hbw;go_wp2
       first
        |exact HEnd.out _ HBw.out
        |(go_ret;exact HEnd.out _ HBw.out)
     ·have e1:decide (m.pages≤1024)=false:=decide_eq_false d1;have hend:=fun V=>HFin.out V false (by rw[HV.out,decide_eq_false d1];rfl)
      have HEnd:=Lh hend;clear hend hall d1 hbw;go_wp2
      first
       |exact HEnd.out _ HBw.out
       |(go_ret;exact HEnd.out _ HBw.out)
end R11
namespace Rc
theorem info_gr:(Tryz.prog.info? 351).map (fun i=>(i.zero,i.size,i.bytes))=some (some (.agg #[.int .i64 0,.int .u32 0,.slice none 0 0,.slice none 0 0,.bool false,.int .u32 0,.int .u32 0]),7,80):=by kernel_rfl
theorem rcC_app(L M:List RcE):rcC (L++M)=rcC L++rcC M:=by unfold rcC;rw[List.flatMap_append]
theorem rcC_take(L:List RcE)(i:Nat):rcC (L.take i)=(rcC L).take (i*7):=by
 rcases Nat.le_total i L.length with q|q
 ·have h:=rcC_app (L.take i) (L.drop i);rw[List.take_append_drop] at h;rw[h,List.take_left' (by rw[rcC_len,List.length_take];omega)]
 ·rw[List.take_of_length_le q,List.take_of_length_le (by rw[rcC_len];omega)]
theorem rcC_drop(L:List RcE)(i:Nat):rcC (L.drop i)=(rcC L).drop (i*7):=by
 rcases Nat.le_total i L.length with q|q
 ·have h:=rcC_app (L.take i) (L.drop i);rw[List.take_append_drop] at h;rw[h,List.drop_left' (by rw[rcC_len,List.length_take];omega)]
 ·rw[List.drop_eq_nil_of_le q,List.drop_eq_nil_of_le (by rw[rcC_len];omega)];rfl
section
variable {w:World} {a:RcAt} {hp:Int} {G:Int→Option Gr}
theorem one_cells(h:Rcs w a hp G):∀u,u∈rcC a.L→u.oneCell'=true:=rcC_one a.L fun x hx=>by
 have hm:=h.mns x hx;obtain⟨o,c,e⟩:=hm.e.form;obtain⟨o',c',e'⟩:=hm.p.form;rw[e,e'];exact⟨rfl,rfl⟩
theorem ty_keep{w w':World}{gb:Nat}{c:Array Value}{T:TypeId}(hg:w.heap[gb]? =some (.cells c T (0,0)))(hm:Mod (fun k=>k=gb) w w'){ty:TypeId}{s n:Nat}{v:Value}{xs:List Value}(hsl:SlV w ty s v n xs)(hty:T≠ty):SlV w' ty s v n xs:=by
 refine⟨hsl.1, ?_⟩;rcases hsl.2 with g|⟨g,off,cap,cur,rfl,hgg,rest⟩
 ·exact .inl g
 ·exact .inr ⟨g,off,cap,cur,rfl,(hm.block _ (lQ hgg) (fun e=>by rw[e,hg] at hgg;cases hgg;exact hty rfl)).trans hgg,rest⟩
theorem newRow(h:Rcs w a hp G){W:World}(hb:Below w.heap.size w W){v:Value}{L:List RcE}{G':Int→Option Gr}(hs:SlV W 351 7 v L.length (rcC L))(hmn:∀y,y∈L→MnAt W y.ev y.pv y.g.m)(hc:L.map RcE.key=canon G')(ho:Gp.OkG hp G'):
  Rcs (W.setCell ⟨a.rb,2,none⟩ v) ⟨a.rb,a.hv,v,L⟩ hp G'∧Mod (fun k=>k=a.rb) W (W.setCell ⟨a.rb,2,none⟩ v):=by
 have hm:Mod (fun k=>k=a.rb) W (W.setCell ⟨a.rb,2,none⟩ v):=Mod.setCell (F:=fun k=>k=a.rb) (Mod.refl _ _) ⟨a.rb,2,none⟩ (.inl rfl) _;have hh:=(hb.block _ (lQ h.head)).trans h.head;exact⟨⟨heap_setCell_same W a.rb 2 _ _ v hh,ty_keep hh hm hs (by decide),fun y hy=>⟨ty_keep hh hm (hmn y hy).e (by decide),ty_keep hh hm (hmn y hy).p (by decide)⟩,hc,ho⟩,hm⟩
end
end Rc
end Go.Proofs.YtnpicaigdfnmfaaGreat
