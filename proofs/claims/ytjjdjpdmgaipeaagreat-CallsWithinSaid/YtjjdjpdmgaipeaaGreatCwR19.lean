/- R19, R19B, R19C, RwIn in one text. -/
import Derived.Test.YtjjdjpdmgaipeaaGreatCwGraG
import Derived.Test.YtjjdjpdmgaipeaaGreatCwZa
set_option linter.unusedVariables false
set_option linter.unusedSimpArgs false
set_option maxRecDepth 100000
set_option maxHeartbeats 16000000
open Go.Proofs.Tryz
namespace Go.Proofs.YtjjdjpdmgaipeaaGreat
open Go.RowKit
structure RcE where
 n:Int
 g:Gr
 ev:Value
 pv:Value
def RcE.cells(x:RcE):List Value:=[.int .i64 x.n,.int .u32 x.g.m.pages,x.ev,x.pv,.bool x.g.m.con,.int .u32 x.g.pg,.int .u32 x.g.took]
def RcE.key(x:RcE):Int×Gr:=(x.n,x.g)
def rcC(L:List RcE):List Value:=L.flatMap RcE.cells
theorem rcC_len(L:List RcE):(rcC L).length=L.length*7:=by
 unfold rcC
 induction L with
 |nil=>rfl
 |cons x l ih=>rw[List.flatMap_cons,List.length_append,ih];simp[RcE.cells];omega
theorem rcC_at:∀(L:List RcE) (i:Nat) (x:RcE),L[i]? =some x→∀j,j<7→(rcC L)[i*7+j]? =x.cells[j]?
 |y::l,0,x,h,j,hj=>by
  simp at h;subst h;have e:rcC (y::l)=y.cells++rcC l:=rfl;rw[e,Nat.zero_mul,Nat.zero_add,List.getElem?_append_left (by simpa [RcE.cells] using hj)]
 |y::l,i+1,x,h,j,hj=>by
  have:=rcC_at l i x (by simpa using h) j hj;have e:rcC (y::l)=y.cells++rcC l:=rfl;rw[e,List.getElem?_append_right (by simp[RcE.cells];omega),←this]
  congr 1
  simp[RcE.cells];omega
theorem rcC_one(L:List RcE)(h:∀x,x∈L→x.ev.oneCell'=true∧x.pv.oneCell'=true):∀u,u∈rcC L→u.oneCell'=true:=fun u hu=>by
 unfold rcC at hu;rw[List.mem_flatMap] at hu;obtain⟨x,hm,hx⟩:=hu;simp[RcE.cells] at hx;rcases hx with rfl|rfl|rfl|rfl|rfl|rfl|rfl
 ·rfl
 ·rfl
 ·exact(h x hm).1
 ·exact(h x hm).2
 ·rfl
 ·rfl
 ·rfl
structure Gp.OkG(hp:Int)(G:Int→Option Gr):Prop where
 ok:∀n,Gp.gok (G n)
 dom:∀n,(G n).isSome=true→1≤n∧n≤8
 fit:Gp.sum G≤hp
 may:∀n g,G n=some g→Gp.checkE g.m=0
 h1:hp≤4096
structure RcAt where
 rb:Nat
 hv:Value
 lv:Value
 L:List RcE
structure Rcs(w:World)(a:RcAt)(hp:Int)(G:Int→Option Gr):Prop where
 head:w.heap[a.rb]? =some (.cells #[.int .u32 hp,a.hv,a.lv] 261 (0,0))
 row:SlV w 263 7 a.lv a.L.length (rcC a.L)
 mns:∀x,x∈a.L→MnAt w x.ev x.pv x.g.m
 can:a.L.map RcE.key=Rc.canon G
 ok:Gp.OkG hp G
def RcAt.wf(a:RcAt)(k:Nat):Prop:=k=a.rb∨a.lv.ownBlock=some k
def RcAt.rf(a:RcAt)(k:Nat):Prop:=∃x,x∈a.L∧(x.ev.ownBlock=some k∨x.pv.ownBlock=some k)
namespace Rcs
variable {w w':World} {a:RcAt} {hp:Int} {G:Int→Option Gr}
theorem mod{F:Nat→Prop}(h:Rcs w a hp G)(hm:Mod F w w')(hF:∀k,a.wf k∨a.rf k→¬F k):Rcs w' a hp G:=
 ⟨(hm.block _ (lt_of_block h.head) (hF _ (.inl (.inl rfl)))).trans h.head,h.row.mod hm fun k hk=>hF k (.inl (.inr hk)),fun x hx=>(h.mns x hx).mod hm (fun k hk=>hF k (.inr ⟨x,hx,.inl hk⟩)) fun k hk=>hF k (.inr ⟨x,hx,.inr hk⟩),h.can,h.ok⟩
theorem below(h:Rcs w a hp G)(hb:Below w.heap.size w w'):Rcs w' a hp G:=h.mod (Mod.of_below hb (fun _=>False)) fun _ _ q=>q
theorem cells(h:Rcs w a hp G):w.cell? ⟨a.rb,0,none⟩=some (.int .u32 hp)∧w.cell? ⟨a.rb,1,none⟩=some a.hv∧w.cell? ⟨a.rb,2,none⟩=some a.lv∧∀i,w.frozen? ⟨a.rb,i,none⟩=false:=by
 refine⟨?_, ?_, ?_,fun i=> ?_⟩
 ·unfold World.cell?;rw[h.head];rfl
 ·unfold World.cell?;rw[h.head];rfl
 ·unfold World.cell?;rw[h.head];rfl
 ·unfold World.frozen?;rw[h.head];simp
theorem len(h:Rcs w a hp G):a.L.length≤8:=by
 have:=congrArg List.length h.can;rw[List.length_map] at this;rw[this];exact Rc.len G
theorem key(h:Rcs w a hp G){x:RcE}(hx:x∈a.L):1≤x.n∧x.n≤8∧G x.n=some x.g:=Rc.mem (x:=x.key) (by rw[←h.can];exact List.mem_map_of_mem hx)
theorem at'(h:Rcs w a hp G){i:Nat}{x:RcE}(hx:a.L[i]? =some x):∃g off cap,a.lv=.slice (some ⟨g,off,none⟩) a.L.length cap∧∀j,j<7→w.cell? ⟨g,off+(i*7+j),none⟩=x.cells[j]? :=by
 have hi:=(List.getElem?_eq_some_iff.1 hx).1;have hr:=h.row;rcases hr.2 with⟨h0,_⟩|⟨g,off,cap,cur,hv,_⟩
 ·omega
 ·refine⟨g,off,cap,hv,fun j hj=> ?_⟩;rw[hv] at hr;rw[hr.cell (i*7+j) (by omega)];exact rcC_at _ _ _ hx j hj
theorem seven{g o i:Nat}{x:RcE}(h:∀j,j<7→w.cell? ⟨g,o+(i*7+j),none⟩=x.cells[j]?):w.cell? ⟨g,o+i*7,none⟩=some (.int .i64 x.n)∧w.cell? ⟨g,o+i*7+1,none⟩=some (.int .u32 x.g.m.pages)∧w.cell? ⟨g,o+i*7+2,none⟩=some x.ev∧w.cell? ⟨g,o+i*7+3,none⟩=some x.pv∧w.cell? ⟨g,o+i*7+4,none⟩=some (.bool x.g.m.con)∧w.cell? ⟨g,o+i*7+5,none⟩=some (.int .u32 x.g.pg)∧w.cell? ⟨g,o+i*7+6,none⟩=some (.int .u32 x.g.took):=
 ⟨h 0 (by omega),h 1 (by omega),h 2 (by omega),h 3 (by omega),h 4 (by omega),h 5 (by omega),h 6 (by omega)⟩
end Rcs
namespace Rc
def idx:List RcE→Int→Option Nat
 | [],_=>none
 |x::l,n=>if x.n=n then some 0 else(idx l n).map (·+1)
theorem idx_some:∀ {L:List RcE} {n:Int} {i:Nat},idx L n=some i→∃x,L[i]? =some x∧x.n=n∧∀k y,k<i→L[k]? =some y→y.n≠n
 | [],n,i,h=>by cases h
 |x::l,n,i,h=>by
  unfold idx at h
  split at h
  ·cases h;exact⟨x,rfl,by assumption,fun k y hk=>absurd hk (Nat.not_lt_zero _)⟩
  ·rename_i hne
   cases hr:idx l n with
   |none=>rw[hr] at h;cases h
   |some j=>
    rw[hr] at h;cases h;obtain⟨y,h1,h2,h3⟩:=idx_some hr;refine⟨y,by simpa using h1,h2,fun k z hk hz=> ?_⟩;cases k with
    |zero=>simp at hz;subst hz;exact hne
    |succ k=>exact h3 k z (by have hk:k+1<j+1:=hk;omega) (by simpa using hz)
theorem idx_none:∀ {L:List RcE} {n:Int},idx L n=none→∀x,x∈L→x.n≠n
 | [],n,_,x,hx=>by cases hx
 |y::l,n,h,x,hx=>by
  unfold idx at h
  split at h
  ·cases h
  ·rename_i hne
   cases hr:idx l n with
   |some j=>rw[hr] at h;cases h
   |none=>
    rcases List.mem_cons.1 hx with rfl|q
    ·exact hne
    ·exact idx_none hr x q
theorem idx_at{L:List RcE}{n:Int}{i:Nat}{x:RcE}(hx:L[i]? =some x)(hn:x.n=n)(hno:∀k y,k<i→L[k]? =some y→y.n≠n):idx L n=some i:=by
 cases h:idx L n with
 |none=>exact absurd hn (idx_none h x (List.mem_of_getElem? hx))
 |some j=>
  obtain⟨y,h1,h2,h3⟩:=idx_some h;rcases Nat.lt_trichotomy i j with q|q|q
  ·exact absurd hn (h3 i x q hx)
  ·rw[q]
  ·exact absurd h2 (hno j y q h1)
def idxV(L:List RcE)(n:Int):Int:=match idx L n with|none=> -1|some i=>i
section
variable {w:World} {a:RcAt} {hp:Int} {G:Int→Option Gr}
theorem of_none(h:Rcs w a hp G){n:Int}(hg:G n=none):idx a.L n=none:=by
 cases hi:idx a.L n with
 |none=>rfl
 |some i=>
  obtain⟨x,h1,h2,_⟩:=idx_some hi;have:=(h.key (List.mem_of_getElem? h1)).2.2;rw[h2,hg] at this;cases this
theorem of_some(h:Rcs w a hp G){n:Int}{g:Gr}(hg:G n=some g):∃i x,idx a.L n=some i∧a.L[i]? =some x∧x.n=n∧x.g=g:=by
 obtain⟨n1,n8⟩:=h.ok.dom n (by rw[hg];rfl);have hm:=mem_of n1 n8 hg;rw[←h.can] at hm;obtain⟨y,hy,he⟩:=List.mem_map.1 hm;have hyn:y.n=n:=congrArg Prod.fst he;cases hi:idx a.L n with
 |none=>exact absurd hyn (idx_none hi y hy)
 |some i=>
  obtain⟨x,h1,h2,_⟩:=idx_some hi;have:=(h.key (List.mem_of_getElem? h1)).2.2;rw[h2,hg] at this;exact⟨i,x,rfl,h1,h2,(Option.some.inj this).symm⟩
def fdRel(w:World)(L:List RcE)(n:Int)(vi:Value)(wr:World):Prop:=∃i:Nat,i≤L.length∧vi=.int .i64 i∧(∀(k:Nat) (x:RcE),k<i→L[k]? =some x→x.n≠n)∧wr=w
theorem find(h:Rcs w a hp G)(n:Int):Calls Tryz.prog 177 #[.pointer (some ⟨a.rb,0,none⟩),.int .i64 n] w fun e w'=>e=.returned (.int .i64 (idxV a.L n))∧w=w':=by
 obtain⟨c0,c1,c2,_⟩:=h.cells;have hl:=h.len;have H:=Lh h;obtain⟨ao,ac,hlv⟩:=h.row.form;rw[hlv] at c2;clear h;go_enter func177,ntmps177;go_wp2;go_loopw [5] (fun vi wr=>fdRel w a.L n vi wr) (fun vi _=>a.L.length - (intOf vi).toNat)
 case atStart=>exact⟨0,by omega,rfl,fun k _ hk=>absurd hk (Nat.not_lt_zero _),rfl⟩
 case round=>
  obtain⟨i,hi,rfl,hno,rfl⟩:=hrel;have HNo:=Lh hno;clear hno
  by_cases hin:i<a.L.length
  ·obtain⟨x,hx⟩:∃x,a.L[i]? =some x:=⟨_,Zg hin⟩;obtain⟨g,off,cap,hv,hc⟩:=H.out.at' hx;rw[hlv] at hv;simp only[Value.slice.injEq] at hv;obtain⟨rfl,_,rfl⟩:=hv;obtain⟨x0,_⟩:=Rcs.seven hc;have hi1:(i:Int)<a.L.length:=by omega
   have HX:=Lh hx;clear hc hx hlv
   by_cases hxn:x.n=n
   ·have hb:(x.n == n)=true:=beq_iff_eq.2 hxn;have HV:Hid (idxV a.L n=i):=Lh (by unfold idxV;rw[idx_at HX.out hxn HNo.out]);clear hxn;go_wp2;go_ret;exact⟨by rw[HV.out];rfl,rfl⟩
   ·have hb:(x.n == n)=false:=beq_eq_false_iff_ne.2 hxn;have HXn:=Lh hxn;clear hxn;go_wp2;refine⟨⟨i+1,by omega,by go_num,fun k y hk hy=> ?_,rfl⟩,by simp[intOf];omega⟩;rcases Nat.lt_or_ge k i with q|q
    ·exact HNo.out k y q hy
    ·obtain rfl:k=i:=by omega
     rw[HX.out] at hy;cases hy;exact HXn.out
  ·have hi1:¬(i:Int)<a.L.length:=by omega
   have HV:Hid (idxV a.L n= -1):=Lh (by
    unfold idxV;cases hd:idx a.L n with
    |none=>rfl
    |some j=>
     obtain⟨x,h1,h2,_⟩:=idx_some hd;exact absurd h2 (HNo.out j x (by have:=(List.getElem?_eq_some_iff.1 h1).1;omega) h1))
   clear hlv;go_wp2;go_ret;exact⟨by rw[HV.out];rfl,rfl⟩
end
end Rc
namespace Rc
def MBx(w:World)(b:Nat)(m:Mn)(ev pv:Value):Prop:=w.heap[b]? =some (.cells (m.cells ev pv) 29 (0,0))
theorem MBx.below{w w':World}{b:Nat}{m:Mn}{ev pv:Value}(h:MBx w b m ev pv)(hb:Below w.heap.size w w'):MBx w' b m ev pv:=(hb.block _ (lt_of_block h)).trans h
def bkRel(w:World)(l:List (Int×Int))(id:Int)(vi:Value)(wr:World):Prop:=∃i:Nat,i≤l.length∧vi=.int .i64 i∧(∀(k:Nat) (x:Int×Int),k<i→l[k]? =some x→x.1≠id)∧wr=w
theorem blocks{w:World}{m:Mn}{ev pv:Value}(h:MnAt w ev pv m)(id:Int):Calls Tryz.prog 270 #[.agg (m.cells ev pv),.int .u32 id] w fun e w'=>e=.returned (.int .u32 ((Gp.blocksOf m.ext id).getD 0))∧Below w.heap.size w w':=by
 obtain⟨eo,ec,rfl⟩:=h.e.form;have hcap:=slv_len h.e;unfold maxLen at hcap;have hb:Below w.heap.size w (w.alloc (.cells (m.cells (.slice eo m.ext.length ec) pv) 29)):=(Below.refl _ _).alloc (Nat.le_refl _) _;have hk:=heap_alloc_new w (.cells (m.cells (.slice eo m.ext.length ec) pv) 29);have HE:=Lh (h.below hb).e;have HB:=Lh hb;obtain⟨c0,c1,c2,c3,_⟩:=man_cells hk;unfold Mn.cells at*;clear h hb hk;go_enter func270,ntmps270;go_wp2;generalize w.alloc (.cells #[.int .u32 m.pages,.slice eo m.ext.length ec,pv,.bool m.con] 29)=w1 at*;go_loopw [5] (fun vi wr=>bkRel w1 m.ext id vi wr) (fun vi _=>m.ext.length - (intOf vi).toNat)
 case atStart=>exact⟨0,by omega,rfl,fun k _ hk=>absurd hk (Nat.not_lt_zero _),rfl⟩
 case round=>
  obtain⟨i,hi,rfl,hno,rfl⟩:=hrel;have HNo:=Lh hno;clear hno
  by_cases hin:i<m.ext.length
  ·obtain⟨g,off,rfl,hc0,hc1⟩:=ext_cells HE.out (Zg hin);obtain⟨x,hx⟩:∃x,m.ext[i]=x:=⟨_,rfl⟩;rw[hx] at hc0 hc1;have HX:Hid (m.ext[i]? =some x):=Lh (by rw[Zg hin,hx]);have hi1:(i:Int)<m.ext.length:=by omega
   clear hx
   by_cases hxe:x.1=id
   ·have hd:(x.1 == id)=true:=beq_iff_eq.2 hxe;have HV:Hid ((Gp.blocksOf m.ext id).getD 0=x.2):=Lh (by rw[Ca.blocksOf_at HX.out hxe HNo.out];rfl);clear hxe;go_wp2;go_ret;exact⟨by rw[HV.out];rfl,HB.out⟩
   ·have hd:(x.1 == id)=false:=beq_eq_false_iff_ne.2 hxe;have HXe:=Lh hxe;clear hxe;go_wp2;refine⟨⟨i+1,by omega,by go_num,fun k y hk hy=> ?_,rfl⟩,by simp[intOf];omega⟩;rcases Nat.lt_or_ge k i with q|q
    ·exact HNo.out k y q hy
    ·obtain rfl:k=i:=by omega
     rw[HX.out] at hy;cases hy;exact HXe.out
  ·have hi1:¬(i:Int)<m.ext.length:=by omega
   have HV:Hid ((Gp.blocksOf m.ext id).getD 0=0):=Lh (by rw[Ca.blocksOf_none fun k x hk hx=>HNo.out k x (by omega) hx];rfl);go_wp2;go_ret;exact⟨by rw[HV.out];rfl,HB.out⟩
def hpRel(w:World)(l:List Int)(p:Int)(vi:Value)(wr:World):Prop:=∃i:Nat,i≤l.length∧vi=.int .i64 i∧(∀(k:Nat) (x:Int),k<i→l[k]? =some x→x≠p)∧wr=w
theorem hasPort{w:World}{m:Mn}{ev pv:Value}(h:MnAt w ev pv m)(p:Int):Calls Tryz.prog 271 #[.agg (m.cells ev pv),.int .u16 p] w fun e w'=>e=.returned (.bool (decide (p∈m.ports)))∧Below w.heap.size w w':=by
 obtain⟨po,pc,rfl⟩:=h.p.form;have hcap:=slv_len h.p;unfold maxLen at hcap;have hb:Below w.heap.size w (w.alloc (.cells (m.cells ev (.slice po m.ports.length pc)) 29)):=(Below.refl _ _).alloc (Nat.le_refl _) _;have hk:=heap_alloc_new w (.cells (m.cells ev (.slice po m.ports.length pc)) 29);have HE:=Lh (h.below hb).p;have HB:=Lh hb;obtain⟨c0,c1,c2,c3,_⟩:=man_cells hk;unfold Mn.cells at*;clear h hb hk;go_enter func271,ntmps271;go_wp2;generalize w.alloc (.cells #[.int .u32 m.pages,ev,.slice po m.ports.length pc,.bool m.con] 29)=w1 at*;go_loopw [5] (fun vi wr=>hpRel w1 m.ports p vi wr) (fun vi _=>m.ports.length - (intOf vi).toNat)
 case atStart=>exact⟨0,by omega,rfl,fun k _ hk=>absurd hk (Nat.not_lt_zero _),rfl⟩
 case round=>
  obtain⟨i,hi,rfl,hno,rfl⟩:=hrel;have HNo:=Lh hno;clear hno
  by_cases hin:i<m.ports.length
  ·obtain⟨g,off,rfl,hc0⟩:=u16_cell HE.out (Zg hin);obtain⟨x,hx⟩:∃x,m.ports[i]=x:=⟨_,rfl⟩;rw[hx] at hc0;have HX:Hid (m.ports[i]? =some x):=Lh (by rw[Zg hin,hx]);have hi1:(i:Int)<m.ports.length:=by omega
   clear hx
   by_cases hxe:x=p
   ·have hd:(x == p)=true:=beq_iff_eq.2 hxe;have HV:Hid (decide (p∈m.ports)=true):=Lh (decide_eq_true (by rw[←hxe];exact List.mem_of_getElem? HX.out));clear hxe;go_wp2;go_ret;exact⟨by rw[HV.out];rfl,HB.out⟩
   ·have hd:(x == p)=false:=beq_eq_false_iff_ne.2 hxe;have HXe:=Lh hxe;clear hxe;go_wp2;refine⟨⟨i+1,by omega,by go_num,fun k y hk hy=> ?_,rfl⟩,by simp[intOf];omega⟩;rcases Nat.lt_or_ge k i with q|q
    ·exact HNo.out k y q hy
    ·obtain rfl:k=i:=by omega
     rw[HX.out] at hy;cases hy;exact HXe.out
  ·have hi1:¬(i:Int)<m.ports.length:=by omega
   have HV:Hid (decide (p∈m.ports)=false):=Lh (decide_eq_false fun hm=>by
    obtain⟨k,hk⟩:=List.getElem?_of_mem hm;exact HNo.out k p (by have:=(List.getElem?_eq_some_iff.1 hk).1;omega) hk rfl)
   go_wp2;go_ret;exact⟨by rw[HV.out];rfl,HB.out⟩
section
variable {w:World} {a:RcAt} {hp:Int} {G:Int→Option Gr}
theorem set4_mod(V:World)(b:Nat)(x y z u:Value):Mod (fun k=>k=b) V ((((V.setCell ⟨b,0,none⟩ x).setCell ⟨b,1,none⟩ y).setCell ⟨b,2,none⟩ z).setCell ⟨b,3,none⟩ u):=
 Mod.setCell (F:=fun i=>i=b) (Mod.setCell (F:=fun i=>i=b) (Mod.setCell (F:=fun i=>i=b) (Mod.setCell (F:=fun i=>i=b) (Mod.refl _ _) ⟨b,0,none⟩ (.inl rfl) _) ⟨b,1,none⟩ (.inl rfl) _) ⟨b,2,none⟩ (.inl rfl) _) ⟨b,3,none⟩ (.inl rfl) _
def MnP(w:World)(G:Int→Option Gr)(n:Int)(e:Ending)(w':World):Prop:=
 ∃ev pv,e=.returned (.tuple #[.agg ((gOf (G n)).m.cells ev pv),.bool (G n).isSome])∧Below w.heap.size w w'∧MnAt w' ev pv (gOf (G n)).m
theorem manifest(h:Rcs w a hp G)(n:Int):Calls Tryz.prog 165 #[.pointer (some ⟨a.rb,0,none⟩),.int .i64 n] w (MnP w G n):=by
 have hb:Below w.heap.size w (w.alloc (.cells #[.int .u32 0,.slice none 0 0,.slice none 0 0,.bool false] 29)):=(Below.refl _ _).alloc (Nat.le_refl _) _;have hk:=heap_alloc_new w (.cells #[.int .u32 0,.slice none 0 0,.slice none 0 0,.bool false] 29);obtain⟨k0,k1,k2,k3,kf⟩:=man_cells (m:=⟨0,[],[],false⟩) hk;have h1:=h.below hb;have HF:=Lh (find h1 n);obtain⟨c0,c1,c2,_⟩:=h1.cells;have HFin:Hid (∀ev pv V b,b=(G n).isSome→Below w.heap.size w V→MnAt V ev pv (gOf (G n)).m→MnP w G n (.returned (.tuple #[.agg ((gOf (G n)).m.cells ev pv),.bool b])) V):=Lh fun ev pv V b hb h1 h2=>⟨ev,pv,by rw[hb],h1,h2⟩
 generalize MnP w G n=PQ at*;have HB:=Lh hb;have HK:=Lh hk;cases hg:G n with
 |none=>
  have hi:=of_none h1 hg;unfold idxV at HF;rw[hi] at HF;rw[hg] at HFin;have HEnd:Hid (∀V,Below w.heap.size w V→PQ (.returned (.tuple #[.agg #[.int .u32 0,.slice none 0 0,.slice none 0 0,.bool false],.bool false])) V):=Lh fun V hV=>HFin.out (.slice none 0 0) (.slice none 0 0) V false rfl hV ⟨SlV.nil _ _ _,SlV.nil _ _ _⟩
  clear h h1 hb hk hg hi HFin;go_enter func165,ntmps165;go_wp2_with fail;refine HF.out.mono ?_;rintro e w1 ⟨rfl,rfl⟩;go_wp2;refine bodyPost_ret (v:=.tuple #[.agg #[.int .u32 0,.slice none 0 0,.slice none 0 0,.bool false],.bool false]) (by simp[results,Tryz.results165,go_sem, *]) rfl ?_
  first
   |exact HEnd.out _ HB.out
   |exact HEnd.out _ (Mod.below HB.out (set4_mod _ _ _ _ _ _) HB.out.size fun k _ q=>by omega)
 |some g=>
  obtain⟨i,x,hi,hx,hn,hxg⟩:=of_some h1 hg;unfold idxV at HF;rw[hi] at HF;rw[hg] at HFin;obtain⟨q,off,cap,hv,hc⟩:=h1.at' hx;obtain⟨x0,x1,x2,x3,x4,x5,x6⟩:=Rcs.seven hc;rw[hxg] at x1 x4 x5 x6;rw[hv] at c2;have hl:=h1.len;have hi0:=(List.getElem?_eq_some_iff.1 hx).1;have hi1:(i:Int)<a.L.length:=by omega
  have hm:=(h.mns x (List.mem_of_getElem? hx));rw[hxg] at hm;have HEnd:Hid (∀V,Below w.heap.size w V→PQ (.returned (.tuple #[.agg #[.int .u32 g.m.pages,x.ev,x.pv,.bool g.m.con],.bool true])) V):=Lh fun V hV=>HFin.out x.ev x.pv V true rfl hV (hm.below hV)
  obtain⟨xe1,xe2⟩:(∃o n c,x.ev=.slice o n c)∧∃o n c,x.pv=.slice o n c:=⟨by obtain⟨o,c,e⟩:=hm.e.form;exact⟨o,_,c,e⟩,by obtain⟨o,c,e⟩:=hm.p.form;exact⟨o,_,c,e⟩⟩;obtain⟨eo,en,ec,hev⟩:=xe1;obtain⟨po,pn,pc,hpv⟩:=xe2;rw[hev] at x2 HEnd;rw[hpv] at x3 HEnd;clear h h1 hb hk hg hi HFin hx hn hxg hc hm hev hpv hi0 hl hv x0 x5 x6;go_enter func165,ntmps165;go_wp2_with fail;refine HF.out.mono ?_;rintro e w1 ⟨rfl,rfl⟩;go_wp2;refine bodyPost_ret (v:=.tuple #[.agg #[.int .u32 g.m.pages,.slice eo en ec,.slice po pn pc,.bool g.m.con],.bool true]) (by simp[results,Tryz.results165,go_sem, *]) rfl ?_;exact HEnd.out _ ((Below.refl _ _).alloc (Nat.le_refl _) _)
def MnN(w:World)(e:Ending)(w':World):Prop:=∃eo ec po pc,e=.returned (.tuple #[.agg #[.int .u32 0,.slice eo 0 ec,.slice po 0 pc,.bool false],.bool false])∧Below w.heap.size w w'
def MnS(w:World)(g:Gr)(e:Ending)(w':World):Prop:=∃eo ec po pc,e=.returned (.tuple #[.agg #[.int .u32 g.m.pages,.slice eo g.m.ext.length ec,.slice po g.m.ports.length pc,.bool g.m.con],.bool true])∧Below w.heap.size w w'∧MnAt w' (.slice eo g.m.ext.length ec) (.slice po g.m.ports.length pc) g.m
theorem manifest_none(h:Rcs w a hp G){n:Int}(hg:G n=none):Calls Tryz.prog 165 #[.pointer (some ⟨a.rb,0,none⟩),.int .i64 n] w (MnN w):=
 (manifest h n).mono fun e w' ⟨ev,pv,h1,h2,h3⟩=>by
  rw[hg] at h3;obtain⟨eo,ec,rfl⟩:=h3.e.form;obtain⟨po,pc,rfl⟩:=h3.p.form;exact⟨eo,ec,po,pc,by rw[h1,hg];rfl,h2⟩
theorem manifest_some(h:Rcs w a hp G){n:Int}{g:Gr}(hg:G n=some g):Calls Tryz.prog 165 #[.pointer (some ⟨a.rb,0,none⟩),.int .i64 n] w (MnS w g):=
 (manifest h n).mono fun e w' ⟨ev,pv,h1,h2,h3⟩=>by
  rw[hg] at h3;have h3:MnAt w' ev pv g.m:=h3;obtain⟨eo,ec,rfl⟩:=h3.e.form;obtain⟨po,pc,rfl⟩:=h3.p.form;exact⟨eo,ec,po,pc,by rw[h1,hg];rfl,h2,h3⟩
theorem block(h:Rcs w a hp G)(n id k:Int)(k0:0≤k):Calls Tryz.prog 211 #[.pointer (some ⟨a.rb,0,none⟩),.int .i64 n,.int .u32 id,.int .u32 k] w fun e w'=>e=.returned (.bool (Gp.hasBlock (G n) id k))∧Below w.heap.size w w':=by
 cases hg:G n with
 |none=>
  have HM:=Lh (manifest_none h hg);clear h hg;go_enter func211,ntmps211;go_wp2_with fail;refine HM.out.mono ?_;rintro e w1 ⟨eo,ec,po,pc,rfl,hb⟩;have HB:=Lh (hb.alloc hb.size (.cells #[.int .u32 0,.slice eo 0 ec,.slice po 0 pc,.bool false] 29));clear hb;go_wp2;go_ret;exact⟨rfl,HB.out⟩
 |some g=>
  have HM:=Lh (manifest_some h hg);have HV:Hid (decide (k<(Gp.blocksOf g.m.ext id).getD 0)=Gp.hasBlock (some g) id k):=Lh (by
   unfold Gp.hasBlock;simp only;cases Gp.blocksOf g.m.ext id with
   |none=>exact decide_eq_false (by simp;omega)
   |some z=>rfl)
  clear h hg;go_enter func211,ntmps211;go_wp2_with fail;refine HM.out.mono ?_;rintro e w1 ⟨eo,ec,po,pc,rfl,hb,hm⟩;have hA:=(Below.refl w1.heap.size w1).alloc (Nat.le_refl _) (.cells (g.m.cells (.slice eo g.m.ext.length ec) (.slice po g.m.ports.length pc)) 29);obtain⟨c0,c1,c2,c3,_⟩:=man_cells (heap_alloc_new w1 (.cells (g.m.cells (.slice eo g.m.ext.length ec) (.slice po g.m.ports.length pc)) 29));have HQ:=Lh (blocks (hm.below hA) id);have HA:=Lh (below_th hb hA);unfold Mn.cells at*;clear hb hm hA;go_wp2_with fail;refine HQ.out.mono ?_;rintro e w2 ⟨rfl,hb2⟩;have HB2:=Lh (below_th HA.out hb2);clear hb2;generalize (Gp.blocksOf g.m.ext id).getD 0=z at*;go_wp2;go_ret;exact⟨by rw[←HV.out]<;>rfl,HB2.out⟩
theorem left(h:Rcs w a hp G)(n:Int):Calls Tryz.prog 115 #[.pointer (some ⟨a.rb,0,none⟩),.int .i64 n] w fun e w'=>e=.returned (.int .u32 (Gp.left (G n)))∧Below w.heap.size w w':=by
 have HF:=Lh (find h n);obtain⟨c0,c1,c2,_⟩:=h.cells;cases hg:G n with
 |none=>
  have hi:=of_none h hg;unfold idxV at HF;rw[hi] at HF;clear h hg hi;go_enter func115,ntmps115;go_wp2_with fail;refine HF.out.mono ?_;rintro e w1 ⟨rfl,rfl⟩;go_wp2;go_ret;exact⟨rfl,Below.refl _ _⟩
 |some g=>
  obtain⟨i,x,hi,hx,hn,hxg⟩:=of_some h hg;unfold idxV at HF;rw[hi] at HF;obtain⟨q,off,cap,hv,hc⟩:=h.at' hx;obtain⟨x0,x1,x2,x3,x4,x5,x6⟩:=Rcs.seven hc;rw[hxg] at x1 x6;rw[hv] at c2;have hl:=h.len;have hi0:=(List.getElem?_eq_some_iff.1 hx).1;have hi1:(i:Int)<a.L.length:=by omega
  have hok:=h.ok.ok n g hg;have t0:=hok.t0;have t1:=hok.t1;have p1:=hok.m.p1;have HW:IntKind.u32.wrap (g.m.pages - g.took)=g.m.pages - g.took:=wrap32 (by omega) (by omega);have HBd:=Lh (Below.refl w.heap.size w).drew;clear h hg hi hx hn hxg hc x0 x2 x3 x4 x5 hok t0 t1 p1 hv;go_enter func115,ntmps115;go_wp2_with fail;refine HF.out.mono ?_;rintro e w1 ⟨rfl,rfl⟩;go_wp2;refine B (fun V=>V.cell? ⟨a.rb,2,none⟩=some (.slice (some ⟨q,off,none⟩) a.L.length cap)∧V.cell? ⟨q,off+i*7+1,none⟩=some (.int .u32 g.m.pages)∧V.cell? ⟨q,off+i*7+6,none⟩=some (.int .u32 g.took)) ⟨c2,x1,x6⟩ fun wd hwd hS=> ?_
  have HWd:=Lh hwd;clear hwd c0 c1 c2 x1 x6;refine T 0 hS ?_;refine T 1 hS ?_;refine T 2 hS ?_;refine T 3 hS ?_;refine T 4 hS ?_;refine T 5 hS ?_;refine T 6 hS ?_;refine T 7 hS ?_;refine T 8 hS ?_;refine T 9 hS ?_;refine T 10 hS ?_;refine T 11 hS ?_;refine T 12 hS ?_;refine T 13 hS ?_;refine T 14 hS ?_;refine T 15 hS ?_;refine T 16 hS ?_;refine T 17 hS ?_;refine T 18 hS ?_;refine wpAnyH_done (by kernel_rfl) ?_ _;clear hS;go_wp2;go_ret;exact⟨rfl,by rw[HWd.out];exact HBd.out⟩
end
end Rc
namespace Rc
def pg(x:RcE):Int:=x.g.m.pages+x.g.pg
def sumE(L:List RcE):Int:=(L.map pg).sum
theorem sumE_key(L:List RcE):sumE L=sumR (L.map RcE.key):=by
 unfold sumE sumR;rw[List.map_map];rfl
theorem sumE_snoc(L:List RcE)(x:RcE):sumE (L++[x])=sumE L+pg x:=by unfold sumE;simp
theorem sumE_app(L M:List RcE):sumE (L++M)=sumE L+sumE M:=by unfold sumE;simp
theorem sumE_nn{L:List RcE}(h:∀x,x∈L→0≤pg x):0≤sumE L:=by
 induction L with
 |nil=>exact Int.le_refl _
 |cons x l ih=>
  have h1:=h x (List.mem_cons_self ..);have h2:=ih fun y hy=>h y (List.mem_cons_of_mem _ hy)
  show 0≤((x::l).map pg).sum
  rw[List.map_cons,List.sum_cons];unfold sumE at h2;omega
theorem take_succ{L:List RcE}{i:Nat}{x:RcE}(hx:L[i]? =some x):L.take (i+1)=L.take i++[x]:=by
 rw[List.take_add_one,hx];rfl
section
variable {w:World} {a:RcAt} {hp:Int} {G:Int→Option Gr}
theorem sumE_all(h:Rcs w a hp G):sumE a.L=Gp.sum G:=by rw[sumE_key,h.can,sumR_canon]
theorem pg_nn(h:Rcs w a hp G){x:RcE}(hx:x∈a.L):0≤pg x∧0≤x.g.m.pages∧0≤x.g.pg:=by
 have:=h.ok.ok _ x.g (h.key hx).2.2;have h1:=this.m.p0;have h2:=this.q0;exact⟨by unfold pg;omega,h1,h2⟩
theorem sumE_le(h:Rcs w a hp G)(i:Nat):0≤sumE (a.L.take i)∧sumE (a.L.take i)≤Gp.sum G:=by
 have h1:=sumE_nn (L:=a.L.take i) fun x hx=>(pg_nn h (List.mem_of_mem_take hx)).1
 have h2:=sumE_nn (L:=a.L.drop i) fun x hx=>(pg_nn h (List.mem_of_mem_drop hx)).1
 have h3:=sumE_app (a.L.take i) (a.L.drop i);rw[List.take_append_drop,sumE_all h] at h3;exact⟨h1,by omega⟩
def frR(w:World)(hp:Int)(L:List RcE)(vn vi:Value)(wr:World):Prop:=∃i:Nat,i≤L.length∧vi=.int .i64 i∧vn=.int .u32 (hp - sumE (L.take i))∧Below w.heap.size w wr
theorem free(h:Rcs w a hp G):Calls Tryz.prog 58 #[.pointer (some ⟨a.rb,0,none⟩)] w fun e w'=>e=.returned (.int .u32 (Gp.freeV hp G))∧Below w.heap.size w w':=by
 obtain⟨c0,c1,c2,_⟩:=h.cells;have hl:=h.len;have H:=Lh h;have HV:Hid (hp - sumE a.L=Gp.freeV hp G):=Lh (by rw[sumE_all h];rfl);have HR0:Hid (frR w hp a.L (.int .u32 hp) (.int .i64 0) w):=Lh ⟨0,by omega,rfl,by simp[sumE],Below.refl _ _⟩;obtain⟨ao,ac,hlv⟩:=h.row.form;clear h;go_enter func58,ntmps58;go_wp2;clear c0 c1 c2;go_loopw [3,4] (fun vn vi wr=>frR w hp a.L vn vi wr) (fun _ vi _=>a.L.length - (intOf vi).toNat)
 case atStart=>exact HR0.out
 case round=>
  clear HR0;obtain⟨i,hi,rfl,rfl,hb⟩:=hrel;have HB:=Lh hb;have h1:=H.out.below hb;obtain⟨c0,c1,c2,_⟩:=h1.cells;rw[hlv] at c2
  by_cases hin:i<a.L.length
  ·obtain⟨x,hx⟩:∃x,a.L[i]? =some x:=⟨_,Zg hin⟩;obtain⟨g,off,cap,hv,hc⟩:=h1.at' hx;rw[hlv] at hv;simp only[Value.slice.injEq] at hv;obtain⟨rfl,_,rfl⟩:=hv;obtain⟨x0,x1,x2,x3,x4,x5,x6⟩:=Rcs.seven hc;have hi1:(i:Int)<a.L.length:=by omega
   obtain⟨p0,p1,p2⟩:=pg_nn h1 (List.mem_of_getElem? hx);have hs0:=sumE_le h1 i;have hs1:=sumE_le h1 (i+1);have hsn:sumE (a.L.take (i+1))=sumE (a.L.take i)+(x.g.m.pages+x.g.pg):=by rw[take_succ hx,sumE_snoc];rfl
   rw[hsn] at hs1;have hft:=h1.ok.fit;have hh1:=h1.ok.h1;obtain⟨s,hs⟩:∃s,sumE (a.L.take i)=s:=⟨_,rfl⟩;rw[hs] at hs0 hs1 hsn⊢;have wr0:IntKind.u32.wrap (hp - s - x.g.m.pages)=hp - s - x.g.m.pages:=wrap32 (by omega) (by omega);have wr1:IntKind.u32.wrap (hp - s - x.g.m.pages - x.g.pg)=hp - s - x.g.m.pages - x.g.pg:=wrap32 (by omega) (by omega);have HEnd:Hid (∀V,Below w.heap.size w V→frR w hp a.L (.int .u32 (hp - s - x.g.m.pages - x.g.pg)) (.int .i64 ((i:Int)+1)) V):=Lh fun V hV=>⟨i+1,by omega,by go_num,by rw[hsn];congr 1;omega,hV⟩
   clear hb h1 hx hc x0 x2 x3 x4 x6 p0 p1 p2 hs0 hs1 hsn hft hh1 hs hlv;go_wp2;refine B (fun V=>V.cell? ⟨a.rb,2,none⟩=some (.slice (some ⟨g,off,none⟩) a.L.length ac)∧V.cell? ⟨g,off+i*7+1,none⟩=some (.int .u32 x.g.m.pages)∧V.cell? ⟨g,off+i*7+5,none⟩=some (.int .u32 x.g.pg)) ⟨c2,x1,x5⟩ fun wd hwd hS=> ?_
   have HWd:Hid (Below w.heap.size w wd):=Lh (by rw[hwd];exact HB.out.drew);clear hwd c0 c1 c2 x1 x5;refine T 0 hS ?_;refine T 1 hS ?_;refine T 2 hS ?_;refine T 3 hS ?_;refine T 4 hS ?_;refine T 5 hS ?_;refine T 6 hS ?_;refine T 7 hS ?_;refine T 8 hS ?_;refine T 9 hS ?_;refine T 10 hS ?_;refine T 11 hS ?_;refine T 12 hS ?_;refine T 13 hS ?_;refine T 14 hS ?_;refine T 15 hS ?_;refine T 16 hS ?_;refine T 17 hS ?_;refine T 18 hS ?_;refine T 19 hS ?_;refine T 20 hS ?_;refine wpAnyH_done (by kernel_rfl) ?_ _;clear hS;go_wp2;exact⟨HEnd.out _ HWd.out,by simp[intOf];omega⟩
  ·have hi1:¬(i:Int)<a.L.length:=by omega
   have HT:Hid (a.L.take i=a.L):=Lh (List.take_of_length_le (by omega));clear hb h1 hlv;go_wp2;go_ret;exact⟨by rw[←HV.out,HT.out]<;>rfl,HB.out⟩
structure RcSame(a a':RcAt):Prop where
 rb:a'.rb=a.rb
 hv:a'.hv=a.hv
 lv:a'.lv=a.lv
 rf:∀k,a'.rf k→a.rf k
theorem RcSame.refl(a:RcAt):RcSame a a:=⟨rfl,rfl,rfl,fun _ h=>h⟩
def RcAt.set(a:RcAt)(i:Nat)(x:RcE):RcAt:= { a with L:=a.L.set i x }
theorem setTook(h:Rcs w a hp G){n:Int}{g:Gr}{i:Nat}{x:RcE}(hg:G n=some g)(hx:a.L[i]? =some x)(hn:x.n=n)(hxg:x.g=g)(t:Int)(t0:0≤t)(t1:t≤g.m.pages){q off cap:Nat}(hv:a.lv=.slice (some ⟨q,off,none⟩) a.L.length cap):
  Rcs (w.setCell ⟨q,off+i*7+6,none⟩ (.int .u32 t)) (RcAt.set a i { x with g:= { g with took:=t } }) hp (Gp.upd G n (some { g with took:=t }))∧Mod (fun k=>a.lv.ownBlock=some k) w (w.setCell ⟨q,off+i*7+6,none⟩ (.int .u32 t)):=by
 have hi:=(List.getElem?_eq_some_iff.1 hx).1;have hm:Mod (fun k=>k=q) w (w.setCell ⟨q,off+i*7+6,none⟩ (.int .u32 t)):=Mod.setCell (F:=fun k=>k=q) (Mod.refl _ _) ⟨q,off+i*7+6,none⟩ (.inl rfl) _;have hr:=h.row;rw[hv] at hr;have hqb:∃c,w.heap[q]? =some (.cells c 263 (0,0)):=by
  rcases hr.2 with⟨h0,_⟩|⟨gg,oo,cc,cur,e,hgg,_⟩
  ·omega
  ·cases e;exact⟨_,hgg⟩
 obtain⟨qc,hqb⟩:=hqb;have hset:=SlV.setCell hr (i*7+6) (by omega) (.int .u32 t);have hcs:(rcC a.L).set (i*7+6) (.int .u32 t)=rcC (a.L.set i { x with g:= { g with took:=t } }):=by
  apply List.ext_getElem?
  intro k;have hl1:=rcC_len a.L;have hl2:=rcC_len (a.L.set i { x with g:= { g with took:=t } });rw[List.length_set] at hl2;rcases Nat.lt_or_ge k (a.L.length*7) with hk|hk
  ·have hkd:k=k / 7*7+k % 7:=by omega
   have hk7:k / 7<a.L.length:=by omega
   have hkm:k % 7<7:=by omega
   have e1:=rcC_at a.L (k / 7) _ (Zg hk7) (k % 7) hkm;have e2:(a.L.set i { x with g:= { g with took:=t } })[k / 7]? =some (if i=k / 7 then { x with g:= { g with took:=t } } else a.L[k / 7]):=by
    rw[List.getElem?_set]
    split
    ·rfl
    ·exact Zg hk7
   have e3:=rcC_at _ (k / 7) _ e2 (k % 7) hkm;rw[←hkd] at e1 e3;rw[e3,List.getElem?_set]
   by_cases hik:i=k / 7
   ·rw[if_pos hik];have hxk:a.L[k / 7]=x:=by
     rw[Zg hi] at hx;cases hx;simp only[hik]
    rw[hxk] at e1;rcases Nat.lt_or_ge (k % 7) 6 with q6|q6
    ·rw[if_neg (by omega),e1];have:k % 7=0∨k % 7=1∨k % 7=2∨k % 7=3∨k % 7=4∨k % 7=5:=by omega
     rcases this with z|z|z|z|z|z<;>rw[z]<;>simp[RcE.cells,hxg]
    ·have z:k % 7=6:=by omega
     rw[if_pos (by omega),if_pos (by omega),z];rfl
   ·rw[if_neg hik,if_neg (by omega),e1]
  ·rw[List.getElem?_eq_none (by rw[List.length_set];omega),List.getElem?_eq_none (by omega)]
 rw[hcs] at hset;have hqr:a.rb≠q:=fun e=>by
  have:=h.head;rw[e,hqb] at this;exact absurd (cells_ty this) (by decide)
 have hsl:∀ {ty:TypeId} {s n:Nat} {v:Value} {xs:List Value},SlV w ty s v n xs→263≠ty→SlV (w.setCell ⟨q,off+i*7+6,none⟩ (.int .u32 t)) ty s v n xs:=fun hsl hty=>by
  refine⟨hsl.1, ?_⟩;rcases hsl.2 with z|⟨g',o',c',cu',rfl,hgg,rest⟩
  ·exact .inl z
  ·exact .inr ⟨g',o',c',cu',rfl,(hm.block _ (lt_of_block hgg) (fun e=>by rw[e,hqb] at hgg;cases hgg;exact hty rfl)).trans hgg,rest⟩
 have hgn:=h.ok.ok n g hg;obtain⟨n1,n8⟩:=h.ok.dom n (by rw[hg];rfl);refine⟨⟨(hm.block _ (lt_of_block h.head) hqr).trans h.head, ?_,fun y hy=> ?_, ?_, ?_⟩,hm.mono fun k _ e=>by rw[hv,e];rfl⟩
 ·show SlV _ _ 7 a.lv (a.L.set i _).length (rcC (a.L.set i _))
  rw[List.length_set,hv];exact hset
 ·rcases List.mem_or_eq_of_mem_set (show y∈a.L.set i _ from hy) with z|rfl
  ·exact⟨hsl (h.mns y z).e (by decide),hsl (h.mns y z).p (by decide)⟩
  ·have:=h.mns x (List.mem_of_getElem? hx);rw[hxg] at this;exact⟨hsl this.e (by decide),hsl this.p (by decide)⟩
 ·show(a.L.set i _).map RcE.key=_
  have hk:=h.can;rw[canon_some n1 n8 hg] at hk;rw[canon_put n1 n8,List.map_set];rw[hk];have hil:i=(lo G n).length:=by
   have hki:(a.L.map RcE.key)[i]? =some (n,g):=by rw[List.getElem?_map,hx];simp[RcE.key,hn,hxg]
   rw[hk] at hki;rcases Nat.lt_trichotomy i (lo G n).length with z|z|z
   ·rw[List.getElem?_append_left z] at hki;have:=(mem_lo (List.mem_of_getElem? hki)).1;simp at this
   ·exact z
   ·rw[List.getElem?_append_right (by omega),show i - (lo G n).length=(i - (lo G n).length - 1)+1 by omega,List.getElem?_cons_succ] at hki;have:=(mem_hi (List.mem_of_getElem? hki)).1;simp at this
  rw[hil,List.set_append_right _ _ (Nat.le_refl _),Nat.sub_self,List.set_cons_zero];simp[RcE.key,hn]
 ·have hpg:Gp.pgs (some { g with took:=t })=Gp.pgs (G n):=by rw[hg];rfl
  refine⟨fun m=> ?_,fun m hm=>h.ok.dom m ?_,by rw[Gp.sum_upd hpg];exact h.ok.fit,fun m g' hg'=> ?_,h.ok.h1⟩
  ·by_cases e:m=n
   ·subst e;rw[Gp.upd_at];intro g' hg';cases hg';exact⟨hgn.m,t0,t1,hgn.q0⟩
   ·rw[Gp.upd_ne _ _ e];exact h.ok.ok m
  ·rw[←Gp.upd_some (G:=G) (n:=n) (g:=some { g with took:=t }) (by rw[hg];rfl)];exact hm
  ·by_cases e:m=n
   ·subst e;rw[Gp.upd_at] at hg';cases hg';exact h.ok.may m g hg
   ·rw[Gp.upd_ne _ _ e] at hg';exact h.ok.may m g' hg'
def takeP(w:World)(a:RcAt)(hp:Int)(G:Int→Option Gr)(n:Int)(w':World):Prop:=∃a',Rcs w' a' hp (Gp.upd G n (Gp.take (G n)))∧RcSame a a'∧Mod (fun k=>a.lv.ownBlock=some k) w w'
theorem same(h:Rcs w a hp G){n:Int}{g:Option Gr}(hg:g=G n){V:World}(hV:Below w.heap.size w V):∃a',Rcs V a' hp (Gp.upd G n g)∧RcSame a a'∧Mod (fun k=>a.lv.ownBlock=some k) w V:=⟨a,by rw[hg,Gp.upd_same];exact h.below hV,RcSame.refl a,Mod.of_below hV _⟩
theorem take(h:Rcs w a hp G)(n:Int):Calls Tryz.prog 207 #[.pointer (some ⟨a.rb,0,none⟩),.int .i64 n] w fun e w'=>e=.returned (.int .i64 (Gp.takeE (G n)))∧takeP w a hp G n w':=by
 have HF:=Lh (find h n);obtain⟨c0,c1,c2,_⟩:=h.cells;cases hg:G n with
 |none=>
  have hi:=of_none h hg;unfold idxV at HF;rw[hi] at HF;have HEnd:Hid (takeP w a hp G n w):=Lh (same h (by rw[hg]<;>rfl) (Below.refl _ _));clear h hg hi;go_enter func207,ntmps207;go_wp2_with fail;refine HF.out.mono ?_;rintro e w1 ⟨rfl,rfl⟩;go_wp2;go_ret;exact⟨rfl,HEnd.out⟩
 |some g=>
  obtain⟨i,x,hi,hx,hn,hxg⟩:=of_some h hg;unfold idxV at HF;rw[hi] at HF;have HL:=Lh (left h n);rw[hg] at HL;obtain⟨q,off,cap,hv,hc⟩:=h.at' hx;obtain⟨x0,x1,x2,x3,x4,x5,x6⟩:=Rcs.seven hc;rw[hxg] at x1 x4 x5 x6;rw[hv] at c2;have hl:=h.len;have hi0:=(List.getElem?_eq_some_iff.1 hx).1;have hi1:(i:Int)<a.L.length:=by omega
  have hok:=h.ok.ok n g hg;have t0:=hok.t0;have t1:=hok.t1;have p1:=hok.m.p1;have HQ:=Lh (And.intro hg (And.intro hx (And.intro hn (And.intro hxg hv))));have HH:=Lh h;have HTk:Hid (0≤g.took∧g.took≤g.m.pages):=Lh ⟨t0,t1⟩;obtain⟨⟨eo,en,ec,hev⟩,⟨po,pn,pc,hpv⟩⟩:(∃o n c,x.ev=.slice o n c)∧∃o n c,x.pv=.slice o n c:=by
   have hm:=h.mns x (List.mem_of_getElem? hx);exact⟨by obtain⟨o,c,e⟩:=hm.e.form;exact⟨o,_,c,e⟩,by obtain⟨o,c,e⟩:=hm.p.form;exact⟨o,_,c,e⟩⟩
  rw[hev] at x2;rw[hpv] at x3;rw[hn] at x0;have HXv:=Lh (And.intro hev hpv)
  by_cases hq:Gp.left (some g)=0
  ·have hqb:(Gp.left (some g) == 0)=true:=beq_iff_eq.2 hq;have HE:Hid (Gp.takeE (some g)=4):=Lh (if_pos ((Gp.left_zero (h.ok.ok n) hg).1 (by rw[hg];exact hq)));have HSm:Hid (∀V,Below w.heap.size w V→takeP w a hp G n V):=Lh fun V hV=>same h (g:=Gp.take (G n)) (by rw[hg];exact if_pos ((Gp.left_zero (h.ok.ok n) hg).1 (by rw[hg];exact hq))) hV
   clear h hg hi hx hn hxg hc hok t0 t1 p1 hv hev hpv x0 x1 x2 x3 x4 x5;go_enter func207,ntmps207;go_wp2_with fail;refine HF.out.mono ?_;rintro e w1 ⟨rfl,rfl⟩;clear hq;go_wp2_with fail;refine HL.out.mono ?_;rintro e w2 ⟨rfl,hb2⟩;have HB2:=Lh hb2;clear hb2;go_wp2;go_ret;exact⟨by rw[HE.out];rfl,HSm.out _ HB2.out⟩
  ·have hqb:(Gp.left (some g) == 0)=false:=beq_eq_false_iff_ne.2 hq;have hq':¬g.m.pages≤g.took:=fun z=>hq (by have:=(Gp.left_zero (h.ok.ok n) hg).2 z;rw[hg] at this;exact this)
   have HE:Hid (Gp.takeE (some g)=0∧Gp.take (some g)=some { g with took:=g.took+1 }):=Lh ⟨if_neg hq',if_neg hq'⟩;have HW:IntKind.u32.wrap (g.took+1)=g.took+1:=wrap32 (by omega) (by omega);have HNw:Hid (0≤g.took+1∧g.took+1≤g.m.pages):=Lh ⟨by omega,by omega⟩;clear h hg hi hx hn hxg hc hok t0 t1 p1 hv hev hpv hq' hq;go_enter func207,ntmps207;go_wp2_with fail;refine HF.out.mono ?_;rintro e w1 ⟨rfl,rfl⟩;go_wp2_with fail;refine HL.out.mono ?_;rintro e w2 ⟨rfl,hb2⟩;have c2:=cell_below hb2 c2;have x0:=cell_below hb2 x0;have x1:=cell_below hb2 x1;have x2:=cell_below hb2 x2;have x3:=cell_below hb2 x3;have x4:=cell_below hb2 x4;have x5:=cell_below hb2 x5;have x6:=cell_below hb2 x6;have HB2:=Lh hb2;clear hb2;go_wp2;have hbA:Below w2.heap.size w2 (w2.alloc (.cells #[.int .i64 n,.int .u32 g.m.pages,.slice eo en ec,.slice po pn pc,.bool g.m.con,.int .u32 g.pg,.int .u32 (g.took+1)] 263)):=(Below.refl _ _).alloc (Nat.le_refl _) _;have hkA:=heap_alloc_new w2 (.cells #[.int .i64 n,.int .u32 g.m.pages,.slice eo en ec,.slice po pn pc,.bool g.m.con,.int .u32 g.pg,.int .u32 (g.took+1)] 263);have c2:=cell_below hbA c2;have y0:=cell_below hbA x0;have y1:=cell_below hbA x1;have y2:=cell_below hbA x2;have y3:=cell_below hbA x3;have y4:=cell_below hbA x4;have y5:=cell_below hbA x5;have y6:=cell_below hbA x6;have hqz:q<w2.heap.size:=by
    unfold World.cell? at x0;cases hgq:w2.heap[q]? with
    |none=>rw[hgq] at x0;cases x0
    |some _=>exact lt_of_block hgq
   have hqb:∃c,w2.heap[q]? =some (.cells c 263 (0,0)):=by
    have h2:=HH.out.below HB2.out;have hr:=h2.row;rw[HQ.out.2.2.2.2] at hr;rcases hr.2 with⟨h0,_⟩|⟨gg,oo,cc,cur,e,hgg,_⟩
    ·omega
    ·cases e;exact⟨_,hgg⟩
   obtain⟨qc,hqb⟩:=hqb;have HQb:=Lh ((Below.heap_alloc w2 (.cells #[.int .i64 n,.int .u32 g.m.pages,.slice eo en ec,.slice po pn pc,.bool g.m.con,.int .u32 g.pg,.int .u32 (g.took+1)] 263) _ hqz).trans hqb);obtain⟨z0,z1,z2,z3,z4,z5,z6⟩:(w2.alloc (.cells #[.int .i64 n,.int .u32 g.m.pages,.slice eo en ec,.slice po pn pc,.bool g.m.con,.int .u32 g.pg,.int .u32 (g.took+1)] 263)).cell? ⟨w2.heap.size,0,none⟩=some (.int .i64 n)∧(w2.alloc (.cells #[.int .i64 n,.int .u32 g.m.pages,.slice eo en ec,.slice po pn pc,.bool g.m.con,.int .u32 g.pg,.int .u32 (g.took+1)] 263)).cell? ⟨w2.heap.size,1,none⟩=some (.int .u32 g.m.pages)∧(w2.alloc (.cells #[.int .i64 n,.int .u32 g.m.pages,.slice eo en ec,.slice po pn pc,.bool g.m.con,.int .u32 g.pg,.int .u32 (g.took+1)] 263)).cell? ⟨w2.heap.size,2,none⟩=some (.slice eo en ec)∧(w2.alloc (.cells #[.int .i64 n,.int .u32 g.m.pages,.slice eo en ec,.slice po pn pc,.bool g.m.con,.int .u32 g.pg,.int .u32 (g.took+1)] 263)).cell? ⟨w2.heap.size,3,none⟩=some (.slice po pn pc)∧(w2.alloc (.cells #[.int .i64 n,.int .u32 g.m.pages,.slice eo en ec,.slice po pn pc,.bool g.m.con,.int .u32 g.pg,.int .u32 (g.took+1)] 263)).cell? ⟨w2.heap.size,4,none⟩=some (.bool g.m.con)∧(w2.alloc (.cells #[.int .i64 n,.int .u32 g.m.pages,.slice eo en ec,.slice po pn pc,.bool g.m.con,.int .u32 g.pg,.int .u32 (g.took+1)] 263)).cell? ⟨w2.heap.size,5,none⟩=some (.int .u32 g.pg)∧(w2.alloc (.cells #[.int .i64 n,.int .u32 g.m.pages,.slice eo en ec,.slice po pn pc,.bool g.m.con,.int .u32 g.pg,.int .u32 (g.took+1)] 263)).cell? ⟨w2.heap.size,6,none⟩=some (.int .u32 (g.took+1)):=by
    refine⟨?_, ?_, ?_, ?_, ?_, ?_, ?_⟩<;>(unfold World.cell?;rw[hkA];rfl)
   have HBA:=Lh (below_th HB2.out hbA);clear x0 x1 x2 x3 x4 x5 x6 hbA hkA hqb HF c0 c1;refine LB (fun V=>V.cell? ⟨a.rb,2,none⟩=some (.slice (some ⟨q,off,none⟩) a.L.length cap)∧V.cell? ⟨w2.heap.size,0,none⟩=some (.int .i64 n)∧V.cell? ⟨w2.heap.size,1,none⟩=some (.int .u32 g.m.pages)∧V.cell? ⟨w2.heap.size,2,none⟩=some (.slice eo en ec)∧V.cell? ⟨w2.heap.size,3,none⟩=some (.slice po pn pc)∧V.cell? ⟨w2.heap.size,4,none⟩=some (.bool g.m.con)∧V.cell? ⟨w2.heap.size,5,none⟩=some (.int .u32 g.pg)∧V.cell? ⟨w2.heap.size,6,none⟩=some (.int .u32 (g.took+1))) 7 ⟨c2,z0,z1,z2,z3,z4,z5,z6⟩ fun wd hwd hS=> ?_
   have HWd:Hid (Below w.heap.size w wd):=Lh (by rw[hwd];exact HBA.out.drew);have hqd:wd.heap[q]? =some (.cells qc 263 (0,0)):=by rw[hwd];exact HQb.out
   have y0:wd.cell? ⟨q,off+i*7,none⟩=some (.int .i64 n):=by rw[hwd];exact y0
   have y1:wd.cell? ⟨q,off+i*7+1,none⟩=some (.int .u32 g.m.pages):=by rw[hwd];exact y1
   have y2:wd.cell? ⟨q,off+i*7+2,none⟩=some (.slice eo en ec):=by rw[hwd];exact y2
   have y3:wd.cell? ⟨q,off+i*7+3,none⟩=some (.slice po pn pc):=by rw[hwd];exact y3
   have y4:wd.cell? ⟨q,off+i*7+4,none⟩=some (.bool g.m.con):=by rw[hwd];exact y4
   have y5:wd.cell? ⟨q,off+i*7+5,none⟩=some (.int .u32 g.pg):=by rw[hwd];exact y5
   have y6:wd.cell? ⟨q,off+i*7+6,none⟩=some (.int .u32 g.took):=by rw[hwd];exact y6
   have yf:∀j,wd.frozen? ⟨q,j,none⟩=false:=fun j=>by unfold World.frozen?;rw[hqd];simp
   have yc:∀ {j:Nat} {v:Value},wd.cell? ⟨q,j,none⟩=some v→wd.setCell ⟨q,j,none⟩ v=wd:=fun hj=>by
    refine setCell_same hqd ?_;unfold World.cell? at hj;rw[hqd] at hj;exact hj
   have s0:=yc y0;have s1:=yc y1;have s2:=yc y2;have s3:=yc y3;have s4:=yc y4;have s5:=yc y5;have f0:=yf (off+i*7);have f1:=yf (off+i*7+1);have f2:=yf (off+i*7+2);have f3:=yf (off+i*7+3);have f4:=yf (off+i*7+4);have f5:=yf (off+i*7+5);have f6:=yf (off+i*7+6);have HEnd:Hid (takeP w a hp G n (wd.setCell ⟨q,off+i*7+6,none⟩ (.int .u32 (g.took+1)))):=Lh (by
    obtain⟨r1,r2⟩:=setTook (HH.out.below HWd.out) HQ.out.1 HQ.out.2.1 HQ.out.2.2.1 HQ.out.2.2.2.1 (g.took+1) HNw.out.1 HNw.out.2 HQ.out.2.2.2.2;refine⟨RcAt.set a i { x with g:= { g with took:=g.took+1 } },by rw[HQ.out.1,HE.out.2];exact r1,⟨rfl,rfl,rfl,fun k hk=> ?_⟩,(Mod.of_below HWd.out _).same r2⟩;obtain⟨y,hy,hk⟩:=hk;rcases List.mem_or_eq_of_mem_set (show y∈a.L.set i { x with g:= { g with took:=g.took+1 } } from hy) with z|rfl
    ·exact⟨y,z,hk⟩
    ·exact⟨x,List.mem_of_getElem? HQ.out.2.1,hk⟩)
   clear hwd hqd yf yc c2 z0 z1 z2 z3 z4 z5 z6;refine LT 0 hS ?_;refine LT 1 hS ?_;refine LT 2 hS ?_;refine LT 3 hS ?_;refine LT 4 hS ?_;refine LT 5 hS ?_;refine LT 6 hS ?_;refine LU 7 fun K hK=> ?_
   go_simp;try simp only[s0,s1,s2,s3,s4,s5]
   refine LV hK (fun e=>absurd rfl e) ?_;clear hK K;refine E_done (by kernel_rfl) ?_ _;clear hS y0 y1 y2 y3 y4 y5 y6 s0 s1 s2 s3 s4 s5 f0 f1 f2 f3 f4 f5 f6;go_wp2;go_ret;exact⟨by rw[HE.out.1];rfl,HEnd.out⟩
end
end Rc
structure RwV(w:World)(s:Nat)(v:Value)(n:Nat)(xs:List Value):Prop where
 ln:xs.length=n*s
 fm:∃o c,v=.slice o n c∧Cl.At w o xs
 mx:n≤maxLen
namespace RwV
variable {w w':World} {s n:Nat} {v:Value} {xs:List Value}
theorem form(h:RwV w s v n xs):∃o c,v=.slice o n c:=by
 obtain⟨o,c,e,_⟩:=h.fm;exact⟨o,c,e⟩
theorem below(h:RwV w s v n xs)(hb:Below w.heap.size w w'):RwV w' s v n xs:=by
 obtain⟨o,c,e,ha⟩:=h.fm;exact⟨h.ln,⟨o,c,e,ha.below hb⟩,h.mx⟩
theorem mod{F:Nat→Prop}(h:RwV w s v n xs)(hm:Mod F w w')(hF:∀k,n≠0→v.ownBlock=some k→¬F k):RwV w' s v n xs:=by
 obtain⟨o,c,e,ha⟩:=h.fm;refine⟨h.ln,⟨o,c,e,fun j u hu=> ?_⟩,h.mx⟩;obtain⟨g,off,rfl,hc⟩:=ha j u hu;have hg:g<w.heap.size:=by
  unfold World.cell? at hc;cases hq:w.heap[g]? with
  |none=>simp[hq] at hc
  |some o=>exact lt_of_block hq
 refine⟨g,off,rfl, ?_⟩;rw[World.cell?_of_block (a:=⟨g,off+j,none⟩) (w:=w) (hm.block g hg (hF g (fun h0=>by
  have hl:=h.ln;rw[h0,Nat.zero_mul] at hl;have:=(List.getElem?_eq_some_iff.1 hu).1;omega) (by rw[e];rfl)))]
 exact hc
end RwV
theorem SlV.rw{w:World}{e:TypeId}{s n:Nat}{v:Value}{xs:List Value}(h:SlV w e s v n xs):RwV w s v n xs:=by
 obtain⟨o,c,rfl⟩:=h.form;exact⟨h.1,⟨o,c,rfl,slv_at h⟩,slv_len h⟩
theorem rw_at{w:World}{s n oc:Nat}{o:Option Addr}{xs:List Value}(h:RwV w s (.slice o n oc) n xs):Cl.At w o xs:=by
 obtain⟨o',c,e,ha⟩:=h.fm;simp only[Value.slice.injEq,true_and] at e;rw[e.1];exact ha
theorem rw_len{w:World}{s n:Nat}{v:Value}{xs:List Value}(h:RwV w s v n xs):n≤maxLen:=h.mx
theorem ext_cellsR{w:World}{ao:Option Addr}{ac:Nat}{l:List (Int×Int)}(h:RwV w 2 (.slice ao l.length ac) l.length (extC l)){i:Nat}{x:Int×Int}(hx:l[i]? =some x):∃g off,ao=some ⟨g,off,none⟩∧w.cell? ⟨g,off+i*2,none⟩=some (.int .u32 x.1)∧w.cell? ⟨g,off+i*2+1,none⟩=some (.int .u32 x.2):=by
 obtain⟨e1,e2⟩:=extC_at l i x hx;obtain⟨g,off,rfl,h1⟩:=rw_at h _ _ e1;obtain⟨g',off',hgo,h2⟩:=rw_at h _ _ e2;cases hgo;exact⟨g,off,rfl,h1,h2⟩
theorem u16_cellR{w:World}{ao:Option Addr}{ac:Nat}{l:List Int}(h:RwV w 1 (.slice ao l.length ac) l.length (l.map (Value.int .u16))){i:Nat}{x:Int}(hx:l[i]? =some x):∃g off,ao=some ⟨g,off,none⟩∧w.cell? ⟨g,off+i,none⟩=some (.int .u16 x):=
 rw_at h i _ (by rw[List.getElem?_map,hx];rfl)
theorem u32_cellR{w:World}{ao:Option Addr}{ac:Nat}{l:List Int}(h:RwV w 1 (.slice ao l.length ac) l.length (l.map (Value.int .u32))){i:Nat}{x:Int}(hx:l[i]? =some x):∃g off,ao=some ⟨g,off,none⟩∧w.cell? ⟨g,off+i,none⟩=some (.int .u32 x):=
 rw_at h i _ (by rw[List.getElem?_map,hx];rfl)
structure MnIn(w:World)(ev pv:Value)(m:Mn):Prop where
 e:RwV w 2 ev m.ext.length (extC m.ext)
 p:RwV w 1 pv m.ports.length (m.ports.map (Value.int .u16))
theorem MnIn.below{w w':World}{ev pv:Value}{m:Mn}(h:MnIn w ev pv m)(hb:Below w.heap.size w w'):MnIn w' ev pv m:=⟨h.e.below hb,h.p.below hb⟩
end Go.Proofs.YtjjdjpdmgaipeaaGreat
