/- GraG, KcpP, RcP in one text. -/
import Derived.Test.YtjjdjpdmgaipeaaGreatCwRegU
import Derived.Test.YtjjdjpdmgaipeaaGreatCwReg
import Derived.Test.YtjjdjpdmgaipeaaGreatCwTskG
import Derived.Test.YtjjdjpdmgaipeaaGreatCwKnG
import Derived.Test.YtjjdjpdmgaipeaaGreatCwZa
set_option linter.unusedVariables false
set_option linter.unusedSimpArgs false
set_option maxRecDepth 100000
set_option maxHeartbeats 16000000
open Go.Proofs.Tryz
namespace Go.Proofs.YtjjdjpdmgaipeaaGreat
open Go.RowKit
def CAt.put(a:CAt)(n:Int)(gb:Nat)(ev pv:Value):CAt:= { a with gb:=fun k=>if k=n then gb else a.gb k,ev:=fun k=>if k=n then ev else a.ev k,pv:=fun k=>if k=n then pv else a.pv k }
theorem CAt.put_at(a:CAt)(n:Int)(gb:Nat)(ev pv:Value):(a.put n gb ev pv).gb n=gb∧(a.put n gb ev pv).ev n=ev∧(a.put n gb ev pv).pv n=pv:=⟨if_pos rfl,if_pos rfl,if_pos rfl⟩
theorem CAt.put_ne(a:CAt){n k:Int}(gb:Nat)(ev pv:Value)(h:k≠n):(a.put n gb ev pv).gb k=a.gb k∧(a.put n gb ev pv).ev k=a.ev k∧(a.put n gb ev pv).pv k=a.pv k:=⟨if_neg h,if_neg h,if_neg h⟩
theorem SlV.map_keep{w w':World}{mb n:Nat}{D:DataW Unit}{kt:TypeId}{el:Value→Option (DataW Unit×List MemPlace)}(ho:w.ownsMap Tryz.prog kt el mb n D)(hm:Mod (fun k=>k=mb) w w'){ty:TypeId}{s m:Nat}{v:Value}{xs:List Value}(h:SlV w ty s v m xs):SlV w' ty s v m xs:=by
 refine⟨h.1, ?_⟩;rcases h.2 with g|⟨g,off,cap,cur,rfl,hgg,rest⟩
 ·exact .inl g
 ·refine .inr ⟨g,off,cap,cur,rfl,(hm.block _ (lt_of_block hgg) (fun e=> ?_)).trans hgg,rest⟩;obtain⟨es,clock,hb,_⟩:=ho;rw[←e,hgg] at hb;cases hb
theorem Cps.head_ne{w:World}{a:CAt}{hp:Int}{G:Int→Option Gr}(h:Cps w a hp G):a.cb≠a.mb∧∀n,(G n).isSome=true→a.gb n≠a.mb:=by
 obtain⟨D,m,⟨es,clock,hb,_⟩,_⟩:=h.map;refine⟨fun e=> ?_,fun n hn e=> ?_⟩
 ·rw[←e,h.head] at hb;cases hb
 ·obtain⟨g,hg⟩:=Option.isSome_iff_exists.1 hn;have:=(h.grant n g hg).1;rw[e,hb] at this;cases this
theorem Cps.insert{w:World}{a:CAt}{hp:Int}{G:Int→Option Gr}(h:Cps w a hp G){n:Int}(n1:1≤n)(n8:n≤8)(hn:G n=none){gb:Nat}{ev pv:Value}{g:Gr}(hblk:w.heap[gb]? =some (.cells (grC g ev pv) 276 (0,0)))(hm:MnAt w ev pv g.m)(hok:g.ok)(h1:gb≠a.mb)(hgn:∀k,(G k).isSome=true→a.gb k≠gb)(hft:Gp.sum G+(g.m.pages+g.pg)≤hp):
  ∃w',(Instr.mapUpdate 192 (.map (some a.mb)) (.int .i64 n) (.pointer (some ⟨gb,0,none⟩))).run Tryz.prog w=.ok () w'∧Cps w' (a.put n gb ev pv) hp (Gp.upd G n (some g))∧Mod (fun k=>k=a.mb) w w':=by
 obtain⟨hcm,hgm⟩:=h.head_ne;obtain⟨D,d,ho,hv,hs⟩:=h.map;have ht:=own_tight ho;have K:=Maps.int_keyed (P:=Tryz.prog) Tryz.underlying3;have hk:=Maps.keyOf_int_mk (P:=Tryz.prog) Tryz.underlying3 (I64.wf (n:=n) ⟨by omega,by omega⟩);have hcb:Gp.cnt G≤8:=by
  have:Gp.cnt G≤Gp.sum8 fun _=>1:=Gp.sum8_le fun k=>by unfold Gp.one;split<;>omega
  exact this
 obtain⟨w',hrun,how,htu⟩:=ht.store K Tryz.underlying192 (by unfold maxLen;omega) (val:=.pointer (some ⟨gb,0,none⟩)) (d:=.lit (.int .i64 gb)) (ps:=[]) hk rfl;have hg:=htu.grown;have hne:∀k,k<w.heap.size→k≠a.mb→w'.heap[k]? =w.heap[k]? :=fun k hk hkm=>hg.block k hk (by simpa using hkm)
 have hmod:Mod (fun k=>k=a.mb) w w':=⟨hg.os,hg.tape,hg.output,hg.size,fun k hk hkm=>hne k hk hkm⟩;have hsm:∀k,(Gp.upd G n (some g) k).isSome=true↔k=n∨(G k).isSome=true:=fun k=>by
  unfold Gp.upd
  split
  ·rename_i e;simp[e]
  ·rename_i e;simp[e]
 refine⟨w',hrun,⟨(hne a.cb (h.lt (.inl rfl)) hcm).trans h.head,⟨_,_,how,fun x zd=> ?_, ?_⟩,fun m g' hg'=> ?_,fun m=> ?_,fun m hm'=> ?_,fun m k q1 q2 e=> ?_, ?_⟩,hmod⟩
 ·by_cases e:x=n
  ·subst e;rw[if_pos ((hsm x).2 (.inl rfl)),Maps.atKey_put_same ht.isMap (K.key hk),(a.put_at x gb ev pv).1]
  ·rw[Maps.atKey_put_other (by intro g;simp at g;exact e g),hv,(a.put_ne gb ev pv e).1,Gp.upd_ne _ _ e]
 ·rw[Maps.size_put (ht.tidy K)];have:Maps.has D (.int .i64 n)=false:=Maps.has_false_of_atKey fun z=>by rw[hv,if_neg (by rw[hn];simp)]
  rw[this,Gp.cnt_put n1 n8,←hs,hn];simp[Gp.one]
 ·by_cases e:m=n
  ·subst e;rw[Gp.upd_at] at hg';cases hg';rw[(a.put_at m gb ev pv).1,(a.put_at m gb ev pv).2.1,(a.put_at m gb ev pv).2.2];exact⟨(hne gb (lt_of_block hblk) h1).trans hblk,hm.e.map_keep ho hmod,hm.p.map_keep ho hmod⟩
  ·rw[Gp.upd_ne _ _ e] at hg';obtain⟨p1,p2⟩:=h.grant m g' hg';rw[(a.put_ne gb ev pv e).1,(a.put_ne gb ev pv e).2.1,(a.put_ne gb ev pv e).2.2];exact⟨(hne _ (lt_of_block p1) (hgm m (by rw[hg'];rfl))).trans p1,p2.e.map_keep ho hmod,p2.p.map_keep ho hmod⟩
 ·by_cases e:m=n
  ·subst e;rw[Gp.upd_at];intro g' hg';cases hg';exact hok
  ·rw[Gp.upd_ne _ _ e];exact h.ok m
 ·rcases(hsm m).1 hm' with rfl|q
  ·exact⟨n1,n8⟩
  ·exact h.dom m q
 ·by_cases e1:m=n
  ·by_cases e2:k=n
   ·rw[e1,e2]
   ·rw[e1,(a.put_at n gb ev pv).1,(a.put_ne gb ev pv e2).1] at e;exact absurd e.symm (hgn k (((hsm k).1 q2).resolve_left e2))
  ·by_cases e2:k=n
   ·rw[e2,(a.put_at n gb ev pv).1,(a.put_ne gb ev pv e1).1] at e;exact absurd e (hgn m (((hsm m).1 q1).resolve_left e1))
   ·rw[(a.put_ne gb ev pv e1).1,(a.put_ne gb ev pv e2).1] at e;exact h.inj m k (((hsm m).1 q1).resolve_left e1) (((hsm k).1 q2).resolve_left e2) e
 ·rw[Gp.sum_put n1 n8,hn]
  show Gp.sum G+(g.m.pages+g.pg - 0)≤hp
  omega
namespace Ca
theorem all{w:World}{a:CAt}{m:Mn}{ev pv:Value}{pb:Nat}(r0 r1 r2 r3:Int)
  (h0:∀V,Below w.heap.size w V→Calls Tryz.prog 267 #[.pointer (some ⟨a.cb,0,none⟩),.agg (m.cells ev pv)] V fun e w'=>e=.returned (.int .i64 r0)∧Below V.heap.size V w')
  (h1:∀V,Below w.heap.size w V→Calls Tryz.prog 268 #[.pointer (some ⟨a.cb,0,none⟩),.agg (m.cells ev pv)] V fun e w'=>e=.returned (.int .i64 r1)∧Below V.heap.size V w')
  (h2:∀V,Below w.heap.size w V→Calls Tryz.prog 269 #[.pointer (some ⟨a.cb,0,none⟩),.agg (m.cells ev pv)] V fun e w'=>e=.returned (.int .i64 r2)∧Below V.heap.size V w')
  (h3:∀V,Below w.heap.size w V→Calls Tryz.prog 172 #[.pointer (some ⟨a.cb,0,none⟩),.agg (m.cells ev pv),.pointer (some ⟨pb,0,none⟩)] V fun e w'=>e=.returned (.int .i64 r3)∧Below V.heap.size V w'):
  Calls Tryz.prog 173 #[.pointer (some ⟨a.cb,0,none⟩),.agg (m.cells ev pv),.func (.func 172) #[] #[.pointer (some ⟨pb,0,none⟩)]] w fun e w'=>e=.returned (.int .i64 (firstE [r0,r1,r2,r3]))∧Below w.heap.size w w':=by
 have HE:=Lh fun(V:World) (lb:Nat) hb hf=>each (w:=V) (a:=a) (m:=m) (ev:=ev) (pv:=pv) (lb:=lb) (pb:=pb) r0 r1 r2 r3 hf (fun U hU=>h0 U (below_th hb hU)) (fun U hU=>h1 U (below_th hb hU)) (fun U hU=>h2 U (below_th hb hU)) (fun U hU=>h3 U (below_th hb hU))
 have hb:Below w.heap.size w (w.alloc (.cells (m.cells ev pv) 29)):=(Below.refl _ _).alloc (Nat.le_refl _) _;have hblk:=heap_alloc_new w (.cells (m.cells ev pv) 29);obtain⟨c0,c1,c2,c3,_⟩:=man_cells hblk;have HB:=Lh hb;unfold Mn.cells at*;clear hb hblk h0 h1 h2 h3;go_enter func173,ntmps173;go_wp2_with fail;refine(HE.out _ _ (HB.out.alloc HB.out.size _) (by
  have h:=heap_alloc_new (w.alloc (.cells #[.int .u32 m.pages,ev,pv,.bool m.con] 29)) (.cells #[.func (.func 267) #[] #[],.func (.func 268) #[] #[],.func (.func 269) #[] #[],.func (.func 172) #[] #[.pointer (some ⟨pb,0,none⟩)]] 351);rw[show(w.alloc (.cells #[.int .u32 m.pages,ev,pv,.bool m.con] 29)).heap.size=w.heap.size+1 by simp] at h;exact h)).mono ?_
 rintro e w2 ⟨rfl,hb2⟩;have HB2:=Lh (below_th (HB.out.alloc HB.out.size _) hb2);clear c0 c1 c2 c3 hb2;go_wp2;go_ret;exact⟨rfl,HB2.out⟩
end Ca
theorem rises_at{l:List (Int×Int)}(h:Gp.risesB (fun a b:Int×Int=>decide (a.1<b.1)) l=true)(h0:∀x,x∈l→0≤x.1):∀(k:Nat) (x:Int×Int),l[k]? =some x→(k:Int)≤x.1
 |0,x,hx=>by have:=h0 x (List.mem_of_getElem? hx);omega
 |k+1,x,hx=>by
  have hk:k<l.length:=by have:=(List.getElem?_eq_some_iff.1 hx).1;omega
  have h1:=rises_at h h0 k l[k] (Zg hk);have h2:=(Gp.risesB_iff _ l).1 h k l[k] x (Zg hk) hx;simp at h2;omega
theorem slv_at{w:World}{e:TypeId}{s n oc:Nat}{o:Option Addr}{xs:List Value}(h:SlV w e s (.slice o n oc) n xs):Cl.At w o xs:=fun j u hu=>by
 have hj:=(List.getElem?_eq_some_iff.1 hu).1;have hl:=h.1;rcases h.2 with⟨h0,_⟩|⟨g,off,cap,cur,hv,_⟩
 ·subst h0;omega
 ·cases hv;exact⟨g,off,rfl,(SlV.cell h j (by omega)).trans hu⟩
theorem one_ext(l:List (Int×Int)):∀u,u∈extC l→u.oneCell'=true:=fun u hu=>by
 unfold extC at hu;rw[List.mem_flatMap] at hu;obtain⟨x,_,hx⟩:=hu;simp at hx;rcases hx with rfl|rfl<;>rfl
theorem one_u16(l:List Int):∀u,u∈l.map (Value.int .u16)→u.oneCell'=true:=fun u hu=>by
 obtain⟨x,_,rfl⟩:=List.mem_map.1 hu;rfl
namespace Ca
def grE(hp:Int)(hx:List Int)(G:Int→Option Gr)(m:Mn)(pg:Int):Int:=firstE [noneE m.ext hx.length,longE m.ext hx,busyE G m,fullE hp G m pg]
def grantE(hp:Int)(hx:List Int)(G:Int→Option Gr)(n:Int)(m:Mn)(pg:Int):Int:=
 if n<1∨8<n∨Gp.checkE m≠0∨4096<pg then 2 else if(G n).isSome=true then 9 else grE hp hx G m pg
def GrPost(w:World)(a:CAt)(hp:Int)(hx:List Int)(G:Int→Option Gr)(n:Int)(m:Mn)(pg:Int)(e:Ending)(w':World):Prop:=
 (grantE hp hx G n m pg≠0∧e=.returned (.int .i64 (grantE hp hx G n m pg))∧Below w.heap.size w w')∨
 (grantE hp hx G n m pg=0∧e=.returned (.int .i64 0)∧∃gb ev pv,Cps w' (a.put n gb ev pv) hp (Gp.upd G n (some ⟨m,pg,0⟩))∧Mod (fun k=>k=a.mb) w w'∧(w.heap.size≤gb∧gb<w'.heap.size)∧(∀k,ev.ownBlock=some k∨pv.ownBlock=some k→w.heap.size≤k∧k<w'.heap.size∧k≠gb))
theorem ext_len{m:Mn}{hx:List Int}(hl:hx.length≤16)(hok:m.ok)(hc:Gp.checkE m=0){x y z:Int}(he:firstE [noneE m.ext hx.length,x,y,z]=0):m.ext.length≤16:=by
 have hm:Gp.mayM m=true:=by
  unfold Gp.checkE at hc
  split at hc
  ·assumption
  ·cases hc
 unfold Gp.mayM at hm;simp only[Bool.and_eq_true] at hm;have hr:=hm.1.1.1.1.2;have hn:extNone m.ext hx.length=false:=by
  cases hq:extNone m.ext hx.length with
  |false=>rfl
  |true=>
   unfold firstE noneE at he;rw[hq] at he;simp at he
 unfold extNone at hn;rw[List.any_eq_false] at hn;rcases Nat.lt_or_ge 16 m.ext.length with q|q
 ·exfalso
  have h16:m.ext[16]? =some m.ext[16]:=Zg q;have h1:=rises_at hr (fun x hx=>(hok.e x hx).1) 16 _ h16;have h2:=hn _ (List.mem_of_getElem? h16);simp at h2;omega
 ·exact q
theorem may_num{m:Mn}(hc:Gp.checkE m=0):m.ports.length≤16∧m.pages≤1024:=by
 have hm:Gp.mayM m=true:=by
  unfold Gp.checkE at hc
  split at hc
  ·assumption
  ·cases hc
 unfold Gp.mayM at hm;simp only[Bool.and_eq_true,decide_eq_true_eq] at hm;exact⟨hm.1.2,hm.2⟩
theorem grant_in{w:World}{a:CAt}{hp:Int}{hx:List Int}{G:Int→Option Gr}(h:Cps w a hp G)(hp1:hp≤4096){n pg:Int}(n1:1≤n)(n8:n≤8)(g0:0≤pg)(g1:pg≤4096)(hh:SlV w 22 1 a.hv hx.length (hx.map (Value.int .u32)))(hl:hx.length≤16){m:Mn}{ev pv:Value}(hm:MnAt w ev pv m)(hok:m.ok):
  Calls Tryz.prog 67 #[.pointer (some ⟨a.cb,0,none⟩),.int .i64 n,.agg (m.cells ev pv),.int .u32 pg] w (GrPost w a hp hx G n m pg):=by
 have hb0:Below w.heap.size w (w.alloc (.cells (m.cells ev pv) 29)):=(Below.refl _ _).alloc (Nat.le_refl _) _;have hb1:=hb0.alloc hb0.size (.cells #[.int .u32 pg] 22);have hbk0:((w.alloc (.cells (m.cells ev pv) 29)).alloc (.cells #[.int .u32 pg] 22)).heap[w.heap.size]? =some (.cells (m.cells ev pv) 29):=(Below.heap_alloc _ _ _ (lt_of_block (heap_alloc_new w _))).trans (heap_alloc_new w _);have hbk1:=heap_alloc_new (w.alloc (.cells (m.cells ev pv) 29)) (.cells #[.int .u32 pg] 22);rw[show(w.alloc (.cells (m.cells ev pv) 29)).heap.size=w.heap.size+1 by simp] at hbk1;have HB1:=Lh hb1;have HBk:=Lh (And.intro hbk0 hbk1);have HCk:=Lh (Dm.check (hm.below hb1));have HCps:=Lh fun V (hV:Below w.heap.size w V)=>h.below hV
 have HMn:=Lh fun V (hV:Below w.heap.size w V)=>hm.below hV
 have HAll:=Lh fun(hq:m.pages≤1024) (V:World) (hV:Below w.heap.size w V) (hpb:V.heap[w.heap.size+1]? =some (.cells #[.int .u32 pg] 22 (0,0)))=>all (w:=V) (a:=a) (m:=m) (ev:=ev) (pv:=pv) (pb:=w.heap.size+1) (noneE m.ext hx.length) (longE m.ext hx) (busyE G m) (fullE hp G m pg)
  (fun U hU=>none_any (h.below (below_th hV hU)) (hh.below (below_th hV hU)) hl (hm.below (below_th hV hU)) hok)
  (fun U hU=>long_any (h.below (below_th hV hU)) (hh.below (below_th hV hU)) hl (hm.below (below_th hV hU)) hok)
  (fun U hU=>busy (h.below (below_th hV hU)) (hm.below (below_th hV hU)))
  (fun U hU=>full (h.below (below_th hV hU)) hp1 ((hU.block _ (lt_of_block hpb)).trans hpb) hok.p0 hq (by omega) (by omega))
 have HOk:=Lh hok;have HL:=Lh hl;have HPp:=Lh hp1;have HZ0:=Lh (Below.refl w.heap.size w);have HF1:Hid (∀V,Gp.checkE m≠0→Below w.heap.size w V→GrPost w a hp hx G n m pg (.returned (.int .i64 2)) V):=Lh fun V h1 h2=>by
  have e:grantE hp hx G n m pg=2:=if_pos (.inr (.inr (.inl h1)));exact .inl ⟨by rw[e];decide,by rw[e],h2⟩
 have hck:Gp.checkE m=0→¬(n<1∨8<n∨Gp.checkE m≠0∨4096<pg):=fun h1=>by omega
 have HF9:Hid (∀V,Gp.checkE m=0→(G n).isSome=true→Below w.heap.size w V→GrPost w a hp hx G n m pg (.returned (.int .i64 9)) V):=Lh fun V h1 h2 h3=>by
  have e:grantE hp hx G n m pg=9:=(if_neg (hck h1)).trans (if_pos h2);exact .inl ⟨by rw[e];decide,by rw[e],h3⟩
 have HF2:Hid (∀V,Gp.checkE m=0→G n=none→grE hp hx G m pg≠0→Below w.heap.size w V→GrPost w a hp hx G n m pg (.returned (.int .i64 (grE hp hx G m pg))) V):=Lh fun V h1 hn h2 h3=>by
  have e:grantE hp hx G n m pg=grE hp hx G m pg:=(if_neg (hck h1)).trans (if_neg (by rw[hn];simp));exact .inl ⟨by rw[e];exact h2,by rw[e],h3⟩
 have HF3:Hid (∀V gb ev pv,Gp.checkE m=0→G n=none→grE hp hx G m pg=0→Cps V (a.put n gb ev pv) hp (Gp.upd G n (some ⟨m,pg,0⟩))→Mod (fun k=>k=a.mb) w V→(w.heap.size≤gb∧gb<V.heap.size)→(∀k,ev.ownBlock=some k∨pv.ownBlock=some k→w.heap.size≤k∧k<V.heap.size∧k≠gb)→GrPost w a hp hx G n m pg (.returned (.int .i64 0)) V):=Lh fun V gb ev pv h1 hn h2 h3 h4 h5 h6=>by
  have e:grantE hp hx G n m pg=grE hp hx G m pg:=(if_neg (hck h1)).trans (if_neg (by rw[hn];simp));exact .inr ⟨by rw[e];exact h2,rfl,gb,ev,pv,h3,h4,h5,h6⟩
 clear hck;generalize GrPost w a hp hx G n m pg=PQ at*;have hge:grE hp hx G m pg=firstE [noneE m.ext hx.length,longE m.ext hx,busyE G m,fullE hp G m pg]:=rfl;rw[←hge] at HAll;have HGe:=Lh hge;have HCell:Hid (∀V,Below ((w.alloc (.cells (m.cells ev pv) 29)).alloc (.cells #[.int .u32 pg] 22)).heap.size ((w.alloc (.cells (m.cells ev pv) 29)).alloc (.cells #[.int .u32 pg] 22)) V→V.heap[w.heap.size]? =some (.cells (m.cells ev pv) 29)∧V.heap[w.heap.size+1]? =some (.cells #[.int .u32 pg] 22)):=Lh fun V hV=>⟨(hV.block _ (lt_of_block HBk.out.1)).trans HBk.out.1,(hV.block _ (lt_of_block HBk.out.2)).trans HBk.out.2⟩
 obtain⟨c0,c1,c2,c3,cf⟩:=man_cells hbk0;unfold Mn.cells at*;clear hb0 hb1 hbk0 hbk1 h hh hm hok hl hge;go_enter func67,ntmps67;go_wp2_with fail;refine HCk.out.mono ?_;rintro e w2 ⟨rfl,hb2⟩;obtain⟨q0,q1⟩:=HCell.out _ hb2;have HB2:=Lh (below_th HB1.out hb2);have HG2:=Lh hb2;have HK2:=Lh (And.intro q0 q1);clear c0 c1 c2 c3 cf hb2;obtain⟨c0,c1,c2,c3,cf⟩:=man_cells q0;have c4:w2.cell? ⟨w.heap.size+1,0,none⟩=some (.int .u32 pg):=by unfold World.cell?;rw[q1];rfl
 clear q0 q1;obtain⟨ce,hce⟩:∃ce,Gp.checkE m=ce:=⟨_,rfl⟩;rw[hce]
 by_cases e0:ce=0
 case neg=>
  have hne:(ce != 0)=true:=bne_iff_ne.2 e0;have hend:=HF1.out w2 (by rw[hce];exact e0) HB2.out;clear HF1 HF2 HF3 HF9 hce;go_wp2
  first
   |exact hend
   |(go_ret;exact hend)
 subst e0;have HCe:=Lh hce;have hmay:=may_num hce;obtain⟨x0,x1,x2⟩:=(HCps.out w2 HB2.out).cells;have hlk:=(HCps.out w2 HB2.out).look (n:=n) ⟨by omega,by omega⟩;have HMay:=Lh hmay;clear hce hmay
 by_cases hgn:(G n).isSome=true
 ·rw[if_pos hgn] at hlk;have hend:=HF9.out w2 HCe.out hgn HB2.out;clear HF1 HF2 HF3 HF9 HAll;go_wp2
  first
   |exact hend
   |(go_ret;exact hend)
 rw[if_neg hgn] at hlk;have HNo:Hid (G n=none):=Lh (by cases q:G n with|none=>rfl|some g=>rw[q] at hgn;exact absurd rfl hgn);clear hgn HF9;go_wp2_with fail;refine(HAll.out HMay.out.2 _ HB2.out HK2.out.2).mono ?_;rintro e w3 ⟨rfl,hb3⟩;have HG3:=Lh (below_th HG2.out hb3);have HB3:=Lh (below_th HB2.out hb3);obtain⟨ge,hge⟩:∃ge,grE hp hx G m pg=ge:=⟨_,rfl⟩;rw[hge];clear hb3 c0 c1 c2 c3 cf c4 x0 x1 x2 hlk
 by_cases e0:ge=0
 case neg=>
  have hne:(ge != 0)=true:=bne_iff_ne.2 e0;have hend:=HF2.out w3 HCe.out HNo.out (by rw[hge];exact e0) HB3.out;rw[hge] at hend;clear HF1 HF2 HF3 hge;go_wp2
  first
   |exact hend
   |(go_ret;exact hend)
 subst e0;have hel:=ext_len HL.out HOk.out HCe.out (HGe.out.symm.trans hge);have HGz:=Lh hge;clear hge;obtain⟨eo,ec,rfl⟩:=(HMn.out w HZ0.out).e.form;obtain⟨po,pc,rfl⟩:=(HMn.out w HZ0.out).p.form;have HMay:=Lh (may_num HCe.out);have HC1:Hid (Calls Tryz.prog 174 #[.slice eo m.ext.length ec] w3.drew fun e w'=>∃v',e=.returned v'∧SlV w' 273 2 v' m.ext.length (extC m.ext)∧(∀b,v'.ownBlock=some b→w3.drew.heap.size≤b∧b<w'.heap.size)∧Below w3.drew.heap.size w3.drew w'):=Lh (Cl.clone_ext (extC_length _) (slv_at (HMn.out _ HB3.out.drew).e) (by omega) (one_ext _));have HC2:Hid (∀V,Below w3.drew.heap.size w3.drew V→Calls Tryz.prog 175 #[.slice po m.ports.length pc] V fun e w'=>∃v',e=.returned v'∧SlV w' 31 1 v' m.ports.length (m.ports.map (Value.int .u16))∧(∀b,v'.ownBlock=some b→V.heap.size≤b∧b<w'.heap.size)∧Below V.heap.size V w'):=Lh fun V hV=>Cl.clone_u16 (by simp) (slv_at (HMn.out V (below_th HB3.out.drew hV)).p) (by have:=HMay.out.1;omega) (one_u16 _)
 have HBd:Hid (∀V,Below w3.drew.heap.size w3.drew V→V.heap[w.heap.size]? =some (.cells #[.int .u32 m.pages,.slice eo m.ext.length ec,.slice po m.ports.length pc,.bool m.con] 29)∧V.heap[w.heap.size+1]? =some (.cells #[.int .u32 pg] 22)):=Lh fun V hV=>HCell.out V (below_th HG3.out.drew hV)
 have HDB:Hid (∀V,Below w3.drew.heap.size w3.drew V→V.cell? ⟨w.heap.size,0,none⟩=some (.int .u32 m.pages)∧V.cell? ⟨w.heap.size,1,none⟩=some (.slice eo m.ext.length ec)∧V.cell? ⟨w.heap.size,2,none⟩=some (.slice po m.ports.length pc)∧V.cell? ⟨w.heap.size,3,none⟩=some (.bool m.con)∧∀i,V.frozen? ⟨w.heap.size,i,none⟩=false):=Lh fun V hV=>man_cells (m:=m) (HBd.out V hV).1
 have HD:=Lh (HDB.out w3.drew (Below.refl _ _));have HBw:Hid (Below w.heap.size w w3.drew):=Lh HB3.out.drew;have HWl:Hid (w.heap.size<w3.drew.heap.size):=Lh (lt_of_block (HBd.out _ (Below.refl _ _)).1);clear HG3 HG2 HK2 HB2 HB3 HBk HCk HAll HF1 HF2 HCell HB1 HZ0;go_upto_region 11 with(fail);refine wp_region_E (fun w'=>w'.cell? ⟨w.heap.size,2,none⟩=some (.slice po m.ports.length pc)) 9 (by kernel_rfl) ?_
 change AnyE _ _ _ _ _ _ _ _ _ w3.drew
 generalize hwd:w3.drew=wd at*;refine LT 0 HD.out.2.2.1 ?_;refine LT 3 HD.out.2.2.1 ?_;refine LT 4 HD.out.2.2.1 ?_;refine LU 1 fun K hK=> ?_
 have d1:=HD.out.2.1;go_simp;refine LV hK (fun _=>HD.out.2.2.1) ?_;clear hK K;refine LU 2 fun K hK=> ?_
 go_simp;go_at_call 174;refine HC1.out.mono ?_;rintro e w4 ⟨v1,rfl,hs1,ho1,hb4⟩;have H4:=Lh (And.intro hs1 (And.intro ho1 hb4));have D4:=Lh (HDB.out _ hb4);obtain⟨o1,oc1,rfl⟩:=hs1.form;clear hs1 ho1 hb4;refine LV hK (fun _=>D4.out.2.2.1) ?_;clear hK K;refine LT 6 D4.out.2.2.1 ?_;refine LU 5 fun K hK=> ?_
 go_simp;go_at_call 175;refine(HC2.out _ H4.out.2.2).mono ?_;rintro e w5 ⟨v2,rfl,hs2,ho2,hb5⟩;have H5:=Lh (And.intro hs2 (And.intro ho2 hb5));have D5:=Lh (HDB.out _ (below_th H4.out.2.2 hb5));obtain⟨o2,oc2,rfl⟩:=hs2.form;clear hs2 ho2 hb5;refine LV hK (fun _=>D5.out.2.2.1) ?_;clear hK K;have HT6:Hid (∀v,(w5.setCell ⟨w.heap.size,1,none⟩ v).cell? ⟨w.heap.size,2,none⟩=some (.slice po m.ports.length pc)):=Lh fun v=>(World.cell?_setCell_other w5 ⟨w.heap.size,1,none⟩ ⟨w.heap.size,2,none⟩ v (by simp)).trans D5.out.2.2.1
 have HT7:Hid (∀v,(w5.setCell ⟨w.heap.size,1,none⟩ v).frozen? ⟨w.heap.size,2,none⟩=false):=Lh fun v=>by rw[World.frozen?_setCell];exact D5.out.2.2.2.2 2
 refine LU 7 fun K hK=> ?_
 have e1:=D5.out.2.1;have e1f:=D5.out.2.2.2.2 1;go_simp;refine LV hK (fun _=>(HT6.out _)) ?_;clear hK K;refine LT 8 (HT6.out _) ?_;refine LU 9 fun K hK=> ?_
 have e2:=HT6.out (.slice o1 m.ext.length oc1);have e2f:=HT7.out (.slice o1 m.ext.length oc1);go_simp;refine hK.out _ _ (fun e=>absurd rfl e) (fun _=> ?_);clear hK K;try simp only[Act.put,Za,Zb,Zc,Zd,Ze,Zf]
 refine E_done (by kernel_rfl) ?_ _;have hb5:Below wd.heap.size wd w5:=below_th H4.out.2.2 H5.out.2.2;have hwl5:w.heap.size<w5.heap.size:=Nat.lt_of_lt_of_le HWl.out hb5.size;have hbw5:Below w.heap.size w w5:=below_th HBw.out hb5;have hk5:=HBd.out w5 hb5;have hm6:Mod (fun i=>i=w.heap.size) w5 ((w5.setCell ⟨w.heap.size,1,none⟩ (.slice o1 m.ext.length oc1)).setCell ⟨w.heap.size,2,none⟩ (.slice o2 m.ports.length oc2)):=Mod.setCell (F:=fun i=>i=w.heap.size) (Mod.setCell (F:=fun i=>i=w.heap.size) (Mod.refl _ _) ⟨w.heap.size,1,none⟩ (.inl rfl) _) ⟨w.heap.size,2,none⟩ (.inl rfl) _;have hk6:=heap_setCell_same (w5.setCell ⟨w.heap.size,1,none⟩ (.slice o1 m.ext.length oc1)) w.heap.size 2 _ _ (.slice o2 m.ports.length oc2) (heap_setCell_same w5 w.heap.size 1 _ _ (.slice o1 m.ext.length oc1) hk5.1);have hk6b:=(hm6.block _ (lt_of_block hk5.2) (by omega)).trans hk5.2;have hz6:((w5.setCell ⟨w.heap.size,1,none⟩ (.slice o1 m.ext.length oc1)).setCell ⟨w.heap.size,2,none⟩ (.slice o2 m.ports.length oc2)).heap.size=w5.heap.size:=by simp[World.setCell]
 have hwd:=HBw.out.size;have hs1:=((H4.out.1.below H5.out.2.2).mod hm6 fun k hk e=>by have:=(H4.out.2.1 k hk).1;have:=HWl.out;omega);have hs2:=(H5.out.1.mod hm6 fun k hk e=>by have:=(H5.out.2.1 k hk).1;have:=H4.out.2.2.size;have:=HWl.out;omega);have ho1:∀k,(Value.slice o1 m.ext.length oc1).ownBlock=some k→wd.heap.size≤k∧k<w5.heap.size:=fun k hk=>⟨(H4.out.2.1 k hk).1,Nat.lt_of_lt_of_le (H4.out.2.1 k hk).2 H5.out.2.2.size⟩
 have ho2:∀k,(Value.slice o2 m.ports.length oc2).ownBlock=some k→wd.heap.size≤k∧k<w5.heap.size:=fun k hk=>⟨Nat.le_trans H4.out.2.2.size (H5.out.2.1 k hk).1,(H5.out.2.1 k hk).2⟩
 have hbw6:=Mod.below hbw5 hm6 hbw5.size fun k _ hk=>Nat.le_of_eq hk.symm
 rw[←hz6] at ho1 ho2;have hwl6:wd.heap.size≤((w5.setCell ⟨w.heap.size,1,none⟩ (.slice o1 m.ext.length oc1)).setCell ⟨w.heap.size,2,none⟩ (.slice o2 m.ports.length oc2)).heap.size:=by rw[hz6];exact hb5.size
 clear hz6 hm6 hk5 hb5 hwl5 hbw5 HT6 HT7 D5 D4 H4 H5 HC1 HC2 HD HDB HBd;go_upto_region 12 with(fail);generalize (w5.setCell ⟨w.heap.size,1,none⟩ (.slice o1 m.ext.length oc1)).setCell ⟨w.heap.size,2,none⟩ (.slice o2 m.ports.length oc2)=w6 at*;clear e1 e1f e2 e2f d1
 replace hk6:w6.heap[w.heap.size]? =some (.cells #[.int .u32 m.pages,.slice o1 m.ext.length oc1,.slice o2 m.ports.length oc2,.bool m.con] 29):=hk6
 have HMn6:Hid (MnAt w6 (.slice o1 m.ext.length oc1) (.slice o2 m.ports.length oc2) m):=Lh ⟨hs1,hs2⟩;have HO1:=Lh ho1;have HO2:=Lh ho2;have HB6:=Lh hbw6;have HW6:=Lh hwl6;have HH:=Lh hwd;have HEd:Hid (∀V,Below w6.drew.heap.size w6.drew V→(V.cell? ⟨w.heap.size,0,none⟩=some (.int .u32 m.pages)∧V.cell? ⟨w.heap.size,1,none⟩=some (.slice o1 m.ext.length oc1)∧V.cell? ⟨w.heap.size,2,none⟩=some (.slice o2 m.ports.length oc2)∧V.cell? ⟨w.heap.size,3,none⟩=some (.bool m.con))∧V.cell? ⟨w.heap.size+1,0,none⟩=some (.int .u32 pg)∧V.cell? ⟨a.cb,2,none⟩=some (.map (some a.mb))):=Lh fun V hV=>by
  have h1:=(hV.block _ (show w.heap.size<w6.drew.heap.size from lt_of_block hk6)).trans hk6;have h2:=(hV.block _ (show w.heap.size+1<w6.drew.heap.size from lt_of_block hk6b)).trans hk6b;obtain⟨g0,g1,g2,g3,_⟩:=man_cells (m:=m) h1;refine⟨⟨g0,g1,g2,g3⟩, ?_,(HCps.out V (below_th HB6.out.drew hV)).cells.2.2⟩;unfold World.cell?;rw[h2];rfl
 have HE:=Lh (HEd.out w6.drew (Below.refl _ _));have HEA:Hid (∀o,((w6.drew.alloc o).cell? ⟨w.heap.size,0,none⟩=some (.int .u32 m.pages)∧(w6.drew.alloc o).cell? ⟨w.heap.size,1,none⟩=some (.slice o1 m.ext.length oc1)∧(w6.drew.alloc o).cell? ⟨w.heap.size,2,none⟩=some (.slice o2 m.ports.length oc2)∧(w6.drew.alloc o).cell? ⟨w.heap.size,3,none⟩=some (.bool m.con))∧(w6.drew.alloc o).cell? ⟨w.heap.size+1,0,none⟩=some (.int .u32 pg)∧(w6.drew.alloc o).cell? ⟨a.cb,2,none⟩=some (.map (some a.mb))):=Lh fun o=>HEd.out _ ((Below.refl _ _).alloc (Nat.le_refl _) o)
 have hb7:Below w6.drew.heap.size w6.drew (w6.drew.alloc (.cells #[.int .u32 m.pages,.slice o1 m.ext.length oc1,.slice o2 m.ports.length oc2,.bool m.con,.int .u32 pg,.int .u32 0] 276)):=(Below.refl _ _).alloc (Nat.le_refl _) _;have hbw7:=below_th HB6.out.drew hb7;have hmbl:a.mb<w.heap.size:=(HCps.out w (Below.refl _ _)).lt (.inr (.inl rfl));have hd6:w6.drew.heap.size=w6.heap.size:=rfl;have hft:Gp.sum G+(m.pages+pg)≤hp:=by
  have h1:=HGe.out.symm.trans HGz.out;have h2:fullE hp G m pg=0:=by
   unfold firstE at h1
   by_cases q:fullE hp G m pg=0
   ·exact q
   ·exfalso
    have hq:(fullE hp G m pg != 0)=true:=bne_iff_ne.2 q;simp only[List.find?_cons,hq] at h1
    split at h1
    ·rename_i z;simp at h1;rw[h1] at z;simp at z
    ·split at h1
     ·rename_i z;simp at h1;rw[h1] at z;simp at z
     ·split at h1
      ·rename_i z;simp at h1;rw[h1] at z;simp at z
      ·simp at h1;exact q h1
  unfold fullE at h2
  split at h2
  ·cases h2
  ·omega
 have hcz:=HCps.out w (Below.refl _ _);obtain⟨w8,hrun,hc8,hm8⟩:=Cps.insert (HCps.out _ hbw7) n1 n8 HNo.out (g:=⟨m,pg,0⟩) (gb:=w6.drew.heap.size) (heap_alloc_new w6.drew (.cells #[.int .u32 m.pages,.slice o1 m.ext.length oc1,.slice o2 m.ports.length oc2,.bool m.con,.int .u32 pg,.int .u32 0] 276)) ((HMn6.out.below (Below.refl _ _).drew).below hb7) ⟨HOk.out,Int.le_refl 0,HOk.out.p0,g0⟩ (by omega) (fun k hk e=>by have:=hcz.lt (.inr (.inr ⟨k,hk,rfl⟩));omega) hft;have hz7:(w6.drew.alloc (.cells #[.int .u32 m.pages,.slice o1 m.ext.length oc1,.slice o2 m.ports.length oc2,.bool m.con,.int .u32 pg,.int .u32 0] 276)).heap.size=w6.heap.size+1:=by simp
 have hz8:=hm8.size;have hm9:Mod (fun k=>k=a.mb) w w8:=(Mod.of_below hbw7 _).trans hm8 fun _ _ g=>.inl g
 have hend:=HF3.out w8 w6.drew.heap.size (.slice o1 m.ext.length oc1) (.slice o2 m.ports.length oc2) HCe.out HNo.out HGz.out hc8 hm9 ⟨by omega,by omega⟩ (fun k hk=>by
  rcases hk with hk|hk
  ·have:=HO1.out k hk;omega
  ·have:=HO2.out k hk;omega)
 have HRun:=Lh hrun;have HEnd:=Lh hend;clear hcz hft hb7 hbw7 hmbl hd6 hrun hc8 hm8 hz7 hz8 hm9 hend HF3 HO1 HO2 HB6 HW6 HH HMn6 HEd hk6 hk6b hs1 hs2 ho1 ho2 hbw6 hwl6 hwd;refine wp_region_E (fun w'=>(w'.cell? ⟨w.heap.size,0,none⟩=some (.int .u32 m.pages)∧w'.cell? ⟨w.heap.size,1,none⟩=some (.slice o1 m.ext.length oc1)∧w'.cell? ⟨w.heap.size,2,none⟩=some (.slice o2 m.ports.length oc2)∧w'.cell? ⟨w.heap.size,3,none⟩=some (.bool m.con))∧w'.cell? ⟨w.heap.size+1,0,none⟩=some (.int .u32 pg)∧w'.cell? ⟨a.cb,2,none⟩=some (.map (some a.mb))) 9 (by kernel_rfl) ?_
 change AnyE _ _ _ _ _ _ _ _ _ w6.drew
 generalize hwe:w6.drew=we at*;refine LT 0 HE.out ?_;refine LT 1 HE.out ?_;refine LT 2 HE.out ?_;refine LT 3 HE.out ?_;refine LT 4 HE.out ?_;refine LT 5 HE.out ?_;refine LT 6 HE.out ?_;refine LT 7 HE.out ?_;refine LU 8 fun K hK=> ?_
 go_simp;refine LV hK (fun _=>(HEA.out _)) ?_;clear hK K;refine LU 9 fun K hK=> ?_
 have hrun:=HRun.out;go_simp;refine hK.out _ _ (fun e=>absurd rfl e) (fun _=> ?_);clear hK K;try simp only[Act.put,Za,Zb,Zc,Zd,Ze,Zf]
 refine E_done (by kernel_rfl) ?_ _;clear hrun;go_wp2
 first
  |exact HEnd.out
  |(go_ret;exact HEnd.out)
theorem grant{w:World}{a:CAt}{hp:Int}{hx:List Int}{G:Int→Option Gr}(h:Cps w a hp G)(hp1:hp≤4096){n pg:Int}(g0:0≤pg)(hh:SlV w 22 1 a.hv hx.length (hx.map (Value.int .u32)))(hl:hx.length≤16){m:Mn}{ev pv:Value}(hm:MnAt w ev pv m)(hok:m.ok):
  Calls Tryz.prog 67 #[.pointer (some ⟨a.cb,0,none⟩),.int .i64 n,.agg (m.cells ev pv),.int .u32 pg] w (GrPost w a hp hx G n m pg):=by
 by_cases q:1≤n∧n≤8∧pg≤4096
 ·exact grant_in h hp1 q.1 q.2.1 g0 q.2.2 hh hl hm hok
 have hb0:Below w.heap.size w (w.alloc (.cells (m.cells ev pv) 29)):=(Below.refl _ _).alloc (Nat.le_refl _) _;have hb1:=hb0.alloc hb0.size (.cells #[.int .u32 pg] 22);have hbk0:((w.alloc (.cells (m.cells ev pv) 29)).alloc (.cells #[.int .u32 pg] 22)).heap[w.heap.size]? =some (.cells (m.cells ev pv) 29):=(Below.heap_alloc _ _ _ (lt_of_block (heap_alloc_new w _))).trans (heap_alloc_new w _);have hbk1:=heap_alloc_new (w.alloc (.cells (m.cells ev pv) 29)) (.cells #[.int .u32 pg] 22);rw[show(w.alloc (.cells (m.cells ev pv) 29)).heap.size=w.heap.size+1 by simp] at hbk1;have HCk:=Lh (Dm.check (hm.below hb1));have HBk:=Lh (And.intro hbk0 hbk1);have HB1:=Lh hb1;have he:grantE hp hx G n m pg=2:=if_pos (by omega);have HF:Hid (∀V,Below w.heap.size w V→GrPost w a hp hx G n m pg (.returned (.int .i64 2)) V):=Lh fun V hV=>.inl ⟨by rw[he];decide,by rw[he],hV⟩
 generalize GrPost w a hp hx G n m pg=PQ at*;obtain⟨c0,c1,c2,c3,cf⟩:=man_cells hbk0;unfold Mn.cells at*;clear hb0 hb1 hbk0 hbk1 he h hh hm hok hl
 by_cases q1:n<1
 ·have hend:=HF.out _ HB1.out;go_enter func67,ntmps67;go_wp2
  first
   |exact hend
   |(go_ret;exact hend)
 by_cases q8:8<n
 ·have hend:=HF.out _ HB1.out;go_enter func67,ntmps67;go_wp2
  first
   |exact hend
   |(go_ret;exact hend)
 have qp:4096<pg:=by omega
 clear q;go_enter func67,ntmps67;go_wp2_with fail;refine HCk.out.mono ?_;rintro e w2 ⟨rfl,hb2⟩;have hend:=HF.out _ (below_th HB1.out hb2);have q1':=(hb2.block _ (lt_of_block HBk.out.2)).trans HBk.out.2;have c4:w2.cell? ⟨w.heap.size+1,0,none⟩=some (.int .u32 pg):=by unfold World.cell?;rw[q1'];rfl
 clear hb2 q1' c0 c1 c2 c3 cf;obtain⟨ce,hce⟩:∃ce,Gp.checkE m=ce:=⟨_,rfl⟩;rw[hce];clear hce
 by_cases e0:ce=0
 ·subst e0;go_wp2
  first
   |exact hend
   |(go_ret;exact hend)
 ·have hne:(ce != 0)=true:=bne_iff_ne.2 e0;go_wp2
  first
   |exact hend
   |(go_ret;exact hend)
end Ca
theorem KStep.grant{w w':World}{a:KAt}{K:Kn}(h:Knl w a K){n:Int}{g:Gr}{gb:Nat}{ev pv:Value}(hc:Cps w' (a.c.put n gb ev pv) K.hp (Gp.upd K.g n (some g)))(hm:Mod (fun k=>k=a.c.mb) w w')(hg:w.heap.size≤gb∧gb<w'.heap.size)(hv:∀k,ev.ownBlock=some k∨pv.ownBlock=some k→w.heap.size≤k∧k<w'.heap.size∧k≠gb):
  ∃a',KStep w w' a K a' { K with g:=Gp.upd K.g n (some g) }:=by
 have hz:=hm.size;have hmb:a.tag a.c.mb=2:=h.t2 _ (.inr (.inl rfl));have ne:∀k,a.tag k≠2→¬k=a.c.mb:=fun k hk e=>hk (e▸hmb)
 obtain⟨T,hT⟩:∃T:Nat→Nat,T=fun k=>if k<w.heap.size then a.tag k else if k=gb then 2 else if k<w'.heap.size then 5 else 0:=⟨_,rfl⟩
 have To:∀k,k<w.heap.size→T k=a.tag k:=fun k hk=>by rw[hT];exact if_pos hk
 have Ta:∀k,a.tag k≠0→T k=a.tag k:=fun k hk=>To k (h.lt k hk)
 have Tg:T gb=2:=by
  rw[hT]
  show(if gb<w.heap.size then _ else _)=2
  rw[if_neg (by omega),if_pos rfl]
 have Tv:∀k,ev.ownBlock=some k∨pv.ownBlock=some k→T k=5:=fun k hk=>by
  have:=hv k hk;rw[hT]
  show(if k<w.heap.size then _ else _)=5
  rw[if_neg (by omega),if_neg (by omega),if_pos this.2.1]
 have hsm:∀k,(Gp.upd K.g n (some g) k).isSome=true→k=n∨k≠n∧(K.g k).isSome=true:=fun k hk=>by
  by_cases e:k=n
  ·exact .inl e
  ·rw[Gp.upd_ne _ _ e] at hk;exact .inr ⟨e,hk⟩
 refine⟨{ a with c:=a.c.put n gb ev pv,tag:=T }, ?_⟩;exact⟨{
      head:=(hm.block _ (lt_of_block h.head) (ne _ (by rw[h.t1];decide))).trans h.head
      hx:=SlV.mod h.hx hm fun k hk=>ne k (by rw[h.t5 k (.inl hk)];decide)
      chx:=SlV.mod h.chx hm fun k hk=>ne k (by rw[h.t5 k (.inr (.inl hk))];decide)
      caps:=hc
      nic:=KStep.nic_fit (h.nic.keep hm fun k (hk:a.tag k=3)=>ne k (by rw[hk];decide)) fun k (hk:a.tag k=3) _=>(Ta k (by rw[hk];decide)).trans hk
      len:=h.len
      outer:=h.outer.mod hm fun k hk=>ne k (by rw[h.t4 k hk];decide)
      inner:=fun i v l hv hl=>(h.inner i v l hv hl).mod hm fun k hk=>ne k (by rw[h.t6 i v k hv hk];omega)
      ok:=⟨h.ok.n0,h.ok.n1,h.ok.bs,h.ok.q,h.ok.hl,h.ok.g0⟩
      t1:=(Ta _ (by rw[h.t1];decide)).trans h.t1
      t2:=fun k hk=>by
       rcases hk with e|e|⟨x,hx,e⟩
       ·have:=h.t2 k (.inl e);exact(Ta k (by rw[this];decide)).trans this
       ·have:=h.t2 k (.inr (.inl e));exact(Ta k (by rw[this];decide)).trans this
       ·rcases hsm x hx with rfl|⟨q,q'⟩
        ·have e:k=(a.c.put x gb ev pv).gb x:=e;rw[(a.c.put_at x gb ev pv).1] at e;rw[e];exact Tg
        ·have e:k=(a.c.put n gb ev pv).gb x:=e;rw[(a.c.put_ne gb ev pv q).1] at e;have:=h.t2 k (.inr (.inr ⟨x,q',e⟩));exact(Ta k (by rw[this];decide)).trans this
      t4:=fun k hk=>(Ta k (by rw[h.t4 k hk];decide)).trans (h.t4 k hk)
      t5:=fun k hk=>by
       rcases hk with e|e|e
       ·have:=h.t5 k (.inl e);exact(Ta k (by rw[this];decide)).trans this
       ·have:=h.t5 k (.inr (.inl e));exact(Ta k (by rw[this];decide)).trans this
       ·obtain⟨x,hx,e⟩:=e;rcases hsm x hx with rfl|⟨q,q'⟩
        ·have e:((a.c.put x gb ev pv).ev x).ownBlock=some k∨((a.c.put x gb ev pv).pv x).ownBlock=some k:=e;rw[(a.c.put_at x gb ev pv).2.1,(a.c.put_at x gb ev pv).2.2] at e;exact Tv k e
        ·have e:((a.c.put n gb ev pv).ev x).ownBlock=some k∨((a.c.put n gb ev pv).pv x).ownBlock=some k:=e;rw[(a.c.put_ne gb ev pv q).2.1,(a.c.put_ne gb ev pv q).2.2] at e;have:=h.t5 k (.inr (.inr ⟨x,q',e⟩));exact(Ta k (by rw[this];decide)).trans this
      t6:=fun i v k hv hk=>(Ta k (by rw[h.t6 i v k hv hk];omega)).trans (h.t6 i v k hv hk)
      lt:=fun k hk=>by
       have hk:T k≠0:=hk;rcases Nat.lt_or_ge k w.heap.size with g|g
       ·omega
       ·rw[hT] at hk;have hk:(if k<w.heap.size then a.tag k else if k=gb then 2 else if k<w'.heap.size then 5 else 0)≠0:=hk;rw[if_neg (by omega)] at hk
        split at hk
        ·omega
        ·split at hk
         ·assumption
         ·exact absurd rfl hk },⟨rfl,rfl,rfl⟩,hm.mono fun i _ g=>by subst g;exact⟨by rw[hmb];decide,by rw[hmb];decide⟩,To⟩
def KGrPost(w:World)(a:KAt)(K:Kn)(n:Int)(m:Mn)(pg:Int)(e:Ending)(w':World):Prop:=
 (Ca.grantE K.hp K.hx K.g n m pg≠0∧e=.returned (.int .i64 (Ca.grantE K.hp K.hx K.g n m pg))∧Below w.heap.size w w')∨
 (Ca.grantE K.hp K.hx K.g n m pg=0∧e=.returned (.int .i64 0)∧∃a',KStep w w' a K a' { K with g:=Gp.upd K.g n (some ⟨m,pg,0⟩) })
theorem Kl.grant{w:World}{a:KAt}{K:Kn}(h:Knl w a K)(hp1:K.hp≤4096)(hl:K.hx.length≤16){n pg:Int}(g0:0≤pg){m:Mn}{ev pv:Value}(hm:MnAt w ev pv m)(hok:m.ok):
  Calls Tryz.prog 67 #[.pointer (some ⟨a.c.cb,0,none⟩),.int .i64 n,.agg (m.cells ev pv),.int .u32 pg] w (KGrPost w a K n m pg):=by
 refine(Ca.grant h.caps hp1 g0 h.chx hl hm hok).mono ?_;rintro e w' (g|⟨g2,g3,gb,ev,pv,g4,g5,g6,g7⟩)
 ·exact .inl g
 ·exact .inr ⟨g2,g3,KStep.grant h g4 g5 g6 g7⟩
namespace Gp
def met(f:Int→Bool)(G:Int→Option Gr):Int→Option Gr:=fun k=>if f k=true then none else G k
theorem met_sum(f:Int→Bool)(G:Int→Option Gr):sum (met f G)=sumL f G:=sum8_congr fun k=>by
 unfold met
 split<;>rfl
theorem met_step{f f':Int→Bool}{G:Int→Option Gr}{x:Int}(h1:f x=true)(h2:f' x=false)(h3:∀y,y≠x→f' y=f y):met f' G=upd (met f G) x (G x):=by
 funext k
 unfold met upd
 by_cases e:k=x
 ·subst e;rw[if_pos rfl,h2];simp
 ·rw[if_neg e,h3 k e]
theorem met_at{f:Int→Bool}{G:Int→Option Gr}{x:Int}(h:f x=true):met f G x=none:=if_pos h
theorem met_all{f:Int→Bool}{G:Int→Option Gr}(h:∀k,(G k).isSome=true→f k=true):met f G=fun _=>none:=by
 funext k
 unfold met
 split
 ·rfl
 ·rename_i q
  cases hk:G k with
  |none=>rfl
  |some g=>exact absurd (h k (by rw[hk];rfl)) q
theorem met_none{f:Int→Bool}{G:Int→Option Gr}(h:∀k,f k=false):met f G=G:=by
 funext k
 unfold met;rw[h k];rfl
end Gp
structure CaCopy(w w':World)(a:CAt)(hp:Int)(G:Int→Option Gr)(c:CAt):Prop where
 cps:Cps w' c hp G
 hv:c.hv=a.hv
 ev:∀n,(G n).isSome=true→c.ev n=a.ev n∧c.pv n=a.pv n
 wf:∀k,c.wf G k→w.heap.size≤k∧k<w'.heap.size
 bel:Below w.heap.size w w'
structure CpB(w w4:World)(a:KAt)(K:Kn)(c:CAt)(nb mb:Nat)(V:Int→Value)(sv:Value)(ob kb:Nat):Prop where
 bel:Below w.heap.size w w4
 cps:Cps w4 c K.hp K.g
 hv:c.hv=a.c.hv
 ev:∀n,(K.g n).isSome=true→c.ev n=a.c.ev n∧c.pv n=a.c.pv n
 wf:∀k,c.wf K.g k→w.heap.size≤k∧k<w4.heap.size∧k≠ob∧k≠kb∧¬Ni.foot nb mb V sv k
 n:Ni.Nc w4 nb mb V sv K.N
 ft:∀k,Ni.foot nb mb V sv k→w.heap.size≤k∧k<w4.heap.size∧k≠ob∧k≠kb
 ol:w.heap.size≤ob∧ob<w4.heap.size
 kl:w.heap.size≤kb∧kb<w4.heap.size
 ne:kb≠ob
structure CpR(w4:World)(a:KAt)(K:Kn)(ob kb:Nat)(hd:Array Value)(i:Nat)(cur:Array Value)(wr:World):Prop where
 old:Mod (fun k=>k=ob) w4 wr
 hob:wr.heap[ob]? =some (.cells cur 35 (0,0))
 sz:cur.size=K.B.length
 hkb:wr.heap[kb]? =some (.cells hd 155 (0,0))
 row:∀(j:Nat) (v:Value) (l:List ByteArray),j<i→cur[j]? =some v→K.B[j]? =some l→SlV wr 9 1 v l.length (l.map .string)
 own:∀(j:Nat) (v:Value) (k:Nat),j<i→cur[j]? =some v→v.ownBlock=some k→w4.heap.size≤k∧k<wr.heap.size
 dist:∀(j q:Nat) (v u:Value) (k:Nat),j<i→q<i→cur[j]? =some v→cur[q]? =some u→v.ownBlock=some k→u.ownBlock=some k→j=q
theorem Knl.copied{w w4 w3:World}{a:KAt}{K:Kn}(h:Knl w a K){c:CAt}{nb mb:Nat}{V:Int→Value}{sv:Value}{ob kb:Nat}(B:CpB w w4 a K c nb mb V sv ob kb)
  {cur:Array Value} (R:CpR w4 a K ob kb #[.int .u32 K.hp,a.hv,.pointer (some ⟨c.cb,0,none⟩),.pointer (some ⟨nb,0,none⟩),.slice (some ⟨ob,0,none⟩) K.B.length K.B.length,.int .u32 K.now] K.B.length cur w3):
  ∃a',Knl w3 a' K∧a'.kb=kb∧a'.c.cb=c.cb∧a'.nb=nb∧∀k,a'.tag k≠0→w.heap.size≤k∨a.tag k=5∧a'.tag k=5:=by
 have z1:=B.bel.size;have z2:=R.old.size;have hbw3:Below w.heap.size w w3:=Mod.below B.bel R.old z1 fun k _ e=>by subst e;exact B.ol.1
 have lk:=B.kl;have lo:=B.ol;have hne:=B.ne;have hlt5:∀k,a.tag k=5→k<w.heap.size:=fun k hk=>h.lt k (by rw[hk];decide)
 have hrf:∀k,c.rf K.g k→a.tag k=5:=fun k ⟨n,hn,g⟩=>h.t5 k (.inr (.inr ⟨n,hn,by
  obtain⟨e1,e2⟩:=B.ev n hn;rw[e1,e2] at g;exact g⟩))
 have hrow:∀(i:Nat) (v:Value) (l:List ByteArray),cur.toList[i]? =some v→K.B[i]? =some l→SlV w3 9 1 v l.length (l.map .string):=fun i v l hv hl=>R.row i v l (List.getElem?_eq_some_iff.1 hl).1 (by simpa using hv) hl
 have hlen:cur.toList.length=K.B.length:=by rw[Array.length_toList];exact R.sz
 have hrb:∀(i:Nat) (v:Value) (k:Nat),cur.toList[i]? =some v→v.ownBlock=some k→w4.heap.size≤k∧k<w3.heap.size:=fun i v k hv hk=>R.own i v k (by have:=(List.getElem?_eq_some_iff.1 hv).1;omega) (by simpa using hv) hk
 have hrd:∀(i j:Nat) (v u:Value) (k:Nat),cur.toList[i]? =some v→cur.toList[j]? =some u→v.ownBlock=some k→u.ownBlock=some k→i=j:=fun i j v u k hv hu hk hk2=>R.dist i j v u k (by have:=(List.getElem?_eq_some_iff.1 hv).1;omega) (by have:=(List.getElem?_eq_some_iff.1 hu).1;omega) (by simpa using hv) (by simpa using hu) hk hk2
 have hobv:w3.heap[ob]? =some (.cells cur.toList.toArray 35 (0,0)):=by rw[Array.toArray_toList];exact R.hob
 generalize cur.toList=vs at*;obtain⟨T,hT⟩:∃T:Nat→Nat,T=fun k=>if k=kb then 1 else if k=ob then 4 else if k<w.heap.size then(if a.tag k=5 then 5 else 0) else if k<w4.heap.size then(haveI:=Classical.propDecidable (Ni.foot nb mb V sv k);if Ni.foot nb mb V sv k then 3 else 2) else if k<w3.heap.size then(match vs.findIdx? fun v=>v.ownBlock == some k with|some i=>6+i|none=>0) else 0:=⟨_,rfl⟩
 have t1:T kb=1:=by rw[hT];exact if_pos rfl
 have t4:T ob=4:=by
  rw[hT]
  show(if ob=kb then 1 else _)=4
  rw[if_neg (fun e=>hne e.symm),if_pos rfl]
 have t5:∀k,a.tag k=5→T k=5:=fun k hk=>by
  have hlt:=hlt5 k hk;rw[hT]
  show(if k=kb then 1 else _)=5
  rw[if_neg (by omega),if_neg (by omega),if_pos hlt,if_pos hk]
 have t2:∀k,c.wf K.g k→T k=2:=fun k hk=>by
  obtain⟨q1,q2,q3,q4,q5⟩:=B.wf k hk;rw[hT]
  show(if k=kb then 1 else _)=2
  rw[if_neg q4,if_neg q3,if_neg (by omega),if_pos q2,if_neg q5]
 have t3:∀k,Ni.foot nb mb V sv k→T k=3:=fun k hk=>by
  obtain⟨q1,q2,q3,q4⟩:=B.ft k hk;rw[hT]
  show(if k=kb then 1 else _)=3
  rw[if_neg q4,if_neg q3,if_neg (by omega),if_pos q2,if_pos hk]
 have t6:∀(i:Nat) (v:Value) (k:Nat),vs[i]? =some v→v.ownBlock=some k→T k=6+i:=fun i v k hv hk=>by
  obtain⟨q1,q2⟩:=hrb i v k hv hk;have hf:vs.findIdx? (fun v=>v.ownBlock == some k)=some i:=by
   rw[List.findIdx?_eq_some_iff_getElem];obtain⟨hi,hvi⟩:=List.getElem?_eq_some_iff.1 hv;refine⟨hi,by rw[hvi,hk];simp,fun j hj=> ?_⟩;intro e;have e:=beq_iff_eq.1 e;have:=hrd j i _ _ k (Zg (by omega)) hv e hk;omega
  rw[hT]
  show(if k=kb then 1 else _)=6+i
  rw[if_neg (by omega),if_neg (by omega),if_neg (by omega),if_neg (by omega),if_pos q2,hf]
 have t0:∀k,T k≠0→k<w3.heap.size∧(w.heap.size≤k∨a.tag k=5∧T k=5):=fun k hk=>by
  by_cases e1:k=kb
  ·subst e1;exact⟨by omega,.inl (by omega)⟩
  by_cases e2:k=ob
  ·subst e2;exact⟨by omega,.inl (by omega)⟩
  by_cases e3:k<w.heap.size
  ·by_cases e4:a.tag k=5
   ·exact⟨by omega,.inr ⟨e4,t5 k e4⟩⟩
   ·rw[hT] at hk;have hk:(if k=kb then 1 else _)≠0:=hk;rw[if_neg e1,if_neg e2,if_pos e3,if_neg e4] at hk;exact absurd rfl hk
  by_cases e5:k<w3.heap.size
  ·exact⟨e5,.inl (by omega)⟩
  ·rw[hT] at hk;have hk:(if k=kb then 1 else _)≠0:=hk;rw[if_neg e1,if_neg e2,if_neg e3,if_neg (by omega),if_neg e5] at hk;exact absurd rfl hk
 refine⟨⟨kb,c,nb,a.hv,.slice (some ⟨ob,0,none⟩) K.B.length K.B.length,vs,T⟩, ?_,rfl,rfl,rfl,fun k hk=>(t0 k hk).2⟩;exact {
     head:=R.hkb
     hx:=(show SlV w _ 1 a.hv _ _ from h.hx).below hbw3
     chx:=by show SlV w3 _ 1 c.hv _ _;rw[B.hv];exact(show SlV w _ 1 a.c.hv _ _ from h.chx).below hbw3
     caps:=B.cps.mod R.old fun k hk e=>by
      rcases hk with hk|hk
      ·exact(B.wf k hk).2.2.1 e
      ·have:=hlt5 k (hrf k hk);omega
     nic:=(show Ni.NicO w3 (fun k=>T k=3) nb K.N from⟨mb,V,sv,B.n.keep R.old fun k hk e=>(B.ft k hk).2.2.1 e,fun k hk=>t3 k hk⟩)
     len:=hlen
     outer:=by
      rw[hlen];refine⟨by rw[hlen,Nat.mul_one], ?_⟩
      by_cases q:K.B.length=0
      ·exact .inl ⟨q,_,by rw[q]⟩
      ·refine .inr ⟨ob,0,K.B.length,vs.toArray,rfl,hobv,Nat.le_refl _, ?_,by simp[hlen],fun j hj=>by simp⟩;exact slv_len h.outer|>fun z=>by rw[h.len] at z;exact z
     inner:=hrow
     ok:=h.ok
     t1:=t1
     t2:=fun k hk=>t2 k hk
     t4:=fun k hk=>by
      have hk:some ob=some k:=hk;cases hk;exact t4
     t5:=fun k hk=>t5 k (by
      rcases hk with g|g|g
      ·exact h.t5 k (.inl g)
      ·exact h.t5 k (.inr (.inl (by have g:c.hv.ownBlock=some k:=g;rw[B.hv] at g;exact g)))
      ·exact hrf k g)
     t6:=t6
     lt:=fun k hk=>(t0 k hk).1 }
theorem CpB.parts{w p1 p2 p3 p4 w4:World}{a:KAt}{K:Kn}(h:Knl w a K){c:CAt}{nb mb:Nat}{V:Int→Value}{sv:Value}{ob kb:Nat}(b1:Below w.heap.size w p1)(hc:CaCopy p1 p2 a.c K.hp K.g c)(b3:Below p2.heap.size p2 p3)
  (hn:Ni.Nc p4 nb mb V sv K.N) (hf:∀k,Ni.foot nb mb V sv k→p3.heap.size≤k) (b4:Below p3.heap.size p3 p4) (b5:Below p4.heap.size p4 w4)
  (ho:w.heap.size≤ob∧ob<w4.heap.size∧(ob<p1.heap.size∨p2.heap.size≤ob∧ob<p3.heap.size∨p4.heap.size≤ob)) (hk:p4.heap.size≤kb∧kb<w4.heap.size) (ne:kb≠ob):CpB w w4 a K c nb mb V sv ob kb:=by
 have z1:=b1.size;have z2:=hc.bel.size;have z3:=b3.size;have z4:=b4.size;have z5:=b5.size;have b35:=below_th (below_th b3 b4) b5;exact {
     bel:=below_th (below_th b1 hc.bel) b35
     cps:=hc.cps.below b35
     hv:=hc.hv
     ev:=hc.ev
     wf:=fun k hk=>by
      obtain⟨q1,q2⟩:=hc.wf k hk;refine⟨by omega,by omega,by omega,by omega,fun g=> ?_⟩;have:=hf k g;omega
     n:=hn.keep (G:=fun _=>False) (Mod.of_below b5 _) fun _ _ g=>g
     ft:=fun k g=>by
      have q1:=hf k g;have q2:=hn.lt k g;exact⟨by omega,by omega,by omega,by omega⟩
     ol:=⟨ho.1,ho.2.1⟩
     kl:=⟨by omega,hk.2⟩
     ne:=ne }
def KCopyPost(w:World)(a:KAt)(K:Kn)(e:Ending)(w':World):Prop:=
 ∃a',e=.returned (.pointer (some ⟨a'.kb,0,none⟩))∧Knl w' a' K∧(∀k,a'.tag k≠0→w.heap.size≤k∨a.tag k=5∧a'.tag k=5)∧Below w.heap.size w w'
theorem nodup_le:∀(l m:List Int),l.Nodup→(∀x,x∈l→x∈m)→l.length≤m.length
 | [],_,_,_=>Nat.zero_le _
 |x::l,m,hn,h=>by
  obtain⟨h1,h2⟩:=List.nodup_cons.1 hn;have hx:=h x (List.mem_cons_self ..);have:=nodup_le l (m.erase x) h2 fun y hy=>by
   have hne:y≠x:=fun e=>h1 (e▸hy)
   exact(List.mem_erase_of_ne hne).2 (h y (List.mem_cons_of_mem _ hy))
  rw[List.length_erase_of_mem hx] at this;have:=List.length_pos_of_mem hx;rw[List.length_cons];omega
theorem Ni.Nc.ports{w:World}{nb mb:Nat}{V:Int→Value}{sv:Value}{S:Ni.NicS}(h:Ni.Nc w nb mb V sv S){l:List Int}(h1:l.Nodup)(h2:∀x,x∈l↔x∈S.ports):Ni.Nc w nb mb V sv { S with ports:=l }:=by
 have hl:l.length=S.ports.length:=by
  have:=nodup_le l S.ports h1 fun x hx=>(h2 x).1 hx
  have:=nodup_le S.ports l h.nodup fun x hx=>(h2 x).2 hx
  omega
 obtain⟨D,n,ho,hv,hz,hh⟩:=h.map;exact { h with
  head:=h.head
  map:=⟨D,n,ho,hv,by rw[hz];exact hl.symm,fun x=>by rw[hh];exact decide_eq_decide.2 (h2 x).symm⟩
  nodup:=h1
  range:=fun x hx=>h.range x ((h2 x).1 hx) }
namespace Rc
def all:List Int:=[1,2,3,4,5,6,7,8]
def one(G:Int→Option Gr)(n:Int):Option (Int×Gr):=(G n).map fun g=>(n,g)
def canon(G:Int→Option Gr):List (Int×Gr):=all.filterMap (one G)
def lo(G:Int→Option Gr)(n:Int):List (Int×Gr):=(all.filter fun k=>decide (k<n)).filterMap (one G)
def hi(G:Int→Option Gr)(n:Int):List (Int×Gr):=(all.filter fun k=>decide (n<k)).filterMap (one G)
theorem all_split{n:Int}(n1:1≤n)(n8:n≤8):all=(all.filter fun k=>decide (k<n))++([n]++all.filter fun k=>decide (n<k)):=by
 have hn:n=1∨n=2∨n=3∨n=4∨n=5∨n=6∨n=7∨n=8:=by omega
 rcases hn with rfl|rfl|rfl|rfl|rfl|rfl|rfl|rfl<;>decide
theorem split(G:Int→Option Gr){n:Int}(n1:1≤n)(n8:n≤8):canon G=lo G n++((one G n).toList++hi G n):=by
 unfold canon
 conv=>lhs;rw[all_split n1 n8]
 rw[List.filterMap_append,List.filterMap_append];have:([n]:List Int).filterMap (one G)=(one G n).toList:=by
  rw[List.filterMap_cons];cases one G n<;>rfl
 rw[this];rfl
theorem fm_congr{X:Type}{l:List Int}{f g:Int→Option X}(h:∀k,k∈l→f k=g k):l.filterMap f=l.filterMap g:=by
 induction l with
 |nil=>rfl
 |cons a l ih=>
  rw[List.filterMap_cons,List.filterMap_cons,h a (List.mem_cons_self ..),ih fun k hk=>h k (List.mem_cons_of_mem _ hk)]
theorem lo_upd(G:Int→Option Gr)(n:Int)(g:Option Gr):lo (Gp.upd G n g) n=lo G n:=fm_congr fun k hk=>by
 have:k<n:=by simpa using (List.mem_filter.1 hk).2
 unfold one;rw[Gp.upd_ne _ _ (by omega)]
theorem hi_upd(G:Int→Option Gr)(n:Int)(g:Option Gr):hi (Gp.upd G n g) n=hi G n:=fm_congr fun k hk=>by
 have:n<k:=by simpa using (List.mem_filter.1 hk).2
 unfold one;rw[Gp.upd_ne _ _ (by omega)]
theorem mem_lo{G:Int→Option Gr}{n:Int}{x:Int×Gr}(h:x∈lo G n):x.1<n∧G x.1=some x.2:=by
 obtain⟨k,hk,hx⟩:=List.mem_filterMap.1 h;have hkn:k<n:=by simpa using (List.mem_filter.1 hk).2
 unfold one at hx;cases hG:G k with
 |none=>rw[hG] at hx;cases hx
 |some g=>rw[hG] at hx;cases hx;exact⟨hkn,hG⟩
theorem mem_hi{G:Int→Option Gr}{n:Int}{x:Int×Gr}(h:x∈hi G n):n<x.1∧G x.1=some x.2:=by
 obtain⟨k,hk,hx⟩:=List.mem_filterMap.1 h;have hkn:n<k:=by simpa using (List.mem_filter.1 hk).2
 unfold one at hx;cases hG:G k with
 |none=>rw[hG] at hx;cases hx
 |some g=>rw[hG] at hx;cases hx;exact⟨hkn,hG⟩
theorem mem{G:Int→Option Gr}{x:Int×Gr}(h:x∈canon G):1≤x.1∧x.1≤8∧G x.1=some x.2:=by
 obtain⟨k,hk,hx⟩:=List.mem_filterMap.1 h;have hk8:1≤k∧k≤8:=by
  unfold all at hk;simp at hk;omega
 unfold one at hx;cases hG:G k with
 |none=>rw[hG] at hx;cases hx
 |some g=>rw[hG] at hx;cases hx;exact⟨hk8.1,hk8.2,hG⟩
theorem mem_of{G:Int→Option Gr}{n:Int}{g:Gr}(n1:1≤n)(n8:n≤8)(h:G n=some g):(n,g)∈canon G:=by
 rw[split G n1 n8];refine List.mem_append_right _ (List.mem_append_left _ ?_);unfold one;rw[h]
 simp
theorem canon_some{G:Int→Option Gr}{n:Int}{g:Gr}(n1:1≤n)(n8:n≤8)(h:G n=some g):canon G=lo G n++(n,g)::hi G n:=by
 rw[split G n1 n8];unfold one;rw[h];rfl
theorem canon_none{G:Int→Option Gr}{n:Int}(n1:1≤n)(n8:n≤8)(h:G n=none):canon G=lo G n++hi G n:=by
 rw[split G n1 n8];unfold one;rw[h];rfl
theorem canon_put{G:Int→Option Gr}{n:Int}{g:Gr}(n1:1≤n)(n8:n≤8):canon (Gp.upd G n (some g))=lo G n++(n,g)::hi G n:=by
 rw[canon_some n1 n8 (Gp.upd_at G n (some g)),lo_upd,hi_upd]
theorem len(G:Int→Option Gr):(canon G).length≤8:=Nat.le_trans (List.length_filterMap_le _ _) (by decide)
def sumR(L:List (Int×Gr)):Int:=(L.map fun x=>x.2.m.pages+x.2.pg).sum
theorem sumR_canon(G:Int→Option Gr):sumR (canon G)=Gp.sum G:=by
 have h1:∀k l,sumR ((one G k).toList++l)=Gp.pgs (G k)+sumR l:=fun k l=>by
  unfold one;cases h:G k with
  |none=>simp[Gp.pgs]
  |some g=>simp[Gp.pgs,sumR]
 have h2:canon G=(one G 1).toList++((one G 2).toList++((one G 3).toList++((one G 4).toList++((one G 5).toList++((one G 6).toList++((one G 7).toList++((one G 8).toList++[]))))))):=by
  have hc:∀(k:Int) (l:List Int),(k::l).filterMap (one G)=(one G k).toList++l.filterMap (one G):=fun k l=>by
   rw[List.filterMap_cons];cases one G k<;>rfl
  unfold canon all;rw[hc,hc,hc,hc,hc,hc,hc,hc];rfl
 rw[h2,h1,h1,h1,h1,h1,h1,h1,h1];unfold Gp.sum Gp.sum8;simp[sumR]
end Rc
end Go.Proofs.YtjjdjpdmgaipeaaGreat
