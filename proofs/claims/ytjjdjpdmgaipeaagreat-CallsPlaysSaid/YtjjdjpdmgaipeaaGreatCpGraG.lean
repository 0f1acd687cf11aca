/- GraG, R19, R19B in one text. -/
import Derived.Test.YtjjdjpdmgaipeaaGreatCpGrantG
import Derived.Test.YtjjdjpdmgaipeaaGreatCpCor
import Derived.Test.YtjjdjpdmgaipeaaGreatCpKnG
import Derived.Test.YtjjdjpdmgaipeaaGreatCpZa
set_option linter.unusedVariables false
set_option linter.unusedSimpArgs false
set_option maxRecDepth 100000
set_option maxHeartbeats 16000000
open Go.Proofs.Tryz
namespace Go.Proofs.YtjjdjpdmgaipeaaGreat
open Go.RowKit
def CAt.put(a:CAt)(n:Int)(gb:Nat)(ev pv:Value):CAt:= {a with gb:=fun k=>if k=n then gb else a.gb k,ev:=fun k=>if k=n then ev else a.ev k,pv:=fun k=>if k=n then pv else a.pv k}
theorem CAt.put_at(a:CAt)(n:Int)(gb:Nat)(ev pv:Value):(a.put n gb ev pv).gb n=gb∧(a.put n gb ev pv).ev n=ev∧(a.put n gb ev pv).pv n=pv:=⟨if_pos rfl,if_pos rfl,if_pos rfl⟩
theorem CAt.put_ne(a:CAt){n k:Int}(gb:Nat)(ev pv:Value)(h:k≠n):(a.put n gb ev pv).gb k=a.gb k∧(a.put n gb ev pv).ev k=a.ev k∧(a.put n gb ev pv).pv k=a.pv k:=⟨if_neg h,if_neg h,if_neg h⟩
theorem SlV.map_keep{w w':World}{mb n:Nat}{D:DataW Unit}{kt:TypeId}{el:Value→Option (DataW Unit×List MemPlace)}(ho:w.ownsMap Tryz.prog kt el mb n D)(hm:Mod (fun k=>k=mb) w w'){ty:TypeId}{s m:Nat}{v:Value}{xs:List Value}(h:SlV w ty s v m xs):SlV w' ty s v m xs:=by
 refine⟨h.1, ?_⟩;rcases h.2 with g|⟨g,off,cap,cur,rfl,hgg,rest⟩
 ·exact .inl g
 ·refine .inr ⟨g,off,cap,cur,rfl,(hm.block _ (lQ hgg) (fun e=> ?_)).trans hgg,rest⟩;obtain⟨es,clock,hb,_⟩:=ho;rw[←e,hgg] at hb;cases hb
theorem Cps.head_ne{w:World}{a:CAt}{hp:Int}{G:Int→Option Gr}(h:Cps w a hp G):a.cb≠a.mb∧∀n,(G n).isSome=true→a.gb n≠a.mb:=by
 obtain⟨D,m,⟨es,clock,hb,_⟩,_⟩:=h.map;refine⟨fun e=> ?_,fun n hn e=> ?_⟩
 ·rw[←e,h.head] at hb;cases hb
 ·obtain⟨g,hg⟩:=Option.isSome_iff_exists.1 hn;have:=(h.grant n g hg).1;rw[e,hb] at this;cases this
theorem Cps.insert{w:World}{a:CAt}{hp:Int}{G:Int→Option Gr}(h:Cps w a hp G){n:Int}(n1:1≤n)(n8:n≤8)(hn:G n=none){gb:Nat}{ev pv:Value}{g:Gr}(hblk:w.heap[gb]? =some (.cells (grC g ev pv) 276 (0,0)))(hm:MnAt w ev pv g.m)(hok:g.ok)(h1:gb≠a.mb)(hgn:∀k,(G k).isSome=true→a.gb k≠gb)(hft:Gp.sum G+(g.m.pages+g.pg)≤hp):
  ∃w',(Instr.mapUpdate 192 (.map (some a.mb)) (.int .i64 n) (.pointer (some ⟨gb,0,none⟩))).run Tryz.prog w=.ok () w'∧Cps w' (a.put n gb ev pv) hp (Gp.upd G n (some g))∧Mod (fun k=>k=a.mb) w w':=by
 obtain⟨hcm,hgm⟩:=h.head_ne;obtain⟨D,d,ho,hv,hs⟩:=h.map;have ht:=own_tight ho;have K:=Maps.int_keyed (P:=Tryz.prog) Tryz.underlying3;have hk:=Maps.keyOf_int_mk (P:=Tryz.prog) Tryz.underlying3 (I64.wf (n:=n) ⟨by omega,by omega⟩);have hcb:Gp.cnt G≤8:=by
  have:Gp.cnt G≤Gp.sum8 fun _=>1:=Gp.sum8_le fun k=>by unfold Gp.one;split<;>omega
  exact this
 obtain⟨w',hrun,how,htu⟩:=ht.store K Tryz.underlying192 (by unfold maxLen;omega) (val:=.pointer (some ⟨gb,0,none⟩)) (d:=.lit (.int .i64 gb)) (ps:=[]) hk rfl;have hg:=htu.grown;have hne:∀k,k<w.heap.size→k≠a.mb→w'.heap[k]? =w.heap[k]? :=fun k hk hkm=>hg.block k hk (by simpa using hkm)
 have hmod:Mod (fun k=>k=a.mb) w w':=⟨hg.os,hg.tape,hg.output,hg.size,fun k hk hkm=>hne k hk hkm⟩;have hsm:∀k,(Gp.upd G n (some g) k).isSome=true↔k=n∨(G k).isSome=true:=fun k=>by
  unfold Gp.upd
  split
  ·rename_i e;simp[e]
  ·rename_i e;simp[e]
 refine⟨w',hrun,⟨(hne a.cb (h.lt (.inl rfl)) hcm).trans h.head,⟨_,_,how,fun x zd=> ?_, ?_⟩,fun m g' hg'=> ?_,fun m=> ?_,fun m hm'=> ?_,fun m k q1 q2 e=> ?_, ?_⟩,hmod⟩
 ·by_cases e:x=n
  ·subst e;rw[if_pos ((hsm x).2 (.inl rfl)),Maps.atKey_put_same ht.isMap (K.key hk),(a.put_at x gb ev pv).1]
  ·rw[Maps.atKey_put_other (by intro g;simp at g;exact e g),hv,(a.put_ne gb ev pv e).1,Gp.upd_ne _ _ e]
 ·rw[Maps.size_put (ht.tidy K)];have:Maps.has D (.int .i64 n)=false:=Maps.has_false_of_atKey fun z=>by rw[hv,if_neg (by rw[hn];simp)]
  rw[this,Gp.cnt_put n1 n8,←hs,hn];simp[Gp.one]
 ·by_cases e:m=n
  ·subst e;rw[Gp.upd_at] at hg';cases hg';rw[(a.put_at m gb ev pv).1,(a.put_at m gb ev pv).2.1,(a.put_at m gb ev pv).2.2];exact⟨(hne gb (lQ hblk) h1).trans hblk,hm.e.map_keep ho hmod,hm.p.map_keep ho hmod⟩
  ·rw[Gp.upd_ne _ _ e] at hg';obtain⟨p1,p2⟩:=h.grant m g' hg';rw[(a.put_ne gb ev pv e).1,(a.put_ne gb ev pv e).2.1,(a.put_ne gb ev pv e).2.2];exact⟨(hne _ (lQ p1) (hgm m (by rw[hg'];rfl))).trans p1,p2.e.map_keep ho hmod,p2.p.map_keep ho hmod⟩
 ·by_cases e:m=n
  ·subst e;rw[Gp.upd_at];intro g' hg';cases hg';exact hok
  ·rw[Gp.upd_ne _ _ e];exact h.ok m
 ·rcases(hsm m).1 hm' with rfl|q
  ·exact⟨n1,n8⟩
  ·exact h.dom m q
 ·by_cases e1:m=n
  ·by_cases e2:k=n
   ·rw[e1,e2]
   ·rw[e1,(a.put_at n gb ev pv).1,(a.put_ne gb ev pv e2).1] at e;exact absurd e.symm (hgn k (((hsm k).1 q2).resolve_left e2))
  ·by_cases e2:k=n
   ·rw[e2,(a.put_at n gb ev pv).1,(a.put_ne gb ev pv e1).1] at e;exact absurd e (hgn m (((hsm m).1 q1).resolve_left e1))
   ·rw[(a.put_ne gb ev pv e1).1,(a.put_ne gb ev pv e2).1] at e;exact h.inj m k (((hsm m).1 q1).resolve_left e1) (((hsm k).1 q2).resolve_left e2) e
 ·rw[Gp.sum_put n1 n8,hn]
  show Gp.sum G+(g.m.pages+g.pg - 0)≤hp
  omega
namespace Ca
theorem all{w:World}{a:CAt}{m:Mn}{ev pv:Value}{pb:Nat}(r0 r1 r2 r3:Int)
  (h0:∀V,Below w.heap.size w V→Calls Tryz.prog 267 #[.pointer (some ⟨a.cb,0,none⟩),.agg (m.cells ev pv)] V fun e w'=>e=.returned (.int .i64 r0)∧Below V.heap.size V w')
  (h1:∀V,Below w.heap.size w V→Calls Tryz.prog 268 #[.pointer (some ⟨a.cb,0,none⟩),.agg (m.cells ev pv)] V fun e w'=>e=.returned (.int .i64 r1)∧Below V.heap.size V w')
  (h2:∀V,Below w.heap.size w V→Calls Tryz.prog 269 #[.pointer (some ⟨a.cb,0,none⟩),.agg (m.cells ev pv)] V fun e w'=>e=.returned (.int .i64 r2)∧Below V.heap.size V w')
  (h3:∀V,Below w.heap.size w V→Calls Tryz.prog 172 #[.pointer (some ⟨a.cb,0,none⟩),.agg (m.cells ev pv),.pointer (some ⟨pb,0,none⟩)] V fun e w'=>e=.returned (.int .i64 r3)∧Below V.heap.size V w'):
  Calls Tryz.prog 173 #[.pointer (some ⟨a.cb,0,none⟩),.agg (m.cells ev pv),.func (.func 172) #[] #[.pointer (some ⟨pb,0,none⟩)]] w fun e w'=>e=.returned (.int .i64 (firstE [r0,r1,r2,r3]))∧Below w.heap.size w w':=by
 have HE:=Lh fun(V:World) (lb:Nat) hb hf=>each (w:=V) (a:=a) (m:=m) (ev:=ev) (pv:=pv) (lb:=lb) (pb:=pb) r0 r1 r2 r3 hf (fun U hU=>h0 U (bQ hb hU)) (fun U hU=>h1 U (bQ hb hU)) (fun U hU=>h2 U (bQ hb hU)) (fun U hU=>h3 U (bQ hb hU))
 have hb:Below w.heap.size w (w.alloc (.cells (m.cells ev pv) 29)):=Ba _;have hblk:=heap_alloc_new w (.cells (m.cells ev pv) 29);obtain⟨c0,c1,c2,c3,_⟩:=man_cells hblk;have HB:=Lh hb;unfold Mn.cells at*;clear hb hblk h0 h1 h2 h3;go_enter func173,ntmps173;go_wp2_with fail;refine(HE.out _ _ (HB.out.alloc HB.out.size _) (by
  have h:=heap_alloc_new (w.alloc (.cells #[.int .u32 m.pages,ev,pv,.bool m.con] 29)) (.cells #[.func (.func 267) #[] #[],.func (.func 268) #[] #[],.func (.func 269) #[] #[],.func (.func 172) #[] #[.pointer (some ⟨pb,0,none⟩)]] 351);rw[show(w.alloc (.cells #[.int .u32 m.pages,ev,pv,.bool m.con] 29)).heap.size=w.heap.size+1 by simp] at h;exact h)).mono ?_
 rintro e w2 ⟨rfl,hb2⟩;have HB2:=Lh (bQ (HB.out.alloc HB.out.size _) hb2);clear c0 c1 c2 c3 hb2;go_wp2;go_ret;exact⟨rfl,HB2.out⟩
end Ca
theorem rises_at{l:List (Int×Int)}(h:Gp.risesB (fun a b:Int×Int=>decide (a.1<b.1)) l=true)(h0:∀x,x∈l→0≤x.1):∀(k:Nat) (x:Int×Int),l[k]? =some x→(k:Int)≤x.1
 |0,x,hx=>by have:=h0 x (List.mem_of_getElem? hx);omega
 |k+1,x,hx=>by
  have hk:k<l.length:=by have:=(List.getElem?_eq_some_iff.1 hx).1;omega
  have h1:=rises_at h h0 k l[k] (Zg hk);have h2:=(Gp.risesB_iff _ l).1 h k l[k] x (Zg hk) hx;simp at h2;omega
theorem slv_at{w:World}{e:TypeId}{s n oc:Nat}{o:Option Addr}{xs:List Value}(h:SlV w e s (.slice o n oc) n xs):Cl.At w o xs:=fun j u hu=>by
 have hj:=(List.getElem?_eq_some_iff.1 hu).1;have hl:=h.1;rcases h.2 with⟨h0,_⟩|⟨g,off,cap,cur,hv,_⟩
 ·subst h0;omega
 ·cases hv;exact⟨g,off,rfl,(SlV.cell h j (by omega)).trans hu⟩
theorem one_ext(l:List (Int×Int)):∀u,u∈extC l→u.oneCell'=true:=fun u hu=>by
 unfold extC at hu;rw[List.mem_flatMap] at hu;obtain⟨x,_,hx⟩:=hu;simp at hx;rcases hx with rfl|rfl<;>rfl
theorem one_u16(l:List Int):∀u,u∈l.map (Value.int .u16)→u.oneCell'=true:=fun u hu=>by
 obtain⟨x,_,rfl⟩:=List.mem_map.1 hu;rfl
namespace Ca
def grE(hp:Int)(hx:List Int)(G:Int→Option Gr)(m:Mn)(pg:Int):Int:=firstE [noneE m.ext hx.length,longE m.ext hx,busyE G m,fullE hp G m pg]
def grantE(hp:Int)(hx:List Int)(G:Int→Option Gr)(n:Int)(m:Mn)(pg:Int):Int:=
 if n<1∨8<n∨Gp.checkE m≠0∨4096<pg then 2 else if(G n).isSome=true then 9 else grE hp hx G m pg
def GrPost(w:World)(a:CAt)(hp:Int)(hx:List Int)(G:Int→Option Gr)(n:Int)(m:Mn)(pg:Int)(e:Ending)(w':World):Prop:=
 (grantE hp hx G n m pg≠0∧e=.returned (.int .i64 (grantE hp hx G n m pg))∧Below w.heap.size w w')∨
 (grantE hp hx G n m pg=0∧e=.returned (.int .i64 0)∧∃gb ev pv,Cps w' (a.put n gb ev pv) hp (Gp.upd G n (some ⟨m,pg,0⟩))∧Mod (fun k=>k=a.mb) w w'∧(w.heap.size≤gb∧gb<w'.heap.size)∧(∀k,ev.ownBlock=some k∨pv.ownBlock=some k→w.heap.size≤k∧k<w'.heap.size∧k≠gb))
theorem ext_len{m:Mn}{hx:List Int}(hl:hx.length≤16)(hok:m.ok)(hc:Gp.checkE m=0){x y z:Int}(he:firstE [noneE m.ext hx.length,x,y,z]=0):m.ext.length≤16:=by
 have hm:Gp.mayM m=true:=by
  unfold Gp.checkE at hc
  split at hc
  ·assumption
  ·cases hc
 unfold Gp.mayM at hm;simp only[Bool.and_eq_true] at hm;have hr:=hm.1.1.1.1.2;have hn:extNone m.ext hx.length=false:=by
  cases hq:extNone m.ext hx.length with
  |false=>rfl
  |true=>
   unfold firstE noneE at he;rw[hq] at he;simp at he
 unfold extNone at hn;rw[List.any_eq_false] at hn;rcases Nat.lt_or_ge 16 m.ext.length with q|q
 ·exfalso
  have h16:m.ext[16]? =some m.ext[16]:=Zg q;have h1:=rises_at hr (fun x hx=>(hok.e x hx).1) 16 _ h16;have h2:=hn _ (List.mem_of_getElem? h16);simp at h2;omega
 ·exact q
theorem may_num{m:Mn}(hc:Gp.checkE m=0):m.ports.length≤16∧m.pages≤1024:=by
 have hm:Gp.mayM m=true:=by
  unfold Gp.checkE at hc
  split at hc
  ·assumption
  ·cases hc
 unfold Gp.mayM at hm;simp only[Bool.and_eq_true,decide_eq_true_eq] at hm;exact⟨hm.1.2,hm.2⟩
theorem grant_in{w:World}{a:CAt}{hp:Int}{hx:List Int}{G:Int→Option Gr}(h:Cps w a hp G)(hp1:hp≤4096){n pg:Int}(n1:1≤n)(n8:n≤8)(g0:0≤pg)(g1:pg≤4096)(hh:SlV w 22 1 a.hv hx.length (hx.map (Value.int .u32)))(hl:hx.length≤16){m:Mn}{ev pv:Value}(hm:MnAt w ev pv m)(hok:m.ok):
  Calls Tryz.prog 67 #[.pointer (some ⟨a.cb,0,none⟩),.int .i64 n,.agg (m.cells ev pv),.int .u32 pg] w (GrPost w a hp hx G n m pg):=by
 have hb0:Below w.heap.size w (w.alloc (.cells (m.cells ev pv) 29)):=Ba _;have hb1:=hb0.alloc hb0.size (.cells #[.int .u32 pg] 22);have hbk0:((w.alloc (.cells (m.cells ev pv) 29)).alloc (.cells #[.int .u32 pg] 22)).heap[w.heap.size]? =some (.cells (m.cells ev pv) 29):=(Below.heap_alloc _ _ _ (lQ (heap_alloc_new w _))).trans (heap_alloc_new w _);have hbk1:=heap_alloc_new (w.alloc (.cells (m.cells ev pv) 29)) (.cells #[.int .u32 pg] 22);rw[show(w.alloc (.cells (m.cells ev pv) 29)).heap.size=w.heap.size+1 by simp] at hbk1;have HB1:=Lh hb1;have HBk:=Lh (And.intro hbk0 hbk1);have HCk:=Lh (Dm.check (hm.below hb1));have HCps:=Lh fun V (hV:Below w.heap.size w V)=>h.below hV
 have HMn:=Lh fun V (hV:Below w.heap.size w V)=>hm.below hV
 have HAll:=Lh fun(hq:m.pages≤1024) (V:World) (hV:Below w.heap.size w V) (hpb:V.heap[w.heap.size+1]? =some (.cells #[.int .u32 pg] 22 (0,0)))=>all (w:=V) (a:=a) (m:=m) (ev:=ev) (pv:=pv) (pb:=w.heap.size+1) (noneE m.ext hx.length) (longE m.ext hx) (busyE G m) (fullE hp G m pg)
  (fun U hU=>none_any (h.below (bQ hV hU)) (hh.below (bQ hV hU)) hl (hm.below (bQ hV hU)) hok)
  (fun U hU=>long_any (h.below (bQ hV hU)) (hh.below (bQ hV hU)) hl (hm.below (bQ hV hU)) hok)
  (fun U hU=>busy (h.below (bQ hV hU)) (hm.below (bQ hV hU)))
  (fun U hU=>full (h.below (bQ hV hU)) hp1 ((hU.block _ (lQ hpb)).trans hpb) hok.p0 hq (by omega) (by omega))
 have HOk:=Lh hok;have HL:=Lh hl;have HPp:=Lh hp1;have HZ0:=Lh (Below.refl w.heap.size w);have HF1:Hid (∀V,Gp.checkE m≠0→Below w.heap.size w V→GrPost w a hp hx G n m pg (.returned (.int .i64 2)) V):=Lh fun V h1 h2=>by
  have e:grantE hp hx G n m pg=2:=if_pos (.inr (.inr (.inl h1)));exact .inl ⟨by rw[e];decide,by rw[e],h2⟩
 have hck:Gp.checkE m=0→¬(n<1∨8<n∨Gp.checkE m≠0∨4096<pg):=fun h1=>by omega
 have HF9:Hid (∀V,Gp.checkE m=0→(G n).isSome=true→Below w.heap.size w V→GrPost w a hp hx G n m pg (.returned (.int .i64 9)) V):=Lh fun V h1 h2 h3=>by
  have e:grantE hp hx G n m pg=9:=(if_neg (hck h1)).trans (if_pos h2);exact .inl ⟨by rw[e];decide,by rw[e],h3⟩
 have HF2:Hid (∀V,Gp.checkE m=0→G n=none→grE hp hx G m pg≠0→Below w.heap.size w V→GrPost w a hp hx G n m pg (.returned (.int .i64 (grE hp hx G m pg))) V):=Lh fun V h1 hn h2 h3=>by
  have e:grantE hp hx G n m pg=grE hp hx G m pg:=(if_neg (hck h1)).trans (if_neg (by rw[hn];simp));exact .inl ⟨by rw[e];exact h2,by rw[e],h3⟩
 have HF3:Hid (∀V gb ev pv,Gp.checkE m=0→G n=none→grE hp hx G m pg=0→Cps V (a.put n gb ev pv) hp (Gp.upd G n (some ⟨m,pg,0⟩))→Mod (fun k=>k=a.mb) w V→(w.heap.size≤gb∧gb<V.heap.size)→(∀k,ev.ownBlock=some k∨pv.ownBlock=some k→w.heap.size≤k∧k<V.heap.size∧k≠gb)→GrPost w a hp hx G n m pg (.returned (.int .i64 0)) V):=Lh fun V gb ev pv h1 hn h2 h3 h4 h5 h6=>by
  have e:grantE hp hx G n m pg=grE hp hx G m pg:=(if_neg (hck h1)).trans (if_neg (by rw[hn];simp));exact .inr ⟨by rw[e];exact h2,rfl,gb,ev,pv,h3,h4,h5,h6⟩
 clear hck;generalize GrPost w a hp hx G n m pg=PQ at*;have hge:grE hp hx G m pg=firstE [noneE m.ext hx.length,longE m.ext hx,busyE G m,fullE hp G m pg]:=rfl;rw[←hge] at HAll;have HGe:=Lh hge;have HCell:Hid (∀V,Below ((w.alloc (.cells (m.cells ev pv) 29)).alloc (.cells #[.int .u32 pg] 22)).heap.size ((w.alloc (.cells (m.cells ev pv) 29)).alloc (.cells #[.int .u32 pg] 22)) V→V.heap[w.heap.size]? =some (.cells (m.cells ev pv) 29)∧V.heap[w.heap.size+1]? =some (.cells #[.int .u32 pg] 22)):=Lh fun V hV=>⟨(hV.block _ (lQ HBk.out.1)).trans HBk.out.1,(hV.block _ (lQ HBk.out.2)).trans HBk.out.2⟩
 obtain⟨c0,c1,c2,c3,cf⟩:=man_cells hbk0;unfold Mn.cells at*;clear hb0 hb1 hbk0 hbk1 h hh hm hok hl hge;go_enter func67,ntmps67;go_wp2_with fail;refine HCk.out.mono ?_;rintro e w2 ⟨rfl,hb2⟩;obtain⟨q0,q1⟩:=HCell.out _ hb2;have HB2:=Lh (bQ HB1.out hb2);have HG2:=Lh hb2;have HK2:=Lh (And.intro q0 q1);clear c0 c1 c2 c3 cf hb2;obtain⟨c0,c1,c2,c3,cf⟩:=man_cells q0;have c4:w2.cell? ⟨w.heap.size+1,0,none⟩=some (.int .u32 pg):=by unfold World.cell?;rw[q1];rfl
 clear q0 q1;obtain⟨ce,hce⟩:∃ce,Gp.checkE m=ce:=⟨_,rfl⟩;rw[hce]
 by_cases e0:ce=0
 case neg=>
  have hne:(ce != 0)=true:=bne_iff_ne.2 e0;have hend:=HF1.out w2 (by rw[hce];exact e0) HB2.out;clear HF1 HF2 HF3 HF9 hce;go_wp2
  first
   |exact hend
   |(go_ret;exact hend)
 subst e0;have HCe:=Lh hce;have hmay:=may_num hce;obtain⟨x0,x1,x2⟩:=(HCps.out w2 HB2.out).cells;have hlk:=(HCps.out w2 HB2.out).look (n:=n) ⟨by omega,by omega⟩;have HMay:=Lh hmay;clear hce hmay
 by_cases hgn:(G n).isSome=true
 ·rw[if_pos hgn] at hlk;have hend:=HF9.out w2 HCe.out hgn HB2.out;clear HF1 HF2 HF3 HF9 HAll;go_wp2
  first
   |exact hend
   |(go_ret;exact hend)
 rw[if_neg hgn] at hlk;have HNo:Hid (G n=none):=Lh (by cases q:G n with|none=>rfl|some g=>rw[q] at hgn;exact absurd rfl hgn);clear hgn HF9;go_wp2_with fail;refine(HAll.out HMay.out.2 _ HB2.out HK2.out.2).mono ?_;rintro e w3 ⟨rfl,hb3⟩;have HG3:=Lh (bQ HG2.out hb3);have HB3:=Lh (bQ HB2.out hb3);obtain⟨ge,hge⟩:∃ge,grE hp hx G m pg=ge:=⟨_,rfl⟩;rw[hge];clear hb3 c0 c1 c2 c3 cf c4 x0 x1 x2 hlk
 by_cases e0:ge=0
 case neg=>
  have hne:(ge != 0)=true:=bne_iff_ne.2 e0;have hend:=HF2.out w3 HCe.out HNo.out (by rw[hge];exact e0) HB3.out;rw[hge] at hend;clear HF1 HF2 HF3 hge;go_wp2
  first
   |exact hend
   |(go_ret;exact hend)
 subst e0;have hel:=ext_len HL.out HOk.out HCe.out (HGe.out.symm.trans hge);have HGz:=Lh hge;clear hge;obtain⟨eo,ec,rfl⟩:=(HMn.out w HZ0.out).e.form;obtain⟨po,pc,rfl⟩:=(HMn.out w HZ0.out).p.form;have HMay:=Lh (may_num HCe.out);have HC1:Hid (Calls Tryz.prog 174 #[.slice eo m.ext.length ec] w3.drew fun e w'=>∃v',e=.returned v'∧SlV w' 273 2 v' m.ext.length (extC m.ext)∧(∀b,v'.ownBlock=some b→w3.drew.heap.size≤b∧b<w'.heap.size)∧Below w3.drew.heap.size w3.drew w'):=Lh (Cl.clone_ext (extC_length _) (slv_at (HMn.out _ HB3.out.drew).e) (by omega) (one_ext _));have HC2:Hid (∀V,Below w3.drew.heap.size w3.drew V→Calls Tryz.prog 175 #[.slice po m.ports.length pc] V fun e w'=>∃v',e=.returned v'∧SlV w' 31 1 v' m.ports.length (m.ports.map (Value.int .u16))∧(∀b,v'.ownBlock=some b→V.heap.size≤b∧b<w'.heap.size)∧Below V.heap.size V w'):=Lh fun V hV=>Cl.clone_u16 (by simp) (slv_at (HMn.out V (bQ HB3.out.drew hV)).p) (by have:=HMay.out.1;omega) (one_u16 _)
 have HBd:Hid (∀V,Below w3.drew.heap.size w3.drew V→V.heap[w.heap.size]? =some (.cells #[.int .u32 m.pages,.slice eo m.ext.length ec,.slice po m.ports.length pc,.bool m.con] 29)∧V.heap[w.heap.size+1]? =some (.cells #[.int .u32 pg] 22)):=Lh fun V hV=>HCell.out V (bQ HG3.out.drew hV)
 have HDB:Hid (∀V,Below w3.drew.heap.size w3.drew V→V.cell? ⟨w.heap.size,0,none⟩=some (.int .u32 m.pages)∧V.cell? ⟨w.heap.size,1,none⟩=some (.slice eo m.ext.length ec)∧V.cell? ⟨w.heap.size,2,none⟩=some (.slice po m.ports.length pc)∧V.cell? ⟨w.heap.size,3,none⟩=some (.bool m.con)∧∀i,V.frozen? ⟨w.heap.size,i,none⟩=false):=Lh fun V hV=>man_cells (m:=m) (HBd.out V hV).1
 have HD:=Lh (HDB.out w3.drew Br);have HBw:Hid (Below w.heap.size w w3.drew):=Lh HB3.out.drew;have HWl:Hid (w.heap.size<w3.drew.heap.size):=Lh (lQ (HBd.out _ Br).1);clear HG3 HG2 HK2 HB2 HB3 HBk HCk HAll HF1 HF2 HCell HB1 HZ0;go_upto_region 11 with(fail);refine wp_region_E (fun w'=>w'.cell? ⟨w.heap.size,2,none⟩=some (.slice po m.ports.length pc)) 9 (by kernel_rfl) ?_
 change AnyE _ _ _ _ _ _ _ _ _ w3.drew
 generalize hwd:w3.drew=wd at*;refine LT 0 HD.out.2.2.1 ?_;refine LT 3 HD.out.2.2.1 ?_;refine LT 4 HD.out.2.2.1 ?_;refine LU 1 fun K hK=> ?_
 have d1:=HD.out.2.1;go_simp;refine LV hK (fun _=>HD.out.2.2.1) ?_;clear hK K;refine LU 2 fun K hK=> ?_
 go_simp;go_at_call 174;refine HC1.out.mono ?_;rintro e w4 ⟨v1,rfl,hs1,ho1,hb4⟩;have H4:=Lh (And.intro hs1 (And.intro ho1 hb4));have D4:=Lh (HDB.out _ hb4);obtain⟨o1,oc1,rfl⟩:=hs1.form;clear hs1 ho1 hb4;refine LV hK (fun _=>D4.out.2.2.1) ?_;clear hK K;refine LT 6 D4.out.2.2.1 ?_;refine LU 5 fun K hK=> ?_
 go_simp;go_at_call 175;refine(HC2.out _ H4.out.2.2).mono ?_;rintro e w5 ⟨v2,rfl,hs2,ho2,hb5⟩;have H5:=Lh (And.intro hs2 (And.intro ho2 hb5));have D5:=Lh (HDB.out _ (bQ H4.out.2.2 hb5));obtain⟨o2,oc2,rfl⟩:=hs2.form;clear hs2 ho2 hb5;refine LV hK (fun _=>D5.out.2.2.1) ?_;clear hK K;have HT6:Hid (∀v,(w5.setCell ⟨w.heap.size,1,none⟩ v).cell? ⟨w.heap.size,2,none⟩=some (.slice po m.ports.length pc)):=Lh fun v=>(World.cell?_setCell_other w5 ⟨w.heap.size,1,none⟩ ⟨w.heap.size,2,none⟩ v (by simp)).trans D5.out.2.2.1
 have HT7:Hid (∀v,(w5.setCell ⟨w.heap.size,1,none⟩ v).frozen? ⟨w.heap.size,2,none⟩=false):=Lh fun v=>by rw[World.frozen?_setCell];exact D5.out.2.2.2.2 2
 refine LU 7 fun K hK=> ?_
 have e1:=D5.out.2.1;have e1f:=D5.out.2.2.2.2 1;go_simp;refine LV hK (fun _=>(HT6.out _)) ?_;clear hK K;refine LT 8 (HT6.out _) ?_;refine LU 9 fun K hK=> ?_
 have e2:=HT6.out (.slice o1 m.ext.length oc1);have e2f:=HT7.out (.slice o1 m.ext.length oc1);go_simp;refine hK.out _ _ (fun e=>absurd rfl e) (fun _=> ?_);clear hK K;try simp only[Act.put,Za,Zb,Zc,Zd,Ze,Zf]
 refine E_done (by kernel_rfl) ?_ _;have hb5:Below wd.heap.size wd w5:=bQ H4.out.2.2 H5.out.2.2;have hwl5:w.heap.size<w5.heap.size:=Nat.lt_of_lt_of_le HWl.out hb5.size;have hbw5:Below w.heap.size w w5:=bQ HBw.out hb5;have hk5:=HBd.out w5 hb5;have hm6:Mod (fun i=>i=w.heap.size) w5 ((w5.setCell ⟨w.heap.size,1,none⟩ (.slice o1 m.ext.length oc1)).setCell ⟨w.heap.size,2,none⟩ (.slice o2 m.ports.length oc2)):=Mod.setCell (F:=fun i=>i=w.heap.size) (Mod.setCell (F:=fun i=>i=w.heap.size) (Mod.refl _ _) ⟨w.heap.size,1,none⟩ (.inl rfl) _) ⟨w.heap.size,2,none⟩ (.inl rfl) _;have hk6:=heap_setCell_same (w5.setCell ⟨w.heap.size,1,none⟩ (.slice o1 m.ext.length oc1)) w.heap.size 2 _ _ (.slice o2 m.ports.length oc2) (heap_setCell_same w5 w.heap.size 1 _ _ (.slice o1 m.ext.length oc1) hk5.1);have hk6b:=(hm6.block _ (lQ hk5.2) (by omega)).trans hk5.2;have hz6:((w5.setCell ⟨w.heap.size,1,none⟩ (.slice o1 m.ext.length oc1)).setCell ⟨w.heap.size,2,none⟩ (.slice o2 m.ports.length oc2)).heap.size=w5.heap.size:=by simp[World.setCell]
 have hwd:=HBw.out.size;have hs1:=((H4.out.1.below H5.out.2.2).mod hm6 fun k hk e=>by have:=(H4.out.2.1 k hk).1;have:=HWl.out;omega);have hs2:=(H5.out.1.mod hm6 fun k hk e=>by have:=(H5.out.2.1 k hk).1;have:=H4.out.2.2.size;have:=HWl.out;omega);have ho1:∀k,(Value.slice o1 m.ext.length oc1).ownBlock=some k→wd.heap.size≤k∧k<w5.heap.size:=fun k hk=>⟨(H4.out.2.1 k hk).1,Nat.lt_of_lt_of_le (H4.out.2.1 k hk).2 H5.out.2.2.size⟩
 have ho2:∀k,(Value.slice o2 m.ports.length oc2).ownBlock=some k→wd.heap.size≤k∧k<w5.heap.size:=fun k hk=>⟨Nat.le_trans H4.out.2.2.size (H5.out.2.1 k hk).1,(H5.out.2.1 k hk).2⟩
 have hbw6:=Mod.below hbw5 hm6 hbw5.size fun k _ hk=>Nat.le_of_eq hk.symm
 rw[←hz6] at ho1 ho2;have hwl6:wd.heap.size≤((w5.setCell ⟨w.heap.size,1,none⟩ (.slice o1 m.ext.length oc1)).setCell ⟨w.heap.size,2,none⟩ (.slice o2 m.ports.length oc2)).heap.size:=by rw[hz6];exact hb5.size
 clear hz6 hm6 hk5 hb5 hwl5 hbw5 HT6 HT7 D5 D4 H4 H5 HC1 HC2 HD HDB HBd;go_upto_region 12 with(fail);generalize (w5.setCell ⟨w.heap.size,1,none⟩ (.slice o1 m.ext.length oc1)).setCell ⟨w.heap.size,2,none⟩ (.slice o2 m.ports.length oc2)=w6 at*;clear e1 e1f e2 e2f d1
 replace hk6:w6.heap[w.heap.size]? =some (.cells #[.int .u32 m.pages,.slice o1 m.ext.length oc1,.slice o2 m.ports.length oc2,.bool m.con] 29):=hk6
 have HMn6:Hid (MnAt w6 (.slice o1 m.ext.length oc1) (.slice o2 m.ports.length oc2) m):=Lh ⟨hs1,hs2⟩;have HO1:=Lh ho1;have HO2:=Lh ho2;have HB6:=Lh hbw6;have HW6:=Lh hwl6;have HH:=Lh hwd;have HEd:Hid (∀V,Below w6.drew.heap.size w6.drew V→(V.cell? ⟨w.heap.size,0,none⟩=some (.int .u32 m.pages)∧V.cell? ⟨w.heap.size,1,none⟩=some (.slice o1 m.ext.length oc1)∧V.cell? ⟨w.heap.size,2,none⟩=some (.slice o2 m.ports.length oc2)∧V.cell? ⟨w.heap.size,3,none⟩=some (.bool m.con))∧V.cell? ⟨w.heap.size+1,0,none⟩=some (.int .u32 pg)∧V.cell? ⟨a.cb,2,none⟩=some (.map (some a.mb))):=Lh fun V hV=>by
  have h1:=(hV.block _ (show w.heap.size<w6.drew.heap.size from lQ hk6)).trans hk6;have h2:=(hV.block _ (show w.heap.size+1<w6.drew.heap.size from lQ hk6b)).trans hk6b;obtain⟨g0,g1,g2,g3,_⟩:=man_cells (m:=m) h1;refine⟨⟨g0,g1,g2,g3⟩, ?_,(HCps.out V (bQ HB6.out.drew hV)).cells.2.2⟩;unfold World.cell?;rw[h2];rfl
 have HE:=Lh (HEd.out w6.drew Br);have HEA:Hid (∀o,((w6.drew.alloc o).cell? ⟨w.heap.size,0,none⟩=some (.int .u32 m.pages)∧(w6.drew.alloc o).cell? ⟨w.heap.size,1,none⟩=some (.slice o1 m.ext.length oc1)∧(w6.drew.alloc o).cell? ⟨w.heap.size,2,none⟩=some (.slice o2 m.ports.length oc2)∧(w6.drew.alloc o).cell? ⟨w.heap.size,3,none⟩=some (.bool m.con))∧(w6.drew.alloc o).cell? ⟨w.heap.size+1,0,none⟩=some (.int .u32 pg)∧(w6.drew.alloc o).cell? ⟨a.cb,2,none⟩=some (.map (some a.mb))):=Lh fun o=>HEd.out _ (Br.alloc (Nat.le_refl _) o)
 have hb7:Below w6.drew.heap.size w6.drew (w6.drew.alloc (.cells #[.int .u32 m.pages,.slice o1 m.ext.length oc1,.slice o2 m.ports.length oc2,.bool m.con,.int .u32 pg,.int .u32 0] 276)):=Ba _;have hbw7:=bQ HB6.out.drew hb7;have hmbl:a.mb<w.heap.size:=(HCps.out w Br).lt (.inr (.inl rfl));have hd6:w6.drew.heap.size=w6.heap.size:=rfl;have hft:Gp.sum G+(m.pages+pg)≤hp:=by
  have h1:=HGe.out.symm.trans HGz.out;have h2:fullE hp G m pg=0:=by
   unfold firstE at h1
   by_cases q:fullE hp G m pg=0
   ·exact q
   ·exfalso
    have hq:(fullE hp G m pg != 0)=true:=bne_iff_ne.2 q;simp only[List.find?_cons,hq] at h1
    split at h1
    ·rename_i z;simp at h1;rw[h1] at z;simp at z
    ·split at h1
     ·rename_i z;simp at h1;rw[h1] at z;simp at z
     ·split at h1
      ·rename_i z;simp at h1;rw[h1] at z;simp at z
      ·simp at h1;exact q h1
  unfold fullE at h2
  split at h2
  ·cases h2
  ·omega
 have hcz:=HCps.out w Br;obtain⟨w8,hrun,hc8,hm8⟩:=Cps.insert (HCps.out _ hbw7) n1 n8 HNo.out (g:=⟨m,pg,0⟩) (gb:=w6.drew.heap.size) (heap_alloc_new w6.drew (.cells #[.int .u32 m.pages,.slice o1 m.ext.length oc1,.slice o2 m.ports.length oc2,.bool m.con,.int .u32 pg,.int .u32 0] 276)) ((HMn6.out.below Br.drew).below hb7) ⟨HOk.out,Int.le_refl 0,HOk.out.p0,g0⟩ (by omega) (fun k hk e=>by have:=hcz.lt (.inr (.inr ⟨k,hk,rfl⟩));omega) hft;have hz7:(w6.drew.alloc (.cells #[.int .u32 m.pages,.slice o1 m.ext.length oc1,.slice o2 m.ports.length oc2,.bool m.con,.int .u32 pg,.int .u32 0] 276)).heap.size=w6.heap.size+1:=by simp
 have hz8:=hm8.size;have hm9:Mod (fun k=>k=a.mb) w w8:=(Mod.of_below hbw7 _).trans hm8 fun _ _ g=>.inl g
 have hend:=HF3.out w8 w6.drew.heap.size (.slice o1 m.ext.length oc1) (.slice o2 m.ports.length oc2) HCe.out HNo.out HGz.out hc8 hm9 ⟨by omega,by omega⟩ (fun k hk=>by
  rcases hk with hk|hk
  ·have:=HO1.out k hk;omega
  ·have:=HO2.out k hk;omega)
 have HRun:=Lh hrun;have HEnd:=Lh hend;clear hcz hft hb7 hbw7 hmbl hd6 hrun hc8 hm8 hz7 hz8 hm9 hend HF3 HO1 HO2 HB6 HW6 HH HMn6 HEd hk6 hk6b hs1 hs2 ho1 ho2 hbw6 hwl6 hwd;refine wp_region_E (fun w'=>(w'.cell? ⟨w.heap.size,0,none⟩=some (.int .u32 m.pages)∧w'.cell? ⟨w.heap.size,1,none⟩=some (.slice o1 m.ext.length oc1)∧w'.cell? ⟨w.heap.size,2,none⟩=some (.slice o2 m.ports.length oc2)∧w'.cell? ⟨w.heap.size,3,none⟩=some (.bool m.con))∧w'.cell? ⟨w.heap.size+1,0,none⟩=some (.int .u32 pg)∧w'.cell? ⟨a.cb,2,none⟩=some (.map (some a.mb))) 9 (by kernel_rfl) ?_
 change AnyE _ _ _ _ _ _ _ _ _ w6.drew
 generalize hwe:w6.drew=we at*;refine LT 0 HE.out ?_;refine LT 1 HE.out ?_;refine LT 2 HE.out ?_;refine LT 3 HE.out ?_;refine LT 4 HE.out ?_;refine LT 5 HE.out ?_;refine LT 6 HE.out ?_;refine LT 7 HE.out ?_;refine LU 8 fun K hK=> ?_
 go_simp;refine LV hK (fun _=>(HEA.out _)) ?_;clear hK K;refine LU 9 fun K hK=> ?_
 have hrun:=HRun.out;go_simp;refine hK.out _ _ (fun e=>absurd rfl e) (fun _=> ?_);clear hK K;try simp only[Act.put,Za,Zb,Zc,Zd,Ze,Zf]
 refine E_done (by kernel_rfl) ?_ _;clear hrun;go_wp2
 first
  |exact HEnd.out
  |(go_ret;exact HEnd.out)
theorem grant{w:World}{a:CAt}{hp:Int}{hx:List Int}{G:Int→Option Gr}(h:Cps w a hp G)(hp1:hp≤4096){n pg:Int}(g0:0≤pg)(hh:SlV w 22 1 a.hv hx.length (hx.map (Value.int .u32)))(hl:hx.length≤16){m:Mn}{ev pv:Value}(hm:MnAt w ev pv m)(hok:m.ok):
  Calls Tryz.prog 67 #[.pointer (some ⟨a.cb,0,none⟩),.int .i64 n,.agg (m.cells ev pv),.int .u32 pg] w (GrPost w a hp hx G n m pg):=by
 by_cases q:1≤n∧n≤8∧pg≤4096
 ·exact grant_in h hp1 q.1 q.2.1 g0 q.2.2 hh hl hm hok
 have hb0:Below w.heap.size w (w.alloc (.cells (m.cells ev pv) 29)):=Ba _;have hb1:=hb0.alloc hb0.size (.cells #[.int .u32 pg] 22);have hbk0:((w.alloc (.cells (m.cells ev pv) 29)).alloc (.cells #[.int .u32 pg] 22)).heap[w.heap.size]? =some (.cells (m.cells ev pv) 29):=(Below.heap_alloc _ _ _ (lQ (heap_alloc_new w _))).trans (heap_alloc_new w _);have hbk1:=heap_alloc_new (w.alloc (.cells (m.cells ev pv) 29)) (.cells #[.int .u32 pg] 22);rw[show(w.alloc (.cells (m.cells ev pv) 29)).heap.size=w.heap.size+1 by simp] at hbk1;have HCk:=Lh (Dm.check (hm.below hb1));have HBk:=Lh (And.intro hbk0 hbk1);have HB1:=Lh hb1;have he:grantE hp hx G n m pg=2:=if_pos (by omega);have HF:Hid (∀V,Below w.heap.size w V→GrPost w a hp hx G n m pg (.returned (.int .i64 2)) V):=Lh fun V hV=>.inl ⟨by rw[he];decide,by rw[he],hV⟩
 generalize GrPost w a hp hx G n m pg=PQ at*;obtain⟨c0,c1,c2,c3,cf⟩:=man_cells hbk0;unfold Mn.cells at*;clear hb0 hb1 hbk0 hbk1 he h hh hm hok hl
 by_cases q1:n<1
 ·have hend:=HF.out _ HB1.out;go_enter func67,ntmps67;go_wp2
  first
   |exact hend
   |(go_ret;exact hend)
 by_cases q8:8<n
 ·have hend:=HF.out _ HB1.out;go_enter func67,ntmps67;go_wp2
  first
   |exact hend
   |(go_ret;exact hend)
 have qp:4096<pg:=by omega
 clear q;go_enter func67,ntmps67;go_wp2_with fail;refine HCk.out.mono ?_;rintro e w2 ⟨rfl,hb2⟩;have hend:=HF.out _ (bQ HB1.out hb2);have q1':=(hb2.block _ (lQ HBk.out.2)).trans HBk.out.2;have c4:w2.cell? ⟨w.heap.size+1,0,none⟩=some (.int .u32 pg):=by unfold World.cell?;rw[q1'];rfl
 clear hb2 q1' c0 c1 c2 c3 cf;obtain⟨ce,hce⟩:∃ce,Gp.checkE m=ce:=⟨_,rfl⟩;rw[hce];clear hce
 by_cases e0:ce=0
 ·subst e0;go_wp2
  first
   |exact hend
   |(go_ret;exact hend)
 ·have hne:(ce != 0)=true:=bne_iff_ne.2 e0;go_wp2
  first
   |exact hend
   |(go_ret;exact hend)
end Ca
theorem KStep.grant{w w':World}{a:KAt}{K:Kn}(h:Knl w a K){n:Int}{g:Gr}{gb:Nat}{ev pv:Value}(hc:Cps w' (a.c.put n gb ev pv) K.hp (Gp.upd K.g n (some g)))(hm:Mod (fun k=>k=a.c.mb) w w')(hg:w.heap.size≤gb∧gb<w'.heap.size)(hv:∀k,ev.ownBlock=some k∨pv.ownBlock=some k→w.heap.size≤k∧k<w'.heap.size∧k≠gb):
  ∃a',KStep w w' a K a' {K with g:=Gp.upd K.g n (some g)}:=by
 have hz:=hm.size;have hmb:a.tag a.c.mb=2:=h.t2 _ (.inr (.inl rfl));have ne:∀k,a.tag k≠2→¬k=a.c.mb:=fun k hk e=>hk (e▸hmb)
 obtain⟨T,hT⟩:∃T:Nat→Nat,T=fun k=>if k<w.heap.size then a.tag k else if k=gb then 2 else if k<w'.heap.size then 5 else 0:=⟨_,rfl⟩
 have To:∀k,k<w.heap.size→T k=a.tag k:=fun k hk=>by rw[hT];exact if_pos hk
 have Ta:∀k,a.tag k≠0→T k=a.tag k:=fun k hk=>To k (h.lt k hk)
 have Tg:T gb=2:=by
  rw[hT]
  show(if gb<w.heap.size then _ else _)=2
  rw[if_neg (by omega),if_pos rfl]
 have Tv:∀k,ev.ownBlock=some k∨pv.ownBlock=some k→T k=5:=fun k hk=>by
  have:=hv k hk;rw[hT]
  show(if k<w.heap.size then _ else _)=5
  rw[if_neg (by omega),if_neg (by omega),if_pos this.2.1]
 have hsm:∀k,(Gp.upd K.g n (some g) k).isSome=true→k=n∨k≠n∧(K.g k).isSome=true:=fun k hk=>by
  by_cases e:k=n
  ·exact .inl e
  ·rw[Gp.upd_ne _ _ e] at hk;exact .inr ⟨e,hk⟩
 refine⟨{a with c:=a.c.put n gb ev pv,tag:=T}, ?_⟩;exact⟨{
      head:=(hm.block _ (lQ h.head) (ne _ (by rw[h.t1];decide))).trans h.head
      hx:=SlV.mod h.hx hm fun k hk=>ne k (by rw[h.t5 k (.inl hk)];decide)
      chx:=SlV.mod h.chx hm fun k hk=>ne k (by rw[h.t5 k (.inr (.inl hk))];decide)
      caps:=hc
      nic:=KStep.nic_fit (h.nic.keep hm fun k (hk:a.tag k=3)=>ne k (by rw[hk];decide)) fun k (hk:a.tag k=3) _=>(Ta k (by rw[hk];decide)).trans hk
      len:=h.len
      outer:=h.outer.mod hm fun k hk=>ne k (by rw[h.t4 k hk];decide)
      inner:=fun i v l hv hl=>(h.inner i v l hv hl).mod hm fun k hk=>ne k (by rw[h.t6 i v k hv hk];omega)
      ok:=⟨h.ok.n0,h.ok.n1,h.ok.bs,h.ok.q,h.ok.hl,h.ok.g0⟩
      t1:=(Ta _ (by rw[h.t1];decide)).trans h.t1
      t2:=fun k hk=>by
       rcases hk with e|e|⟨x,hx,e⟩
       ·have:=h.t2 k (.inl e);exact(Ta k (by rw[this];decide)).trans this
       ·have:=h.t2 k (.inr (.inl e));exact(Ta k (by rw[this];decide)).trans this
       ·rcases hsm x hx with rfl|⟨q,q'⟩
        ·have e:k=(a.c.put x gb ev pv).gb x:=e;rw[(a.c.put_at x gb ev pv).1] at e;rw[e];exact Tg
        ·have e:k=(a.c.put n gb ev pv).gb x:=e;rw[(a.c.put_ne gb ev pv q).1] at e;have:=h.t2 k (.inr (.inr ⟨x,q',e⟩));exact(Ta k (by rw[this];decide)).trans this
      t4:=fun k hk=>(Ta k (by rw[h.t4 k hk];decide)).trans (h.t4 k hk)
      t5:=fun k hk=>by
       rcases hk with e|e|e
       ·have:=h.t5 k (.inl e);exact(Ta k (by rw[this];decide)).trans this
       ·have:=h.t5 k (.inr (.inl e));exact(Ta k (by rw[this];decide)).trans this
       ·obtain⟨x,hx,e⟩:=e;rcases hsm x hx with rfl|⟨q,q'⟩
        ·have e:((a.c.put x gb ev pv).ev x).ownBlock=some k∨((a.c.put x gb ev pv).pv x).ownBlock=some k:=e;rw[(a.c.put_at x gb ev pv).2.1,(a.c.put_at x gb ev pv).2.2] at e;exact Tv k e
        ·have e:((a.c.put n gb ev pv).ev x).ownBlock=some k∨((a.c.put n gb ev pv).pv x).ownBlock=some k:=e;rw[(a.c.put_ne gb ev pv q).2.1,(a.c.put_ne gb ev pv q).2.2] at e;have:=h.t5 k (.inr (.inr ⟨x,q',e⟩));exact(Ta k (by rw[this];decide)).trans this
      t6:=fun i v k hv hk=>(Ta k (by rw[h.t6 i v k hv hk];omega)).trans (h.t6 i v k hv hk)
      lt:=fun k hk=>by
       have hk:T k≠0:=hk;rcases Nat.lt_or_ge k w.heap.size with g|g
       ·omega
       ·rw[hT] at hk;have hk:(if k<w.heap.size then a.tag k else if k=gb then 2 else if k<w'.heap.size then 5 else 0)≠0:=hk;rw[if_neg (by omega)] at hk
        split at hk
        ·omega
        ·split at hk
         ·assumption
         ·exact absurd rfl hk},⟨rfl,rfl,rfl⟩,hm.mono fun i _ g=>by subst g;exact⟨by rw[hmb];decide,by rw[hmb];decide⟩,To⟩
def KGrPost(w:World)(a:KAt)(K:Kn)(n:Int)(m:Mn)(pg:Int)(e:Ending)(w':World):Prop:=
 (Ca.grantE K.hp K.hx K.g n m pg≠0∧e=.returned (.int .i64 (Ca.grantE K.hp K.hx K.g n m pg))∧Below w.heap.size w w')∨
 (Ca.grantE K.hp K.hx K.g n m pg=0∧e=.returned (.int .i64 0)∧∃a',KStep w w' a K a' {K with g:=Gp.upd K.g n (some ⟨m,pg,0⟩)})
theorem Kl.grant{w:World}{a:KAt}{K:Kn}(h:Knl w a K)(hp1:K.hp≤4096)(hl:K.hx.length≤16){n pg:Int}(g0:0≤pg){m:Mn}{ev pv:Value}(hm:MnAt w ev pv m)(hok:m.ok):
  Calls Tryz.prog 67 #[.pointer (some ⟨a.c.cb,0,none⟩),.int .i64 n,.agg (m.cells ev pv),.int .u32 pg] w (KGrPost w a K n m pg):=by
 refine(Ca.grant h.caps hp1 g0 h.chx hl hm hok).mono ?_;rintro e w' (g|⟨g2,g3,gb,ev,pv,g4,g5,g6,g7⟩)
 ·exact .inl g
 ·exact .inr ⟨g2,g3,KStep.grant h g4 g5 g6 g7⟩
structure RcE where
 n:Int
 g:Gr
 ev:Value
 pv:Value
def RcE.cells(x:RcE):List Value:=[.int .i64 x.n,.int .u32 x.g.m.pages,x.ev,x.pv,.bool x.g.m.con,.int .u32 x.g.pg,.int .u32 x.g.took]
def RcE.key(x:RcE):Int×Gr:=(x.n,x.g)
def rcC(L:List RcE):List Value:=L.flatMap RcE.cells
theorem rcC_len(L:List RcE):(rcC L).length=L.length*7:=by
 unfold rcC
 induction L with
 |nil=>rfl
 |cons x l ih=>rw[List.flatMap_cons,List.length_append,ih];simp[RcE.cells];omega
theorem rcC_at:∀(L:List RcE) (i:Nat) (x:RcE),L[i]? =some x→∀j,j<7→(rcC L)[i*7+j]? =x.cells[j]?
 |y::l,0,x,h,j,hj=>by
  simp at h;subst h;have e:rcC (y::l)=y.cells++rcC l:=rfl;rw[e,Nat.zero_mul,Nat.zero_add,List.getElem?_append_left (by simpa [RcE.cells] using hj)]
 |y::l,i+1,x,h,j,hj=>by
  have:=rcC_at l i x (by simpa using h) j hj;have e:rcC (y::l)=y.cells++rcC l:=rfl;rw[e,List.getElem?_append_right (by simp[RcE.cells];omega),←this]
  congr 1
  simp[RcE.cells];omega
theorem rcC_one(L:List RcE)(h:∀x,x∈L→x.ev.oneCell'=true∧x.pv.oneCell'=true):∀u,u∈rcC L→u.oneCell'=true:=fun u hu=>by
 unfold rcC at hu;rw[List.mem_flatMap] at hu;obtain⟨x,hm,hx⟩:=hu;simp[RcE.cells] at hx;rcases hx with rfl|rfl|rfl|rfl|rfl|rfl|rfl
 ·rfl
 ·rfl
 ·exact(h x hm).1
 ·exact(h x hm).2
 ·rfl
 ·rfl
 ·rfl
structure Gp.OkG(hp:Int)(G:Int→Option Gr):Prop where
 ok:∀n,Gp.gok (G n)
 dom:∀n,(G n).isSome=true→1≤n∧n≤8
 fit:Gp.sum G≤hp
 may:∀n g,G n=some g→Gp.checkE g.m=0
 h1:hp≤4096
structure RcAt where
 rb:Nat
 hv:Value
 lv:Value
 L:List RcE
structure Rcs(w:World)(a:RcAt)(hp:Int)(G:Int→Option Gr):Prop where
 head:w.heap[a.rb]? =some (.cells #[.int .u32 hp,a.hv,a.lv] 261 (0,0))
 row:SlV w 263 7 a.lv a.L.length (rcC a.L)
 mns:∀x,x∈a.L→MnAt w x.ev x.pv x.g.m
 can:a.L.map RcE.key=Rc.canon G
 ok:Gp.OkG hp G
def RcAt.wf(a:RcAt)(k:Nat):Prop:=k=a.rb∨a.lv.ownBlock=some k
def RcAt.rf(a:RcAt)(k:Nat):Prop:=∃x,x∈a.L∧(x.ev.ownBlock=some k∨x.pv.ownBlock=some k)
namespace Rcs
variable {w w':World} {a:RcAt} {hp:Int} {G:Int→Option Gr}
theorem mod{F:Nat→Prop}(h:Rcs w a hp G)(hm:Mod F w w')(hF:∀k,a.wf k∨a.rf k→¬F k):Rcs w' a hp G:=
 ⟨(hm.block _ (lQ h.head) (hF _ (.inl (.inl rfl)))).trans h.head,h.row.mod hm fun k hk=>hF k (.inl (.inr hk)),fun x hx=>(h.mns x hx).mod hm (fun k hk=>hF k (.inr ⟨x,hx,.inl hk⟩)) fun k hk=>hF k (.inr ⟨x,hx,.inr hk⟩),h.can,h.ok⟩
theorem below(h:Rcs w a hp G)(hb:Below w.heap.size w w'):Rcs w' a hp G:=h.mod (Mod.of_below hb (fun _=>False)) fun _ _ q=>q
theorem cells(h:Rcs w a hp G):w.cell? ⟨a.rb,0,none⟩=some (.int .u32 hp)∧w.cell? ⟨a.rb,1,none⟩=some a.hv∧w.cell? ⟨a.rb,2,none⟩=some a.lv∧∀i,w.frozen? ⟨a.rb,i,none⟩=false:=by
 refine⟨?_, ?_, ?_,fun i=> ?_⟩
 ·unfold World.cell?;rw[h.head];rfl
 ·unfold World.cell?;rw[h.head];rfl
 ·unfold World.cell?;rw[h.head];rfl
 ·unfold World.frozen?;rw[h.head];simp
theorem len(h:Rcs w a hp G):a.L.length≤8:=by
 have:=congrArg List.length h.can;rw[List.length_map] at this;rw[this];exact Rc.len G
theorem key(h:Rcs w a hp G){x:RcE}(hx:x∈a.L):1≤x.n∧x.n≤8∧G x.n=some x.g:=Rc.mem (x:=x.key) (by rw[←h.can];exact List.mem_map_of_mem hx)
theorem at'(h:Rcs w a hp G){i:Nat}{x:RcE}(hx:a.L[i]? =some x):∃g off cap,a.lv=.slice (some ⟨g,off,none⟩) a.L.length cap∧∀j,j<7→w.cell? ⟨g,off+(i*7+j),none⟩=x.cells[j]? :=by
 have hi:=(List.getElem?_eq_some_iff.1 hx).1;have hr:=h.row;rcases hr.2 with⟨h0,_⟩|⟨g,off,cap,cur,hv,_⟩
 ·omega
 ·refine⟨g,off,cap,hv,fun j hj=> ?_⟩;rw[hv] at hr;rw[hr.cell (i*7+j) (by omega)];exact rcC_at _ _ _ hx j hj
theorem seven{g o i:Nat}{x:RcE}(h:∀j,j<7→w.cell? ⟨g,o+(i*7+j),none⟩=x.cells[j]?):w.cell? ⟨g,o+i*7,none⟩=some (.int .i64 x.n)∧w.cell? ⟨g,o+i*7+1,none⟩=some (.int .u32 x.g.m.pages)∧w.cell? ⟨g,o+i*7+2,none⟩=some x.ev∧w.cell? ⟨g,o+i*7+3,none⟩=some x.pv∧w.cell? ⟨g,o+i*7+4,none⟩=some (.bool x.g.m.con)∧w.cell? ⟨g,o+i*7+5,none⟩=some (.int .u32 x.g.pg)∧w.cell? ⟨g,o+i*7+6,none⟩=some (.int .u32 x.g.took):=
 ⟨h 0 (by omega),h 1 (by omega),h 2 (by omega),h 3 (by omega),h 4 (by omega),h 5 (by omega),h 6 (by omega)⟩
end Rcs
namespace Rc
def idx:List RcE→Int→Option Nat
 | [],_=>none
 |x::l,n=>if x.n=n then some 0 else(idx l n).map (·+1)
theorem idx_some:∀ {L:List RcE} {n:Int} {i:Nat},idx L n=some i→∃x,L[i]? =some x∧x.n=n∧∀k y,k<i→L[k]? =some y→y.n≠n
 | [],n,i,h=>by cases h
 |x::l,n,i,h=>by
  unfold idx at h
  split at h
  ·cases h;exact⟨x,rfl,by assumption,fun k y hk=>absurd hk (Nat.not_lt_zero _)⟩
  ·rename_i hne
   cases hr:idx l n with
   |none=>rw[hr] at h;cases h
   |some j=>
    rw[hr] at h;cases h;obtain⟨y,h1,h2,h3⟩:=idx_some hr;refine⟨y,by simpa using h1,h2,fun k z hk hz=> ?_⟩;cases k with
    |zero=>simp at hz;subst hz;exact hne
    |succ k=>exact h3 k z (by have hk:k+1<j+1:=hk;omega) (by simpa using hz)
theorem idx_none:∀ {L:List RcE} {n:Int},idx L n=none→∀x,x∈L→x.n≠n
 | [],n,_,x,hx=>by cases hx
 |y::l,n,h,x,hx=>by
  unfold idx at h
  split at h
  ·cases h
  ·rename_i hne
   cases hr:idx l n with
   |some j=>rw[hr] at h;cases h
   |none=>
    rcases List.mem_cons.1 hx with rfl|q
    ·exact hne
    ·exact idx_none hr x q
theorem idx_at{L:List RcE}{n:Int}{i:Nat}{x:RcE}(hx:L[i]? =some x)(hn:x.n=n)(hno:∀k y,k<i→L[k]? =some y→y.n≠n):idx L n=some i:=by
 cases h:idx L n with
 |none=>exact absurd hn (idx_none h x (List.mem_of_getElem? hx))
 |some j=>
  obtain⟨y,h1,h2,h3⟩:=idx_some h;rcases Nat.lt_trichotomy i j with q|q|q
  ·exact absurd hn (h3 i x q hx)
  ·rw[q]
  ·exact absurd h2 (hno j y q h1)
def idxV(L:List RcE)(n:Int):Int:=match idx L n with|none=> -1|some i=>i
section
variable {w:World} {a:RcAt} {hp:Int} {G:Int→Option Gr}
theorem of_none(h:Rcs w a hp G){n:Int}(hg:G n=none):idx a.L n=none:=by
 cases hi:idx a.L n with
 |none=>rfl
 |some i=>
  obtain⟨x,h1,h2,_⟩:=idx_some hi;have:=(h.key (List.mem_of_getElem? h1)).2.2;rw[h2,hg] at this;cases this
theorem of_some(h:Rcs w a hp G){n:Int}{g:Gr}(hg:G n=some g):∃i x,idx a.L n=some i∧a.L[i]? =some x∧x.n=n∧x.g=g:=by
 obtain⟨n1,n8⟩:=h.ok.dom n (by rw[hg];rfl);have hm:=mem_of n1 n8 hg;rw[←h.can] at hm;obtain⟨y,hy,he⟩:=List.mem_map.1 hm;have hyn:y.n=n:=congrArg Prod.fst he;cases hi:idx a.L n with
 |none=>exact absurd hyn (idx_none hi y hy)
 |some i=>
  obtain⟨x,h1,h2,_⟩:=idx_some hi;have:=(h.key (List.mem_of_getElem? h1)).2.2;rw[h2,hg] at this;exact⟨i,x,rfl,h1,h2,(Option.some.inj this).symm⟩
def fdRel(w:World)(L:List RcE)(n:Int)(vi:Value)(wr:World):Prop:=∃i:Nat,i≤L.length∧vi=.int .i64 i∧(∀(k:Nat) (x:RcE),k<i→L[k]? =some x→x.n≠n)∧wr=w
theorem find(h:Rcs w a hp G)(n:Int):Calls Tryz.prog 177 #[.pointer (some ⟨a.rb,0,none⟩),.int .i64 n] w fun e w'=>e=.returned (.int .i64 (idxV a.L n))∧w=w':=by
 obtain⟨c0,c1,c2,_⟩:=h.cells;have hl:=h.len;have H:=Lh h;obtain⟨ao,ac,hlv⟩:=h.row.form;rw[hlv] at c2;clear h;go_enter func177,ntmps177;go_wp2;go_loopw [5] (fun vi wr=>fdRel w a.L n vi wr) (fun vi _=>a.L.length - (intOf vi).toNat)
 case atStart=>exact⟨0,by omega,rfl,fun k _ hk=>absurd hk (Nat.not_lt_zero _),rfl⟩
 case round=>
  obtain⟨i,hi,rfl,hno,rfl⟩:=hrel;have HNo:=Lh hno;clear hno
  by_cases hin:i<a.L.length
  ·obtain⟨x,hx⟩:∃x,a.L[i]? =some x:=⟨_,Zg hin⟩;obtain⟨g,off,cap,hv,hc⟩:=H.out.at' hx;rw[hlv] at hv;simp only[Value.slice.injEq] at hv;obtain⟨rfl,_,rfl⟩:=hv;obtain⟨x0,_⟩:=Rcs.seven hc;have hi1:(i:Int)<a.L.length:=by omega
   have HX:=Lh hx;clear hc hx hlv
   by_cases hxn:x.n=n
   ·have hb:(x.n == n)=true:=beq_iff_eq.2 hxn;have HV:Hid (idxV a.L n=i):=Lh (by unfold idxV;rw[idx_at HX.out hxn HNo.out]);clear hxn;go_wp2;go_ret;exact⟨by rw[HV.out];rfl,rfl⟩
   ·have hb:(x.n == n)=false:=beq_eq_false_iff_ne.2 hxn;have HXn:=Lh hxn;clear hxn;go_wp2;refine⟨⟨i+1,by omega,by go_num,fun k y hk hy=> ?_,rfl⟩,by simp[intOf];omega⟩;rcases Nat.lt_or_ge k i with q|q
    ·exact HNo.out k y q hy
    ·obtain rfl:k=i:=by omega
     rw[HX.out] at hy;cases hy;exact HXn.out
  ·have hi1:¬(i:Int)<a.L.length:=by omega
   have HV:Hid (idxV a.L n= -1):=Lh (by
    unfold idxV;cases hd:idx a.L n with
    |none=>rfl
    |some j=>
     obtain⟨x,h1,h2,_⟩:=idx_some hd;exact absurd h2 (HNo.out j x (by have:=(List.getElem?_eq_some_iff.1 h1).1;omega) h1))
   clear hlv;go_wp2;go_ret;exact⟨by rw[HV.out];rfl,rfl⟩
end
end Rc
namespace Rc
def MBx(w:World)(b:Nat)(m:Mn)(ev pv:Value):Prop:=w.heap[b]? =some (.cells (m.cells ev pv) 29 (0,0))
theorem MBx.below{w w':World}{b:Nat}{m:Mn}{ev pv:Value}(h:MBx w b m ev pv)(hb:Below w.heap.size w w'):MBx w' b m ev pv:=(hb.block _ (lQ h)).trans h
def bkRel(w:World)(l:List (Int×Int))(id:Int)(vi:Value)(wr:World):Prop:=∃i:Nat,i≤l.length∧vi=.int .i64 i∧(∀(k:Nat) (x:Int×Int),k<i→l[k]? =some x→x.1≠id)∧wr=w
theorem blocks{w:World}{m:Mn}{ev pv:Value}(h:MnAt w ev pv m)(id:Int):Calls Tryz.prog 270 #[.agg (m.cells ev pv),.int .u32 id] w fun e w'=>e=.returned (.int .u32 ((Gp.blocksOf m.ext id).getD 0))∧Below w.heap.size w w':=by
 obtain⟨eo,ec,rfl⟩:=h.e.form;have hcap:=slv_len h.e;unfold maxLen at hcap;have hb:Below w.heap.size w (w.alloc (.cells (m.cells (.slice eo m.ext.length ec) pv) 29)):=Ba _;have hk:=heap_alloc_new w (.cells (m.cells (.slice eo m.ext.length ec) pv) 29);have HE:=Lh (h.below hb).e;have HB:=Lh hb;obtain⟨c0,c1,c2,c3,_⟩:=man_cells hk;unfold Mn.cells at*;clear h hb hk;go_enter func270,ntmps270;go_wp2;generalize w.alloc (.cells #[.int .u32 m.pages,.slice eo m.ext.length ec,pv,.bool m.con] 29)=w1 at*;go_loopw [5] (fun vi wr=>bkRel w1 m.ext id vi wr) (fun vi _=>m.ext.length - (intOf vi).toNat)
 case atStart=>exact⟨0,by omega,rfl,fun k _ hk=>absurd hk (Nat.not_lt_zero _),rfl⟩
 case round=>
  obtain⟨i,hi,rfl,hno,rfl⟩:=hrel;have HNo:=Lh hno;clear hno
  by_cases hin:i<m.ext.length
  ·obtain⟨g,off,rfl,hc0,hc1⟩:=ext_cells HE.out (Zg hin);obtain⟨x,hx⟩:∃x,m.ext[i]=x:=⟨_,rfl⟩;rw[hx] at hc0 hc1;have HX:Hid (m.ext[i]? =some x):=Lh (by rw[Zg hin,hx]);have hi1:(i:Int)<m.ext.length:=by omega
   clear hx
   by_cases hxe:x.1=id
   ·have hd:(x.1 == id)=true:=beq_iff_eq.2 hxe;have HV:Hid ((Gp.blocksOf m.ext id).getD 0=x.2):=Lh (by rw[Ca.blocksOf_at HX.out hxe HNo.out];rfl);clear hxe;go_wp2;go_ret;exact⟨by rw[HV.out];rfl,HB.out⟩
   ·have hd:(x.1 == id)=false:=beq_eq_false_iff_ne.2 hxe;have HXe:=Lh hxe;clear hxe;go_wp2;refine⟨⟨i+1,by omega,by go_num,fun k y hk hy=> ?_,rfl⟩,by simp[intOf];omega⟩;rcases Nat.lt_or_ge k i with q|q
    ·exact HNo.out k y q hy
    ·obtain rfl:k=i:=by omega
     rw[HX.out] at hy;cases hy;exact HXe.out
  ·have hi1:¬(i:Int)<m.ext.length:=by omega
   have HV:Hid ((Gp.blocksOf m.ext id).getD 0=0):=Lh (by rw[Ca.blocksOf_none fun k x hk hx=>HNo.out k x (by omega) hx];rfl);go_wp2;go_ret;exact⟨by rw[HV.out];rfl,HB.out⟩
def hpRel(w:World)(l:List Int)(p:Int)(vi:Value)(wr:World):Prop:=∃i:Nat,i≤l.length∧vi=.int .i64 i∧(∀(k:Nat) (x:Int),k<i→l[k]? =some x→x≠p)∧wr=w
theorem hasPort{w:World}{m:Mn}{ev pv:Value}(h:MnAt w ev pv m)(p:Int):Calls Tryz.prog 271 #[.agg (m.cells ev pv),.int .u16 p] w fun e w'=>e=.returned (.bool (decide (p∈m.ports)))∧Below w.heap.size w w':=by
 obtain⟨po,pc,rfl⟩:=h.p.form;have hcap:=slv_len h.p;unfold maxLen at hcap;have hb:Below w.heap.size w (w.alloc (.cells (m.cells ev (.slice po m.ports.length pc)) 29)):=Ba _;have hk:=heap_alloc_new w (.cells (m.cells ev (.slice po m.ports.length pc)) 29);have HE:=Lh (h.below hb).p;have HB:=Lh hb;obtain⟨c0,c1,c2,c3,_⟩:=man_cells hk;unfold Mn.cells at*;clear h hb hk;go_enter func271,ntmps271;go_wp2;generalize w.alloc (.cells #[.int .u32 m.pages,ev,.slice po m.ports.length pc,.bool m.con] 29)=w1 at*;go_loopw [5] (fun vi wr=>hpRel w1 m.ports p vi wr) (fun vi _=>m.ports.length - (intOf vi).toNat)
 case atStart=>exact⟨0,by omega,rfl,fun k _ hk=>absurd hk (Nat.not_lt_zero _),rfl⟩
 case round=>
  obtain⟨i,hi,rfl,hno,rfl⟩:=hrel;have HNo:=Lh hno;clear hno
  by_cases hin:i<m.ports.length
  ·obtain⟨g,off,rfl,hc0⟩:=u16_cell HE.out (Zg hin);obtain⟨x,hx⟩:∃x,m.ports[i]=x:=⟨_,rfl⟩;rw[hx] at hc0;have HX:Hid (m.ports[i]? =some x):=Lh (by rw[Zg hin,hx]);have hi1:(i:Int)<m.ports.length:=by omega
   clear hx
   by_cases hxe:x=p
   ·have hd:(x == p)=true:=beq_iff_eq.2 hxe;have HV:Hid (decide (p∈m.ports)=true):=Lh (decide_eq_true (by rw[←hxe];exact List.mem_of_getElem? HX.out));clear hxe;go_wp2;go_ret;exact⟨by rw[HV.out];rfl,HB.out⟩
   ·have hd:(x == p)=false:=beq_eq_false_iff_ne.2 hxe;have HXe:=Lh hxe;clear hxe;go_wp2;refine⟨⟨i+1,by omega,by go_num,fun k y hk hy=> ?_,rfl⟩,by simp[intOf];omega⟩;rcases Nat.lt_or_ge k i with q|q
    ·exact HNo.out k y q hy
    ·obtain rfl:k=i:=by omega
     rw[HX.out] at hy;cases hy;exact HXe.out
  ·have hi1:¬(i:Int)<m.ports.length:=by omega
   have HV:Hid (decide (p∈m.ports)=false):=Lh (decide_eq_false fun hm=>by
    obtain⟨k,hk⟩:=List.getElem?_of_mem hm;exact HNo.out k p (by have:=(List.getElem?_eq_some_iff.1 hk).1;omega) hk rfl)
   go_wp2;go_ret;exact⟨by rw[HV.out];rfl,HB.out⟩
section
variable {w:World} {a:RcAt} {hp:Int} {G:Int→Option Gr}
def MnP(w:World)(G:Int→Option Gr)(n:Int)(e:Ending)(w':World):Prop:=
 ∃ev pv,e=.returned (.tuple #[.agg ((gOf (G n)).m.cells ev pv),.bool (G n).isSome])∧Below w.heap.size w w'∧MnAt w' ev pv (gOf (G n)).m
theorem manifest(h:Rcs w a hp G)(n:Int):Calls Tryz.prog 165 #[.pointer (some ⟨a.rb,0,none⟩),.int .i64 n] w (MnP w G n):=by
 have hb:Below w.heap.size w (w.alloc (.cells #[.int .u32 0,.slice none 0 0,.slice none 0 0,.bool false] 29)):=Ba _;have hk:=heap_alloc_new w (.cells #[.int .u32 0,.slice none 0 0,.slice none 0 0,.bool false] 29);obtain⟨k0,k1,k2,k3,kf⟩:=man_cells (m:=⟨0,[],[],false⟩) hk;have h1:=h.below hb;have HF:=Lh (find h1 n);obtain⟨c0,c1,c2,_⟩:=h1.cells;have HFin:Hid (∀ev pv V b,b=(G n).isSome→Below w.heap.size w V→MnAt V ev pv (gOf (G n)).m→MnP w G n (.returned (.tuple #[.agg ((gOf (G n)).m.cells ev pv),.bool b])) V):=Lh fun ev pv V b hb h1 h2=>⟨ev,pv,by rw[hb],h1,h2⟩
 generalize MnP w G n=PQ at*;have HB:=Lh hb;have HK:=Lh hk;cases hg:G n with
 |none=>
  have hi:=of_none h1 hg;unfold idxV at HF;rw[hi] at HF;rw[hg] at HFin;have HEnd:Hid (∀V,Below w.heap.size w V→PQ (.returned (.tuple #[.agg #[.int .u32 0,.slice none 0 0,.slice none 0 0,.bool false],.bool false])) V):=Lh fun V hV=>HFin.out (.slice none 0 0) (.slice none 0 0) V false rfl hV ⟨SlV.nil _ _ _,SlV.nil _ _ _⟩
  clear h h1 hb hk hg hi HFin;go_enter func165,ntmps165;go_wp2_with fail;refine HF.out.mono ?_;rintro e w1 ⟨rfl,rfl⟩;go_wp2;refine bodyPost_ret (v:=.tuple #[.agg #[.int .u32 0,.slice none 0 0,.slice none 0 0,.bool false],.bool false]) (by simp[results,Tryz.results165,go_sem, *]) rfl ?_
  first
   |exact HEnd.out _ HB.out
   |exact HEnd.out _ (Mod.below HB.out (set4_mod _ _ _ _ _ _) HB.out.size fun k _ q=>by omega)
 |some g=>
  obtain⟨i,x,hi,hx,hn,hxg⟩:=of_some h1 hg;unfold idxV at HF;rw[hi] at HF;rw[hg] at HFin;obtain⟨q,off,cap,hv,hc⟩:=h1.at' hx;obtain⟨x0,x1,x2,x3,x4,x5,x6⟩:=Rcs.seven hc;rw[hxg] at x1 x4 x5 x6;rw[hv] at c2;have hl:=h1.len;have hi0:=(List.getElem?_eq_some_iff.1 hx).1;have hi1:(i:Int)<a.L.length:=by omega
  have hm:=(h.mns x (List.mem_of_getElem? hx));rw[hxg] at hm;have HEnd:Hid (∀V,Below w.heap.size w V→PQ (.returned (.tuple #[.agg #[.int .u32 g.m.pages,x.ev,x.pv,.bool g.m.con],.bool true])) V):=Lh fun V hV=>HFin.out x.ev x.pv V true rfl hV (hm.below hV)
  obtain⟨xe1,xe2⟩:(∃o n c,x.ev=.slice o n c)∧∃o n c,x.pv=.slice o n c:=⟨by obtain⟨o,c,e⟩:=hm.e.form;exact⟨o,_,c,e⟩,by obtain⟨o,c,e⟩:=hm.p.form;exact⟨o,_,c,e⟩⟩;obtain⟨eo,en,ec,hev⟩:=xe1;obtain⟨po,pn,pc,hpv⟩:=xe2;rw[hev] at x2 HEnd;rw[hpv] at x3 HEnd;clear h h1 hb hk hg hi HFin hx hn hxg hc hm hev hpv hi0 hl hv x0 x5 x6;go_enter func165,ntmps165;go_wp2_with fail;refine HF.out.mono ?_;rintro e w1 ⟨rfl,rfl⟩;go_wp2;refine bodyPost_ret (v:=.tuple #[.agg #[.int .u32 g.m.pages,.slice eo en ec,.slice po pn pc,.bool g.m.con],.bool true]) (by simp[results,Tryz.results165,go_sem, *]) rfl ?_;exact HEnd.out _ (Ba _)
def MnN(w:World)(e:Ending)(w':World):Prop:=∃eo ec po pc,e=.returned (.tuple #[.agg #[.int .u32 0,.slice eo 0 ec,.slice po 0 pc,.bool false],.bool false])∧Below w.heap.size w w'
def MnS(w:World)(g:Gr)(e:Ending)(w':World):Prop:=∃eo ec po pc,e=.returned (.tuple #[.agg #[.int .u32 g.m.pages,.slice eo g.m.ext.length ec,.slice po g.m.ports.length pc,.bool g.m.con],.bool true])∧Below w.heap.size w w'∧MnAt w' (.slice eo g.m.ext.length ec) (.slice po g.m.ports.length pc) g.m
theorem manifest_none(h:Rcs w a hp G){n:Int}(hg:G n=none):Calls Tryz.prog 165 #[.pointer (some ⟨a.rb,0,none⟩),.int .i64 n] w (MnN w):=
 (manifest h n).mono fun e w' ⟨ev,pv,h1,h2,h3⟩=>by
  rw[hg] at h3;obtain⟨eo,ec,rfl⟩:=h3.e.form;obtain⟨po,pc,rfl⟩:=h3.p.form;exact⟨eo,ec,po,pc,by rw[h1,hg];rfl,h2⟩
theorem manifest_some(h:Rcs w a hp G){n:Int}{g:Gr}(hg:G n=some g):Calls Tryz.prog 165 #[.pointer (some ⟨a.rb,0,none⟩),.int .i64 n] w (MnS w g):=
 (manifest h n).mono fun e w' ⟨ev,pv,h1,h2,h3⟩=>by
  rw[hg] at h3;have h3:MnAt w' ev pv g.m:=h3;obtain⟨eo,ec,rfl⟩:=h3.e.form;obtain⟨po,pc,rfl⟩:=h3.p.form;exact⟨eo,ec,po,pc,by rw[h1,hg];rfl,h2,h3⟩
theorem block(h:Rcs w a hp G)(n id k:Int)(k0:0≤k):Calls Tryz.prog 211 #[.pointer (some ⟨a.rb,0,none⟩),.int .i64 n,.int .u32 id,.int .u32 k] w fun e w'=>e=.returned (.bool (Gp.hasBlock (G n) id k))∧Below w.heap.size w w':=by
 cases hg:G n with
 |none=>
  have HM:=Lh (manifest_none h hg);clear h hg;go_enter func211,ntmps211;go_wp2_with fail;refine HM.out.mono ?_;rintro e w1 ⟨eo,ec,po,pc,rfl,hb⟩;have HB:=Lh (hb.alloc hb.size (.cells #[.int .u32 0,.slice eo 0 ec,.slice po 0 pc,.bool false] 29));clear hb;go_wp2;go_ret;exact⟨rfl,HB.out⟩
 |some g=>
  have HM:=Lh (manifest_some h hg);have HV:Hid (decide (k<(Gp.blocksOf g.m.ext id).getD 0)=Gp.hasBlock (some g) id k):=Lh (by
   unfold Gp.hasBlock;simp only;cases Gp.blocksOf g.m.ext id with
   |none=>exact decide_eq_false (by simp;omega)
   |some z=>rfl)
  clear h hg;go_enter func211,ntmps211;go_wp2_with fail;refine HM.out.mono ?_;rintro e w1 ⟨eo,ec,po,pc,rfl,hb,hm⟩;have hA:=(Below.refl w1.heap.size w1).alloc (Nat.le_refl _) (.cells (g.m.cells (.slice eo g.m.ext.length ec) (.slice po g.m.ports.length pc)) 29);obtain⟨c0,c1,c2,c3,_⟩:=man_cells (heap_alloc_new w1 (.cells (g.m.cells (.slice eo g.m.ext.length ec) (.slice po g.m.ports.length pc)) 29));have HQ:=Lh (blocks (hm.below hA) id);have HA:=Lh (bQ hb hA);unfold Mn.cells at*;clear hb hm hA;go_wp2_with fail;refine HQ.out.mono ?_;rintro e w2 ⟨rfl,hb2⟩;have HB2:=Lh (bQ HA.out hb2);clear hb2;generalize (Gp.blocksOf g.m.ext id).getD 0=z at*;go_wp2;go_ret;exact⟨by rw[←HV.out]<;>rfl,HB2.out⟩
theorem port(h:Rcs w a hp G)(n p:Int):Calls Tryz.prog 214 #[.pointer (some ⟨a.rb,0,none⟩),.int .i64 n,.int .u16 p] w fun e w'=>e=.returned (.bool (Gp.hasPort (G n) p))∧Below w.heap.size w w':=by
 cases hg:G n with
 |none=>
  have HM:=Lh (manifest_none h hg);clear h hg;go_enter func214,ntmps214;go_wp2_with fail;refine HM.out.mono ?_;rintro e w1 ⟨eo,ec,po,pc,rfl,hb⟩;have HB:=Lh (hb.alloc hb.size (.cells #[.int .u32 0,.slice eo 0 ec,.slice po 0 pc,.bool false] 29));clear hb;go_wp2;go_ret;exact⟨rfl,HB.out⟩
 |some g=>
  have HM:=Lh (manifest_some h hg);have HV:Hid (decide (p∈g.m.ports)=Gp.hasPort (some g) p):=Lh rfl;clear h hg;go_enter func214,ntmps214;go_wp2_with fail;refine HM.out.mono ?_;rintro e w1 ⟨eo,ec,po,pc,rfl,hb,hm⟩;have hA:=(Below.refl w1.heap.size w1).alloc (Nat.le_refl _) (.cells (g.m.cells (.slice eo g.m.ext.length ec) (.slice po g.m.ports.length pc)) 29);obtain⟨c0,c1,c2,c3,_⟩:=man_cells (heap_alloc_new w1 (.cells (g.m.cells (.slice eo g.m.ext.length ec) (.slice po g.m.ports.length pc)) 29));have HQ:=Lh (hasPort (hm.below hA) p);have HA:=Lh (bQ hb hA);unfold Mn.cells at*;clear hb hm hA;go_wp2_with fail;refine HQ.out.mono ?_;rintro e w2 ⟨rfl,hb2⟩;have HB2:=Lh (bQ HA.out hb2);clear hb2;generalize decide (p∈g.m.ports)=z at*;go_wp2;go_ret;exact⟨by rw[←HV.out]<;>rfl,HB2.out⟩
theorem console(h:Rcs w a hp G)(n:Int):Calls Tryz.prog 218 #[.pointer (some ⟨a.rb,0,none⟩),.int .i64 n] w fun e w'=>e=.returned (.bool (Gp.con (G n)))∧Below w.heap.size w w':=by
 cases hg:G n with
 |none=>
  have HM:=Lh (manifest_none h hg);clear h hg;go_enter func218,ntmps218;go_wp2_with fail;refine HM.out.mono ?_;rintro e w1 ⟨eo,ec,po,pc,rfl,hb⟩;have HB:=Lh (hb.alloc hb.size (.cells #[.int .u32 0,.slice eo 0 ec,.slice po 0 pc,.bool false] 29));clear hb;go_wp2;go_ret;exact⟨rfl,HB.out⟩
 |some g=>
  have HM:=Lh (manifest_some h hg);clear h hg;go_enter func218,ntmps218;go_wp2_with fail;refine HM.out.mono ?_;rintro e w1 ⟨eo,ec,po,pc,rfl,hb,hm⟩;have hA:=(Below.refl w1.heap.size w1).alloc (Nat.le_refl _) (.cells (g.m.cells (.slice eo g.m.ext.length ec) (.slice po g.m.ports.length pc)) 29);obtain⟨c0,c1,c2,c3,_⟩:=man_cells (heap_alloc_new w1 (.cells (g.m.cells (.slice eo g.m.ext.length ec) (.slice po g.m.ports.length pc)) 29));have HA:=Lh (bQ hb hA);unfold Mn.cells at*;clear hb hm hA;go_wp2;go_ret;exact⟨rfl,HA.out⟩
theorem left(h:Rcs w a hp G)(n:Int):Calls Tryz.prog 115 #[.pointer (some ⟨a.rb,0,none⟩),.int .i64 n] w fun e w'=>e=.returned (.int .u32 (Gp.left (G n)))∧Below w.heap.size w w':=by
 have HF:=Lh (find h n);obtain⟨c0,c1,c2,_⟩:=h.cells;cases hg:G n with
 |none=>
  have hi:=of_none h hg;unfold idxV at HF;rw[hi] at HF;clear h hg hi;go_enter func115,ntmps115;go_wp2_with fail;refine HF.out.mono ?_;rintro e w1 ⟨rfl,rfl⟩;go_wp2;go_ret;exact⟨rfl,Below.refl _ _⟩
 |some g=>
  obtain⟨i,x,hi,hx,hn,hxg⟩:=of_some h hg;unfold idxV at HF;rw[hi] at HF;obtain⟨q,off,cap,hv,hc⟩:=h.at' hx;obtain⟨x0,x1,x2,x3,x4,x5,x6⟩:=Rcs.seven hc;rw[hxg] at x1 x6;rw[hv] at c2;have hl:=h.len;have hi0:=(List.getElem?_eq_some_iff.1 hx).1;have hi1:(i:Int)<a.L.length:=by omega
  have hok:=h.ok.ok n g hg;have t0:=hok.t0;have t1:=hok.t1;have p1:=hok.m.p1;have HW:IntKind.u32.wrap (g.m.pages - g.took)=g.m.pages - g.took:=wrap32 (by omega) (by omega);have HBd:=Lh (Below.refl w.heap.size w).drew;clear h hg hi hx hn hxg hc x0 x2 x3 x4 x5 hok t0 t1 p1 hv;go_enter func115,ntmps115;go_wp2_with fail;refine HF.out.mono ?_;rintro e w1 ⟨rfl,rfl⟩;go_wp2;refine B (fun V=>V.cell? ⟨a.rb,2,none⟩=some (.slice (some ⟨q,off,none⟩) a.L.length cap)∧V.cell? ⟨q,off+i*7+1,none⟩=some (.int .u32 g.m.pages)∧V.cell? ⟨q,off+i*7+6,none⟩=some (.int .u32 g.took)) ⟨c2,x1,x6⟩ fun wd hwd hS=> ?_
  have HWd:=Lh hwd;clear hwd c0 c1 c2 x1 x6;refine T 0 hS ?_;refine T 1 hS ?_;refine T 2 hS ?_;refine T 3 hS ?_;refine T 4 hS ?_;refine T 5 hS ?_;refine T 6 hS ?_;refine T 7 hS ?_;refine T 8 hS ?_;refine T 9 hS ?_;refine T 10 hS ?_;refine T 11 hS ?_;refine T 12 hS ?_;refine T 13 hS ?_;refine T 14 hS ?_;refine T 15 hS ?_;refine T 16 hS ?_;refine T 17 hS ?_;refine T 18 hS ?_;refine wpAnyH_done (by kernel_rfl) ?_ _;clear hS;go_wp2;go_ret;exact⟨rfl,by rw[HWd.out];exact HBd.out⟩
end
end Rc
end Go.Proofs.YtjjdjpdmgaipeaaGreat
