/- GraG, TskG in one text. -/
import Derived.Test.YtnpicaigdfnmfaaGreatPnGrantG
import Derived.Test.YtnpicaigdfnmfaaGreatPnRegT
import Derived.Test.YtnpicaigdfnmfaaGreatPnKnG
import Derived.Deep.RegionHeld3
import Derived.Test.YtnpicaigdfnmfaaGreatPnZa
set_option linter.unusedVariables false
set_option linter.unusedSimpArgs false
set_option maxRecDepth 100000
set_option maxHeartbeats 16000000
open Go.Proofs.Tryz
namespace Go.Proofs.YtnpicaigdfnmfaaGreat
open Go.RowKit
def CAt.put(a:CAt)(n:Int)(gb:Nat)(ev pv:Value):CAt:= { a with gb:=fun k=>if k=n then gb else a.gb k,ev:=fun k=>if k=n then ev else a.ev k,pv:=fun k=>if k=n then pv else a.pv k }
theorem CAt.put_at(a:CAt)(n:Int)(gb:Nat)(ev pv:Value):(a.put n gb ev pv).gb n=gb∧(a.put n gb ev pv).ev n=ev∧(a.put n gb ev pv).pv n=pv:=⟨if_pos rfl,if_pos rfl,if_pos rfl⟩
theorem CAt.put_ne(a:CAt){n k:Int}(gb:Nat)(ev pv:Value)(h:k≠n):(a.put n gb ev pv).gb k=a.gb k∧(a.put n gb ev pv).ev k=a.ev k∧(a.put n gb ev pv).pv k=a.pv k:=⟨if_neg h,if_neg h,if_neg h⟩
theorem SlV.map_keep{w w':World}{mb n:Nat}{D:DataW Unit}{kt:TypeId}{el:Value→Option (DataW Unit×List MemPlace)}(ho:w.ownsMap Tryz.prog kt el mb n D)(hm:Mod (fun k=>k=mb) w w'){ty:TypeId}{s m:Nat}{v:Value}{xs:List Value}(h:SlV w ty s v m xs):SlV w' ty s v m xs:=by
 refine⟨h.1, ?_⟩;rcases h.2 with g|⟨g,off,cap,cur,rfl,hgg,rest⟩
 ·exact .inl g
 ·refine .inr ⟨g,off,cap,cur,rfl,(hm.block _ (lQ hgg) (fun e=> ?_)).trans hgg,rest⟩;obtain⟨es,clock,hb,_⟩:=ho;rw[←e,hgg] at hb;cases hb
theorem Cps.head_ne{w:World}{a:CAt}{hp:Int}{G:Int→Option Gr}(h:Cps w a hp G):a.cb≠a.mb∧∀n,(G n).isSome=true→a.gb n≠a.mb:=by
 obtain⟨D,m,⟨es,clock,hb,_⟩,_⟩:=h.map;refine⟨fun e=> ?_,fun n hn e=> ?_⟩
 ·rw[←e,h.head] at hb;cases hb
 ·obtain⟨g,hg⟩:=Option.isSome_iff_exists.1 hn;have:=(h.grant n g hg).1;rw[e,hb] at this;cases this
theorem Cps.insert{w:World}{a:CAt}{hp:Int}{G:Int→Option Gr}(h:Cps w a hp G){n:Int}(n1:1≤n)(n8:n≤8)(hn:G n=none){gb:Nat}{ev pv:Value}{g:Gr}(hblk:w.heap[gb]? =some (.cells (grC g ev pv) 293 (0,0)))(hm:MnAt w ev pv g.m)(hok:g.ok)(h1:gb≠a.mb)(hgn:∀k,(G k).isSome=true→a.gb k≠gb)(hft:Gp.sum G+(g.m.pages+g.pg)≤hp):
  ∃w',(Instr.mapUpdate 283 (.map (some a.mb)) (.int .i64 n) (.pointer (some ⟨gb,0,none⟩))).run Tryz.prog w=.ok () w'∧Cps w' (a.put n gb ev pv) hp (Gp.upd G n (some g))∧Mod (fun k=>k=a.mb) w w':=by
 obtain⟨hcm,hgm⟩:=h.head_ne;obtain⟨D,d,ho,hv,hs⟩:=h.map;have ht:=own_tight ho;have K:=Maps.int_keyed (P:=Tryz.prog) Tryz.underlying3;have hk:=Maps.keyOf_int_mk (P:=Tryz.prog) Tryz.underlying3 (I64.wf (n:=n) ⟨by omega,by omega⟩);have hcb:Gp.cnt G≤8:=by
  have:Gp.cnt G≤Gp.sum8 fun _=>1:=Gp.sum8_le fun k=>by unfold Gp.one;split<;>omega
  exact this
 obtain⟨w',hrun,how,htu⟩:=ht.store K Tryz.underlying283 (by unfold maxLen;omega) (val:=.pointer (some ⟨gb,0,none⟩)) (d:=.lit (.int .i64 gb)) (ps:=[]) hk rfl;have hg:=htu.grown;have hne:∀k,k<w.heap.size→k≠a.mb→w'.heap[k]? =w.heap[k]? :=fun k hk hkm=>hg.block k hk (by simpa using hkm)
 have hmod:Mod (fun k=>k=a.mb) w w':=⟨hg.os,hg.tape,hg.output,hg.size,fun k hk hkm=>hne k hk hkm⟩;have hsm:∀k,(Gp.upd G n (some g) k).isSome=true↔k=n∨(G k).isSome=true:=fun k=>by
  unfold Gp.upd
  split
  ·rename_i e;simp[e]
  ·rename_i e;simp[e]
 refine⟨w',hrun,⟨(hne a.cb (h.lt (.inl rfl)) hcm).trans h.head,⟨_,_,how,fun x zd=> ?_, ?_⟩,fun m g' hg'=> ?_,fun m=> ?_,fun m hm'=> ?_,fun m k q1 q2 e=> ?_, ?_⟩,hmod⟩
 ·by_cases e:x=n
  ·subst e;rw[if_pos ((hsm x).2 (.inl rfl)),Maps.atKey_put_same ht.isMap (K.key hk),(a.put_at x gb ev pv).1]
  ·rw[Maps.atKey_put_other (by intro g;simp at g;exact e g),hv,(a.put_ne gb ev pv e).1,Gp.upd_ne _ _ e]
 ·rw[Maps.size_put (ht.tidy K)];have:Maps.has D (.int .i64 n)=false:=Maps.has_false_of_atKey fun z=>by rw[hv,if_neg (by rw[hn];simp)]
  rw[this,Gp.cnt_put n1 n8,←hs,hn];simp[Gp.one]
 ·by_cases e:m=n
  ·subst e;rw[Gp.upd_at] at hg';cases hg';rw[(a.put_at m gb ev pv).1,(a.put_at m gb ev pv).2.1,(a.put_at m gb ev pv).2.2];exact⟨(hne gb (lQ hblk) h1).trans hblk,hm.e.map_keep ho hmod,hm.p.map_keep ho hmod⟩
  ·rw[Gp.upd_ne _ _ e] at hg';obtain⟨p1,p2⟩:=h.grant m g' hg';rw[(a.put_ne gb ev pv e).1,(a.put_ne gb ev pv e).2.1,(a.put_ne gb ev pv e).2.2];exact⟨(hne _ (lQ p1) (hgm m (by rw[hg'];rfl))).trans p1,p2.e.map_keep ho hmod,p2.p.map_keep ho hmod⟩
 ·by_cases e:m=n
  ·subst e;rw[Gp.upd_at];intro g' hg';cases hg';exact hok
  ·rw[Gp.upd_ne _ _ e];exact h.ok m
 ·rcases(hsm m).1 hm' with rfl|q
  ·exact⟨n1,n8⟩
  ·exact h.dom m q
 ·by_cases e1:m=n
  ·by_cases e2:k=n
   ·rw[e1,e2]
   ·rw[e1,(a.put_at n gb ev pv).1,(a.put_ne gb ev pv e2).1] at e;exact absurd e.symm (hgn k (((hsm k).1 q2).resolve_left e2))
  ·by_cases e2:k=n
   ·rw[e2,(a.put_at n gb ev pv).1,(a.put_ne gb ev pv e1).1] at e;exact absurd e (hgn m (((hsm m).1 q1).resolve_left e1))
   ·rw[(a.put_ne gb ev pv e1).1,(a.put_ne gb ev pv e2).1] at e;exact h.inj m k (((hsm m).1 q1).resolve_left e1) (((hsm k).1 q2).resolve_left e2) e
 ·rw[Gp.sum_put n1 n8,hn]
  show Gp.sum G+(g.m.pages+g.pg - 0)≤hp
  omega
namespace Ca
theorem all{w:World}{a:CAt}{m:Mn}{ev pv:Value}{pb:Nat}(r0 r1 r2 r3:Int)
  (h0:∀V,Below w.heap.size w V→Calls Tryz.prog 187 #[.pointer (some ⟨a.cb,0,none⟩),.agg (m.cells ev pv)] V fun e w'=>e=.returned (.int .i64 r0)∧Below V.heap.size V w')
  (h1:∀V,Below w.heap.size w V→Calls Tryz.prog 188 #[.pointer (some ⟨a.cb,0,none⟩),.agg (m.cells ev pv)] V fun e w'=>e=.returned (.int .i64 r1)∧Below V.heap.size V w')
  (h2:∀V,Below w.heap.size w V→Calls Tryz.prog 189 #[.pointer (some ⟨a.cb,0,none⟩),.agg (m.cells ev pv)] V fun e w'=>e=.returned (.int .i64 r2)∧Below V.heap.size V w')
  (h3:∀V,Below w.heap.size w V→Calls Tryz.prog 132 #[.pointer (some ⟨a.cb,0,none⟩),.agg (m.cells ev pv),.pointer (some ⟨pb,0,none⟩)] V fun e w'=>e=.returned (.int .i64 r3)∧Below V.heap.size V w'):
  Calls Tryz.prog 134 #[.pointer (some ⟨a.cb,0,none⟩),.agg (m.cells ev pv),.func (.func 132) #[] #[.pointer (some ⟨pb,0,none⟩)]] w fun e w'=>e=.returned (.int .i64 (firstE [r0,r1,r2,r3]))∧Below w.heap.size w w':=by
 have HE:=Lh fun(V:World) (lb:Nat) hb hf=>each (w:=V) (a:=a) (m:=m) (ev:=ev) (pv:=pv) (lb:=lb) (pb:=pb) r0 r1 r2 r3 hf (fun U hU=>h0 U (bQ hb hU)) (fun U hU=>h1 U (bQ hb hU)) (fun U hU=>h2 U (bQ hb hU)) (fun U hU=>h3 U (bQ hb hU))
 have hb:Below w.heap.size w (w.alloc (.cells (m.cells ev pv) 109)):=Ba _;have hblk:=heap_alloc_new w (.cells (m.cells ev pv) 109);obtain⟨c0,c1,c2,c3,_⟩:=man_cells hblk;have HB:=Lh hb;unfold Mn.cells at*;clear hb hblk h0 h1 h2 h3;go_enter func134,ntmps134;go_wp2_with fail;refine(HE.out _ _ (HB.out.alloc HB.out.size _) (by
  have h:=heap_alloc_new (w.alloc (.cells #[.int .u32 m.pages,ev,pv,.bool m.con] 109)) (.cells #[.func (.func 187) #[] #[],.func (.func 188) #[] #[],.func (.func 189) #[] #[],.func (.func 132) #[] #[.pointer (some ⟨pb,0,none⟩)]] 342);rw[show(w.alloc (.cells #[.int .u32 m.pages,ev,pv,.bool m.con] 109)).heap.size=w.heap.size+1 by simp] at h;exact h)).mono ?_
 rintro e w2 ⟨rfl,hb2⟩;have HB2:=Lh (bQ (HB.out.alloc HB.out.size _) hb2);clear c0 c1 c2 c3 hb2;go_wp2;go_ret;exact⟨rfl,HB2.out⟩
end Ca
theorem rises_at{l:List (Int×Int)}(h:Gp.risesB (fun a b:Int×Int=>decide (a.1<b.1)) l=true)(h0:∀x,x∈l→0≤x.1):∀(k:Nat) (x:Int×Int),l[k]? =some x→(k:Int)≤x.1
 |0,x,hx=>by have:=h0 x (List.mem_of_getElem? hx);omega
 |k+1,x,hx=>by
  have hk:k<l.length:=by have:=(List.getElem?_eq_some_iff.1 hx).1;omega
  have h1:=rises_at h h0 k l[k] (Zg hk);have h2:=(Gp.risesB_iff _ l).1 h k l[k] x (Zg hk) hx;simp at h2;omega
theorem slv_at{w:World}{e:TypeId}{s n oc:Nat}{o:Option Addr}{xs:List Value}(h:SlV w e s (.slice o n oc) n xs):Cl.At w o xs:=fun j u hu=>by
 have hj:=(List.getElem?_eq_some_iff.1 hu).1;have hl:=h.1;rcases h.2 with⟨h0,_⟩|⟨g,off,cap,cur,hv,_⟩
 ·subst h0;omega
 ·cases hv;exact⟨g,off,rfl,(SlV.cell h j (by omega)).trans hu⟩
theorem one_ext(l:List (Int×Int)):∀u,u∈extC l→u.oneCell'=true:=fun u hu=>by
 unfold extC at hu;rw[List.mem_flatMap] at hu;obtain⟨x,_,hx⟩:=hu;simp at hx;rcases hx with rfl|rfl<;>rfl
theorem one_u16(l:List Int):∀u,u∈l.map (Value.int .u16)→u.oneCell'=true:=fun u hu=>by
 obtain⟨x,_,rfl⟩:=List.mem_map.1 hu;rfl
namespace Ca
def grE(hp:Int)(hx:List Int)(G:Int→Option Gr)(m:Mn)(pg:Int):Int:=firstE [noneE m.ext hx.length,longE m.ext hx,busyE G m,fullE hp G m pg]
def grantE(hp:Int)(hx:List Int)(G:Int→Option Gr)(n:Int)(m:Mn)(pg:Int):Int:=
 if n<1∨8<n∨Gp.checkE m≠0∨4096<pg then 2 else if(G n).isSome=true then 9 else grE hp hx G m pg
def GrPost(w:World)(a:CAt)(hp:Int)(hx:List Int)(G:Int→Option Gr)(n:Int)(m:Mn)(pg:Int)(e:Ending)(w':World):Prop:=
 (grantE hp hx G n m pg≠0∧e=.returned (.int .i64 (grantE hp hx G n m pg))∧Below w.heap.size w w')∨
 (grantE hp hx G n m pg=0∧e=.returned (.int .i64 0)∧∃gb ev pv,Cps w' (a.put n gb ev pv) hp (Gp.upd G n (some ⟨m,pg,0⟩))∧Mod (fun k=>k=a.mb) w w'∧(w.heap.size≤gb∧gb<w'.heap.size)∧(∀k,ev.ownBlock=some k∨pv.ownBlock=some k→w.heap.size≤k∧k<w'.heap.size∧k≠gb))
theorem ext_len{m:Mn}{hx:List Int}(hl:hx.length≤16)(hok:m.ok)(hc:Gp.checkE m=0){x y z:Int}(he:firstE [noneE m.ext hx.length,x,y,z]=0):m.ext.length≤16:=by
 have hm:Gp.mayM m=true:=by
  unfold Gp.checkE at hc
  split at hc
  ·assumption
  ·cases hc
 unfold Gp.mayM at hm;simp only[Bool.and_eq_true] at hm;have hr:=hm.1.1.1.1.2;have hn:extNone m.ext hx.length=false:=by
  cases hq:extNone m.ext hx.length with
  |false=>rfl
  |true=>
   unfold firstE noneE at he;rw[hq] at he;simp at he
 unfold extNone at hn;rw[List.any_eq_false] at hn;rcases Nat.lt_or_ge 16 m.ext.length with q|q
 ·exfalso
  have h16:m.ext[16]? =some m.ext[16]:=Zg q;have h1:=rises_at hr (fun x hx=>(hok.e x hx).1) 16 _ h16;have h2:=hn _ (List.mem_of_getElem? h16);simp at h2;omega
 ·exact q
theorem may_num{m:Mn}(hc:Gp.checkE m=0):m.ports.length≤16∧m.pages≤1024:=by
 have hm:Gp.mayM m=true:=by
  unfold Gp.checkE at hc
  split at hc
  ·assumption
  ·cases hc
 unfold Gp.mayM at hm;simp only[Bool.and_eq_true,decide_eq_true_eq] at hm;exact⟨hm.1.2,hm.2⟩
theorem grant_in{w:World}{a:CAt}{hp:Int}{hx:List Int}{G:Int→Option Gr}(h:Cps w a hp G)(hp1:hp≤4096){n pg:Int}(n1:1≤n)(n8:n≤8)(g0:0≤pg)(g1:pg≤4096)(hh:SlV w 42 1 a.hv hx.length (hx.map (Value.int .u32)))(hl:hx.length≤16){m:Mn}{ev pv:Value}(hm:MnAt w ev pv m)(hok:m.ok):
  Calls Tryz.prog 86 #[.pointer (some ⟨a.cb,0,none⟩),.int .i64 n,.agg (m.cells ev pv),.int .u32 pg] w (GrPost w a hp hx G n m pg):=by
 have hb0:Below w.heap.size w (w.alloc (.cells (m.cells ev pv) 109)):=Ba _;have hb1:=hb0.alloc hb0.size (.cells #[.int .u32 pg] 42);have hbk0:((w.alloc (.cells (m.cells ev pv) 109)).alloc (.cells #[.int .u32 pg] 42)).heap[w.heap.size]? =some (.cells (m.cells ev pv) 109):=(Below.heap_alloc _ _ _ (lQ (heap_alloc_new w _))).trans (heap_alloc_new w _);have hbk1:=heap_alloc_new (w.alloc (.cells (m.cells ev pv) 109)) (.cells #[.int .u32 pg] 42);rw[show(w.alloc (.cells (m.cells ev pv) 109)).heap.size=w.heap.size+1 by simp] at hbk1;have HB1:=Lh hb1;have HBk:=Lh (And.intro hbk0 hbk1);have HCk:=Lh (Dm.check (hm.below hb1));have HCps:=Lh fun V (hV:Below w.heap.size w V)=>h.below hV
 have HMn:=Lh fun V (hV:Below w.heap.size w V)=>hm.below hV
 have HAll:=Lh fun(hq:m.pages≤1024) (V:World) (hV:Below w.heap.size w V) (hpb:V.heap[w.heap.size+1]? =some (.cells #[.int .u32 pg] 42 (0,0)))=>all (w:=V) (a:=a) (m:=m) (ev:=ev) (pv:=pv) (pb:=w.heap.size+1) (noneE m.ext hx.length) (longE m.ext hx) (busyE G m) (fullE hp G m pg)
  (fun U hU=>none_any (h.below (bQ hV hU)) (hh.below (bQ hV hU)) hl (hm.below (bQ hV hU)) hok)
  (fun U hU=>long_any (h.below (bQ hV hU)) (hh.below (bQ hV hU)) hl (hm.below (bQ hV hU)) hok)
  (fun U hU=>busy (h.below (bQ hV hU)) (hm.below (bQ hV hU)))
  (fun U hU=>full (h.below (bQ hV hU)) hp1 ((hU.block _ (lQ hpb)).trans hpb) hok.p0 hq (by omega) (by omega))
 have HOk:=Lh hok;have HL:=Lh hl;have HPp:=Lh hp1;have HZ0:=Lh (Below.refl w.heap.size w);have HF1:Hid (∀V,Gp.checkE m≠0→Below w.heap.size w V→GrPost w a hp hx G n m pg (.returned (.int .i64 2)) V):=Lh fun V h1 h2=>by
  have e:grantE hp hx G n m pg=2:=if_pos (.inr (.inr (.inl h1)));exact .inl ⟨by rw[e];decide,by rw[e],h2⟩
 have hck:Gp.checkE m=0→¬(n<1∨8<n∨Gp.checkE m≠0∨4096<pg):=fun h1=>by omega
 have HF9:Hid (∀V,Gp.checkE m=0→(G n).isSome=true→Below w.heap.size w V→GrPost w a hp hx G n m pg (.returned (.int .i64 9)) V):=Lh fun V h1 h2 h3=>by
  have e:grantE hp hx G n m pg=9:=(if_neg (hck h1)).trans (if_pos h2);exact .inl ⟨by rw[e];decide,by rw[e],h3⟩
 have HF2:Hid (∀V,Gp.checkE m=0→G n=none→grE hp hx G m pg≠0→Below w.heap.size w V→GrPost w a hp hx G n m pg (.returned (.int .i64 (grE hp hx G m pg))) V):=Lh fun V h1 hn h2 h3=>by
  have e:grantE hp hx G n m pg=grE hp hx G m pg:=(if_neg (hck h1)).trans (if_neg (by rw[hn];simp));exact .inl ⟨by rw[e];exact h2,by rw[e],h3⟩
 have HF3:Hid (∀V gb ev pv,Gp.checkE m=0→G n=none→grE hp hx G m pg=0→Cps V (a.put n gb ev pv) hp (Gp.upd G n (some ⟨m,pg,0⟩))→Mod (fun k=>k=a.mb) w V→(w.heap.size≤gb∧gb<V.heap.size)→(∀k,ev.ownBlock=some k∨pv.ownBlock=some k→w.heap.size≤k∧k<V.heap.size∧k≠gb)→GrPost w a hp hx G n m pg (.returned (.int .i64 0)) V):=Lh fun V gb ev pv h1 hn h2 h3 h4 h5 h6=>by
  have e:grantE hp hx G n m pg=grE hp hx G m pg:=(if_neg (hck h1)).trans (if_neg (by rw[hn];simp));exact .inr ⟨by rw[e];exact h2,rfl,gb,ev,pv,h3,h4,h5,h6⟩
 clear hck;generalize GrPost w a hp hx G n m pg=PQ at*;have hge:grE hp hx G m pg=firstE [noneE m.ext hx.length,longE m.ext hx,busyE G m,fullE hp G m pg]:=rfl;rw[←hge] at HAll;have HGe:=Lh hge;have HCell:Hid (∀V,Below ((w.alloc (.cells (m.cells ev pv) 109)).alloc (.cells #[.int .u32 pg] 42)).heap.size ((w.alloc (.cells (m.cells ev pv) 109)).alloc (.cells #[.int .u32 pg] 42)) V→V.heap[w.heap.size]? =some (.cells (m.cells ev pv) 109)∧V.heap[w.heap.size+1]? =some (.cells #[.int .u32 pg] 42)):=Lh fun V hV=>⟨(hV.block _ (lQ HBk.out.1)).trans HBk.out.1,(hV.block _ (lQ HBk.out.2)).trans HBk.out.2⟩
 obtain⟨c0,c1,c2,c3,cf⟩:=man_cells hbk0;unfold Mn.cells at*;clear hb0 hb1 hbk0 hbk1 h hh hm hok hl hge;go_enter func86,ntmps86;go_wp2_with fail;refine HCk.out.mono ?_;rintro e w2 ⟨rfl,hb2⟩;obtain⟨q0,q1⟩:=HCell.out _ hb2;have HB2:=Lh (bQ HB1.out hb2);have HG2:=Lh hb2;have HK2:=Lh (And.intro q0 q1);clear c0 c1 c2 c3 cf hb2;obtain⟨c0,c1,c2,c3,cf⟩:=man_cells q0;have c4:w2.cell? ⟨w.heap.size+1,0,none⟩=some (.int .u32 pg):=by unfold World.cell?;rw[q1];rfl
 clear q0 q1;obtain⟨ce,hce⟩:∃ce,Gp.checkE m=ce:=⟨_,rfl⟩;rw[hce]
 by_cases e0:ce=0
 case neg=>
  have hne:(ce != 0)=true:=bne_iff_ne.2 e0;have hend:=HF1.out w2 (by rw[hce];exact e0) HB2.out;clear HF1 HF2 HF3 HF9 hce;go_wp2
  first
   |exact hend
   |(go_ret;exact hend)
 subst e0;have HCe:=Lh hce;have hmay:=may_num hce;obtain⟨x0,x1,x2⟩:=(HCps.out w2 HB2.out).cells;have hlk:=(HCps.out w2 HB2.out).look (n:=n) ⟨by omega,by omega⟩;have HMay:=Lh hmay;clear hce hmay
 by_cases hgn:(G n).isSome=true
 ·rw[if_pos hgn] at hlk;have hend:=HF9.out w2 HCe.out hgn HB2.out;clear HF1 HF2 HF3 HF9 HAll;go_wp2
  first
   |exact hend
   |(go_ret;exact hend)
 rw[if_neg hgn] at hlk;have HNo:Hid (G n=none):=Lh (by cases q:G n with|none=>rfl|some g=>rw[q] at hgn;exact absurd rfl hgn);clear hgn HF9;go_wp2_with fail;refine(HAll.out HMay.out.2 _ HB2.out HK2.out.2).mono ?_;rintro e w3 ⟨rfl,hb3⟩;have HG3:=Lh (bQ HG2.out hb3);have HB3:=Lh (bQ HB2.out hb3);obtain⟨ge,hge⟩:∃ge,grE hp hx G m pg=ge:=⟨_,rfl⟩;rw[hge];clear hb3 c0 c1 c2 c3 cf c4 x0 x1 x2 hlk
 by_cases e0:ge=0
 case neg=>
  have hne:(ge != 0)=true:=bne_iff_ne.2 e0;have hend:=HF2.out w3 HCe.out HNo.out (by rw[hge];exact e0) HB3.out;rw[hge] at hend;clear HF1 HF2 HF3 hge;go_wp2
  first
   |exact hend
   |(go_ret;exact hend)
 subst e0;have hel:=ext_len HL.out HOk.out HCe.out (HGe.out.symm.trans hge);have HGz:=Lh hge;clear hge;obtain⟨eo,ec,rfl⟩:=(HMn.out w HZ0.out).e.form;obtain⟨po,pc,rfl⟩:=(HMn.out w HZ0.out).p.form;have HMay:=Lh (may_num HCe.out);have HC1:Hid (Calls Tryz.prog 135 #[.slice eo m.ext.length ec] w3.drew fun e w'=>∃v',e=.returned v'∧SlV w' 290 2 v' m.ext.length (extC m.ext)∧(∀b,v'.ownBlock=some b→w3.drew.heap.size≤b∧b<w'.heap.size)∧Below w3.drew.heap.size w3.drew w'):=Lh (Cl.clone_ext (extC_length _) (slv_at (HMn.out _ HB3.out.drew).e) (by omega) (one_ext _));have HC2:Hid (∀V,Below w3.drew.heap.size w3.drew V→Calls Tryz.prog 136 #[.slice po m.ports.length pc] V fun e w'=>∃v',e=.returned v'∧SlV w' 22 1 v' m.ports.length (m.ports.map (Value.int .u16))∧(∀b,v'.ownBlock=some b→V.heap.size≤b∧b<w'.heap.size)∧Below V.heap.size V w'):=Lh fun V hV=>Cl.clone_u16 (by simp) (slv_at (HMn.out V (bQ HB3.out.drew hV)).p) (by have:=HMay.out.1;omega) (one_u16 _)
 have HBd:Hid (∀V,Below w3.drew.heap.size w3.drew V→V.heap[w.heap.size]? =some (.cells #[.int .u32 m.pages,.slice eo m.ext.length ec,.slice po m.ports.length pc,.bool m.con] 109)∧V.heap[w.heap.size+1]? =some (.cells #[.int .u32 pg] 42)):=Lh fun V hV=>HCell.out V (bQ HG3.out.drew hV)
 have HDB:Hid (∀V,Below w3.drew.heap.size w3.drew V→V.cell? ⟨w.heap.size,0,none⟩=some (.int .u32 m.pages)∧V.cell? ⟨w.heap.size,1,none⟩=some (.slice eo m.ext.length ec)∧V.cell? ⟨w.heap.size,2,none⟩=some (.slice po m.ports.length pc)∧V.cell? ⟨w.heap.size,3,none⟩=some (.bool m.con)∧∀i,V.frozen? ⟨w.heap.size,i,none⟩=false):=Lh fun V hV=>man_cells (m:=m) (HBd.out V hV).1
 have HD:=Lh (HDB.out w3.drew Br);have HBw:Hid (Below w.heap.size w w3.drew):=Lh HB3.out.drew;have HWl:Hid (w.heap.size<w3.drew.heap.size):=Lh (lQ (HBd.out _ Br).1);clear HG3 HG2 HK2 HB2 HB3 HBk HCk HAll HF1 HF2 HCell HB1 HZ0;go_upto_region 11 with(fail);refine wp_region_E (fun w'=>w'.cell? ⟨w.heap.size,2,none⟩=some (.slice po m.ports.length pc)) 9 (by kernel_rfl) ?_
 change AnyE _ _ _ _ _ _ _ _ _ w3.drew
 generalize hwd:w3.drew=wd at*;refine LT 0 HD.out.2.2.1 ?_;refine LT 3 HD.out.2.2.1 ?_;refine LT 4 HD.out.2.2.1 ?_;refine LU 1 fun K hK=> ?_
 have d1:=HD.out.2.1;go_simp;refine LV hK (fun _=>HD.out.2.2.1) ?_;clear hK K;refine LU 2 fun K hK=> ?_
 go_simp;go_at_call 135;refine HC1.out.mono ?_;rintro e w4 ⟨v1,rfl,hs1,ho1,hb4⟩;have H4:=Lh (And.intro hs1 (And.intro ho1 hb4));have D4:=Lh (HDB.out _ hb4);obtain⟨o1,oc1,rfl⟩:=hs1.form;clear hs1 ho1 hb4;refine LV hK (fun _=>D4.out.2.2.1) ?_;clear hK K;refine LT 6 D4.out.2.2.1 ?_;refine LU 5 fun K hK=> ?_
 go_simp;go_at_call 136;refine(HC2.out _ H4.out.2.2).mono ?_;rintro e w5 ⟨v2,rfl,hs2,ho2,hb5⟩;have H5:=Lh (And.intro hs2 (And.intro ho2 hb5));have D5:=Lh (HDB.out _ (bQ H4.out.2.2 hb5));obtain⟨o2,oc2,rfl⟩:=hs2.form;clear hs2 ho2 hb5;refine LV hK (fun _=>D5.out.2.2.1) ?_;clear hK K;have HT6:Hid (∀v,(w5.setCell ⟨w.heap.size,1,none⟩ v).cell? ⟨w.heap.size,2,none⟩=some (.slice po m.ports.length pc)):=Lh fun v=>(World.cell?_setCell_other w5 ⟨w.heap.size,1,none⟩ ⟨w.heap.size,2,none⟩ v (by simp)).trans D5.out.2.2.1
 have HT7:Hid (∀v,(w5.setCell ⟨w.heap.size,1,none⟩ v).frozen? ⟨w.heap.size,2,none⟩=false):=Lh fun v=>by rw[World.frozen?_setCell];exact D5.out.2.2.2.2 2
 refine LU 7 fun K hK=> ?_
 have e1:=D5.out.2.1;have e1f:=D5.out.2.2.2.2 1;go_simp;refine LV hK (fun _=>(HT6.out _)) ?_;clear hK K;refine LT 8 (HT6.out _) ?_;refine LU 9 fun K hK=> ?_
 have e2:=HT6.out (.slice o1 m.ext.length oc1);have e2f:=HT7.out (.slice o1 m.ext.length oc1);go_simp;refine hK.out _ _ (fun e=>absurd rfl e) (fun _=> ?_);clear hK K;try simp only[Act.put,Za,Zb,Zc,Zd,Ze,Zf]
 refine E_done (by kernel_rfl) ?_ _;have hb5:Below wd.heap.size wd w5:=bQ H4.out.2.2 H5.out.2.2;have hwl5:w.heap.size<w5.heap.size:=Nat.lt_of_lt_of_le HWl.out hb5.size;have hbw5:Below w.heap.size w w5:=bQ HBw.out hb5;have hk5:=HBd.out w5 hb5;have hm6:Mod (fun i=>i=w.heap.size) w5 ((w5.setCell ⟨w.heap.size,1,none⟩ (.slice o1 m.ext.length oc1)).setCell ⟨w.heap.size,2,none⟩ (.slice o2 m.ports.length oc2)):=Mod.setCell (F:=fun i=>i=w.heap.size) (Mod.setCell (F:=fun i=>i=w.heap.size) (Mod.refl _ _) ⟨w.heap.size,1,none⟩ (.inl rfl) _) ⟨w.heap.size,2,none⟩ (.inl rfl) _;have hk6:=heap_setCell_same (w5.setCell ⟨w.heap.size,1,none⟩ (.slice o1 m.ext.length oc1)) w.heap.size 2 _ _ (.slice o2 m.ports.length oc2) (heap_setCell_same w5 w.heap.size 1 _ _ (.slice o1 m.ext.length oc1) hk5.1);have hk6b:=(hm6.block _ (lQ hk5.2) (by omega)).trans hk5.2;have hz6:((w5.setCell ⟨w.heap.size,1,none⟩ (.slice o1 m.ext.length oc1)).setCell ⟨w.heap.size,2,none⟩ (.slice o2 m.ports.length oc2)).heap.size=w5.heap.size:=by simp[World.setCell]
 have hwd:=HBw.out.size;have hs1:=((H4.out.1.below H5.out.2.2).mod hm6 fun k hk e=>by have:=(H4.out.2.1 k hk).1;have:=HWl.out;omega);have hs2:=(H5.out.1.mod hm6 fun k hk e=>by have:=(H5.out.2.1 k hk).1;have:=H4.out.2.2.size;have:=HWl.out;omega);have ho1:∀k,(Value.slice o1 m.ext.length oc1).ownBlock=some k→wd.heap.size≤k∧k<w5.heap.size:=fun k hk=>⟨(H4.out.2.1 k hk).1,Nat.lt_of_lt_of_le (H4.out.2.1 k hk).2 H5.out.2.2.size⟩
 have ho2:∀k,(Value.slice o2 m.ports.length oc2).ownBlock=some k→wd.heap.size≤k∧k<w5.heap.size:=fun k hk=>⟨Nat.le_trans H4.out.2.2.size (H5.out.2.1 k hk).1,(H5.out.2.1 k hk).2⟩
 have hbw6:=Mod.below hbw5 hm6 hbw5.size fun k _ hk=>Nat.le_of_eq hk.symm
 rw[←hz6] at ho1 ho2;have hwl6:wd.heap.size≤((w5.setCell ⟨w.heap.size,1,none⟩ (.slice o1 m.ext.length oc1)).setCell ⟨w.heap.size,2,none⟩ (.slice o2 m.ports.length oc2)).heap.size:=by rw[hz6];exact hb5.size
 clear hz6 hm6 hk5 hb5 hwl5 hbw5 HT6 HT7 D5 D4 H4 H5 HC1 HC2 HD HDB HBd;go_upto_region 12 with(fail);generalize (w5.setCell ⟨w.heap.size,1,none⟩ (.slice o1 m.ext.length oc1)).setCell ⟨w.heap.size,2,none⟩ (.slice o2 m.ports.length oc2)=w6 at*;clear e1 e1f e2 e2f d1
 replace hk6:w6.heap[w.heap.size]? =some (.cells #[.int .u32 m.pages,.slice o1 m.ext.length oc1,.slice o2 m.ports.length oc2,.bool m.con] 109):=hk6
 have HMn6:Hid (MnAt w6 (.slice o1 m.ext.length oc1) (.slice o2 m.ports.length oc2) m):=Lh ⟨hs1,hs2⟩;have HO1:=Lh ho1;have HO2:=Lh ho2;have HB6:=Lh hbw6;have HW6:=Lh hwl6;have HH:=Lh hwd;have HEd:Hid (∀V,Below w6.drew.heap.size w6.drew V→(V.cell? ⟨w.heap.size,0,none⟩=some (.int .u32 m.pages)∧V.cell? ⟨w.heap.size,1,none⟩=some (.slice o1 m.ext.length oc1)∧V.cell? ⟨w.heap.size,2,none⟩=some (.slice o2 m.ports.length oc2)∧V.cell? ⟨w.heap.size,3,none⟩=some (.bool m.con))∧V.cell? ⟨w.heap.size+1,0,none⟩=some (.int .u32 pg)∧V.cell? ⟨a.cb,2,none⟩=some (.map (some a.mb))):=Lh fun V hV=>by
  have h1:=(hV.block _ (show w.heap.size<w6.drew.heap.size from lQ hk6)).trans hk6;have h2:=(hV.block _ (show w.heap.size+1<w6.drew.heap.size from lQ hk6b)).trans hk6b;obtain⟨g0,g1,g2,g3,_⟩:=man_cells (m:=m) h1;refine⟨⟨g0,g1,g2,g3⟩, ?_,(HCps.out V (bQ HB6.out.drew hV)).cells.2.2⟩;unfold World.cell?;rw[h2];rfl
 have HE:=Lh (HEd.out w6.drew Br);have HEA:Hid (∀o,((w6.drew.alloc o).cell? ⟨w.heap.size,0,none⟩=some (.int .u32 m.pages)∧(w6.drew.alloc o).cell? ⟨w.heap.size,1,none⟩=some (.slice o1 m.ext.length oc1)∧(w6.drew.alloc o).cell? ⟨w.heap.size,2,none⟩=some (.slice o2 m.ports.length oc2)∧(w6.drew.alloc o).cell? ⟨w.heap.size,3,none⟩=some (.bool m.con))∧(w6.drew.alloc o).cell? ⟨w.heap.size+1,0,none⟩=some (.int .u32 pg)∧(w6.drew.alloc o).cell? ⟨a.cb,2,none⟩=some (.map (some a.mb))):=Lh fun o=>HEd.out _ (Br.alloc (Nat.le_refl _) o)
 have hb7:Below w6.drew.heap.size w6.drew (w6.drew.alloc (.cells #[.int .u32 m.pages,.slice o1 m.ext.length oc1,.slice o2 m.ports.length oc2,.bool m.con,.int .u32 pg,.int .u32 0] 293)):=Ba _;have hbw7:=bQ HB6.out.drew hb7;have hmbl:a.mb<w.heap.size:=(HCps.out w Br).lt (.inr (.inl rfl));have hd6:w6.drew.heap.size=w6.heap.size:=rfl;have hft:Gp.sum G+(m.pages+pg)≤hp:=by
  have h1:=HGe.out.symm.trans HGz.out;have h2:fullE hp G m pg=0:=by
   unfold firstE at h1
   by_cases q:fullE hp G m pg=0
   ·exact q
   ·exfalso
    have hq:(fullE hp G m pg != 0)=true:=bne_iff_ne.2 q;simp only[List.find?_cons,hq] at h1
    split at h1
    ·rename_i z;simp at h1;rw[h1] at z;simp at z
    ·split at h1
     ·rename_i z;simp at h1;rw[h1] at z;simp at z
     ·split at h1
      ·rename_i z;simp at h1;rw[h1] at z;simp at z
      ·simp at h1;exact q h1
  unfold fullE at h2
  split at h2
  ·cases h2
  ·omega
 have hcz:=HCps.out w Br;obtain⟨w8,hrun,hc8,hm8⟩:=Cps.insert (HCps.out _ hbw7) n1 n8 HNo.out (g:=⟨m,pg,0⟩) (gb:=w6.drew.heap.size) (heap_alloc_new w6.drew (.cells #[.int .u32 m.pages,.slice o1 m.ext.length oc1,.slice o2 m.ports.length oc2,.bool m.con,.int .u32 pg,.int .u32 0] 293)) ((HMn6.out.below Br.drew).below hb7) ⟨HOk.out,Int.le_refl 0,HOk.out.p0,g0⟩ (by omega) (fun k hk e=>by have:=hcz.lt (.inr (.inr ⟨k,hk,rfl⟩));omega) hft;have hz7:(w6.drew.alloc (.cells #[.int .u32 m.pages,.slice o1 m.ext.length oc1,.slice o2 m.ports.length oc2,.bool m.con,.int .u32 pg,.int .u32 0] 293)).heap.size=w6.heap.size+1:=by simp
 have hz8:=hm8.size;have hm9:Mod (fun k=>k=a.mb) w w8:=(Mod.of_below hbw7 _).trans hm8 fun _ _ g=>.inl g
 have hend:=HF3.out w8 w6.drew.heap.size (.slice o1 m.ext.length oc1) (.slice o2 m.ports.length oc2) HCe.out HNo.out HGz.out hc8 hm9 ⟨by omega,by omega⟩ (fun k hk=>by
  rcases hk with hk|hk
  ·have:=HO1.out k hk;omega
  ·have:=HO2.out k hk;omega)
 have HRun:=Lh hrun;have HEnd:=Lh hend;clear hcz hft hb7 hbw7 hmbl hd6 hrun hc8 hm8 hz7 hz8 hm9 hend HF3 HO1 HO2 HB6 HW6 HH HMn6 HEd hk6 hk6b hs1 hs2 ho1 ho2 hbw6 hwl6 hwd;refine wp_region_E (fun w'=>(w'.cell? ⟨w.heap.size,0,none⟩=some (.int .u32 m.pages)∧w'.cell? ⟨w.heap.size,1,none⟩=some (.slice o1 m.ext.length oc1)∧w'.cell? ⟨w.heap.size,2,none⟩=some (.slice o2 m.ports.length oc2)∧w'.cell? ⟨w.heap.size,3,none⟩=some (.bool m.con))∧w'.cell? ⟨w.heap.size+1,0,none⟩=some (.int .u32 pg)∧w'.cell? ⟨a.cb,2,none⟩=some (.map (some a.mb))) 9 (by kernel_rfl) ?_
 change AnyE _ _ _ _ _ _ _ _ _ w6.drew
 generalize hwe:w6.drew=we at*;refine LT 0 HE.out ?_;refine LT 1 HE.out ?_;refine LT 2 HE.out ?_;refine LT 3 HE.out ?_;refine LT 4 HE.out ?_;refine LT 5 HE.out ?_;refine LT 6 HE.out ?_;refine LT 7 HE.out ?_;refine LU 8 fun K hK=> ?_
 go_simp;refine LV hK (fun _=>(HEA.out _)) ?_;clear hK K;refine LU 9 fun K hK=> ?_
 have hrun:=HRun.out;go_simp;refine hK.out _ _ (fun e=>absurd rfl e) (fun _=> ?_);clear hK K;try simp only[Act.put,Za,Zb,Zc,Zd,Ze,Zf]
 refine E_done (by kernel_rfl) ?_ _;clear hrun;go_wp2
 first
  |exact HEnd.out
  |(go_ret;exact HEnd.out)
theorem grant{w:World}{a:CAt}{hp:Int}{hx:List Int}{G:Int→Option Gr}(h:Cps w a hp G)(hp1:hp≤4096){n pg:Int}(g0:0≤pg)(hh:SlV w 42 1 a.hv hx.length (hx.map (Value.int .u32)))(hl:hx.length≤16){m:Mn}{ev pv:Value}(hm:MnAt w ev pv m)(hok:m.ok):
  Calls Tryz.prog 86 #[.pointer (some ⟨a.cb,0,none⟩),.int .i64 n,.agg (m.cells ev pv),.int .u32 pg] w (GrPost w a hp hx G n m pg):=by
 by_cases q:1≤n∧n≤8∧pg≤4096
 ·exact grant_in h hp1 q.1 q.2.1 g0 q.2.2 hh hl hm hok
 have hb0:Below w.heap.size w (w.alloc (.cells (m.cells ev pv) 109)):=Ba _;have hb1:=hb0.alloc hb0.size (.cells #[.int .u32 pg] 42);have hbk0:((w.alloc (.cells (m.cells ev pv) 109)).alloc (.cells #[.int .u32 pg] 42)).heap[w.heap.size]? =some (.cells (m.cells ev pv) 109):=(Below.heap_alloc _ _ _ (lQ (heap_alloc_new w _))).trans (heap_alloc_new w _);have hbk1:=heap_alloc_new (w.alloc (.cells (m.cells ev pv) 109)) (.cells #[.int .u32 pg] 42);rw[show(w.alloc (.cells (m.cells ev pv) 109)).heap.size=w.heap.size+1 by simp] at hbk1;have HCk:=Lh (Dm.check (hm.below hb1));have HBk:=Lh (And.intro hbk0 hbk1);have HB1:=Lh hb1;have he:grantE hp hx G n m pg=2:=if_pos (by omega);have HF:Hid (∀V,Below w.heap.size w V→GrPost w a hp hx G n m pg (.returned (.int .i64 2)) V):=Lh fun V hV=>.inl ⟨by rw[he];decide,by rw[he],hV⟩
 generalize GrPost w a hp hx G n m pg=PQ at*;obtain⟨c0,c1,c2,c3,cf⟩:=man_cells hbk0;unfold Mn.cells at*;clear hb0 hb1 hbk0 hbk1 he h hh hm hok hl
 by_cases q1:n<1
 ·have hend:=HF.out _ HB1.out;go_enter func86,ntmps86;go_wp2
  first
   |exact hend
   |(go_ret;exact hend)
 by_cases q8:8<n
 ·have hend:=HF.out _ HB1.out;go_enter func86,ntmps86;go_wp2
  first
   |exact hend
   |(go_ret;exact hend)
 have qp:4096<pg:=by omega
 clear q;go_enter func86,ntmps86;go_wp2_with fail;refine HCk.out.mono ?_;rintro e w2 ⟨rfl,hb2⟩;have hend:=HF.out _ (bQ HB1.out hb2);have q1':=(hb2.block _ (lQ HBk.out.2)).trans HBk.out.2;have c4:w2.cell? ⟨w.heap.size+1,0,none⟩=some (.int .u32 pg):=by unfold World.cell?;rw[q1'];rfl
 clear hb2 q1' c0 c1 c2 c3 cf;obtain⟨ce,hce⟩:∃ce,Gp.checkE m=ce:=⟨_,rfl⟩;rw[hce];clear hce
 by_cases e0:ce=0
 ·subst e0;go_wp2
  first
   |exact hend
   |(go_ret;exact hend)
 ·have hne:(ce != 0)=true:=bne_iff_ne.2 e0;go_wp2
  first
   |exact hend
   |(go_ret;exact hend)
end Ca
theorem KStep.grant{w w':World}{a:KAt}{K:Kn}(h:Knl w a K){n:Int}{g:Gr}{gb:Nat}{ev pv:Value}(hc:Cps w' (a.c.put n gb ev pv) K.hp (Gp.upd K.g n (some g)))(hm:Mod (fun k=>k=a.c.mb) w w')(hg:w.heap.size≤gb∧gb<w'.heap.size)(hv:∀k,ev.ownBlock=some k∨pv.ownBlock=some k→w.heap.size≤k∧k<w'.heap.size∧k≠gb):
  ∃a',KStep w w' a K a' { K with g:=Gp.upd K.g n (some g) }:=by
 have hz:=hm.size;have hmb:a.tag a.c.mb=2:=h.t2 _ (.inr (.inl rfl));have ne:∀k,a.tag k≠2→¬k=a.c.mb:=fun k hk e=>hk (e▸hmb)
 obtain⟨T,hT⟩:∃T:Nat→Nat,T=fun k=>if k<w.heap.size then a.tag k else if k=gb then 2 else if k<w'.heap.size then 5 else 0:=⟨_,rfl⟩
 have To:∀k,k<w.heap.size→T k=a.tag k:=fun k hk=>by rw[hT];exact if_pos hk
 have Ta:∀k,a.tag k≠0→T k=a.tag k:=fun k hk=>To k (h.lt k hk)
 have Tg:T gb=2:=by
  rw[hT]
  show(if gb<w.heap.size then _ else _)=2
  rw[if_neg (by omega),if_pos rfl]
 have Tv:∀k,ev.ownBlock=some k∨pv.ownBlock=some k→T k=5:=fun k hk=>by
  have:=hv k hk;rw[hT]
  show(if k<w.heap.size then _ else _)=5
  rw[if_neg (by omega),if_neg (by omega),if_pos this.2.1]
 have hsm:∀k,(Gp.upd K.g n (some g) k).isSome=true→k=n∨k≠n∧(K.g k).isSome=true:=fun k hk=>by
  by_cases e:k=n
  ·exact .inl e
  ·rw[Gp.upd_ne _ _ e] at hk;exact .inr ⟨e,hk⟩
 refine⟨{ a with c:=a.c.put n gb ev pv,tag:=T }, ?_⟩;exact⟨{
      head:=(hm.block _ (lQ h.head) (ne _ (by rw[h.t1];decide))).trans h.head
      hx:=SlV.mod h.hx hm fun k hk=>ne k (by rw[h.t5 k (.inl hk)];decide)
      chx:=SlV.mod h.chx hm fun k hk=>ne k (by rw[h.t5 k (.inr (.inl hk))];decide)
      caps:=hc
      nic:=KStep.nic_fit (h.nic.keep hm fun k (hk:a.tag k=3)=>ne k (by rw[hk];decide)) fun k (hk:a.tag k=3) _=>(Ta k (by rw[hk];decide)).trans hk
      len:=h.len
      outer:=h.outer.mod hm fun k hk=>ne k (by rw[h.t4 k hk];decide)
      inner:=fun i v l hv hl=>(h.inner i v l hv hl).mod hm fun k hk=>ne k (by rw[h.t6 i v k hv hk];omega)
      ok:=⟨h.ok.n0,h.ok.n1,h.ok.bs,h.ok.q,h.ok.hl,h.ok.g0⟩
      t1:=(Ta _ (by rw[h.t1];decide)).trans h.t1
      t2:=fun k hk=>by
       rcases hk with e|e|⟨x,hx,e⟩
       ·have:=h.t2 k (.inl e);exact(Ta k (by rw[this];decide)).trans this
       ·have:=h.t2 k (.inr (.inl e));exact(Ta k (by rw[this];decide)).trans this
       ·rcases hsm x hx with rfl|⟨q,q'⟩
        ·have e:k=(a.c.put x gb ev pv).gb x:=e;rw[(a.c.put_at x gb ev pv).1] at e;rw[e];exact Tg
        ·have e:k=(a.c.put n gb ev pv).gb x:=e;rw[(a.c.put_ne gb ev pv q).1] at e;have:=h.t2 k (.inr (.inr ⟨x,q',e⟩));exact(Ta k (by rw[this];decide)).trans this
      t4:=fun k hk=>(Ta k (by rw[h.t4 k hk];decide)).trans (h.t4 k hk)
      t5:=fun k hk=>by
       rcases hk with e|e|e
       ·have:=h.t5 k (.inl e);exact(Ta k (by rw[this];decide)).trans this
       ·have:=h.t5 k (.inr (.inl e));exact(Ta k (by rw[this];decide)).trans this
       ·obtain⟨x,hx,e⟩:=e;rcases hsm x hx with rfl|⟨q,q'⟩
        ·have e:((a.c.put x gb ev pv).ev x).ownBlock=some k∨((a.c.put x gb ev pv).pv x).ownBlock=some k:=e;rw[(a.c.put_at x gb ev pv).2.1,(a.c.put_at x gb ev pv).2.2] at e;exact Tv k e
        ·have e:((a.c.put n gb ev pv).ev x).ownBlock=some k∨((a.c.put n gb ev pv).pv x).ownBlock=some k:=e;rw[(a.c.put_ne gb ev pv q).2.1,(a.c.put_ne gb ev pv q).2.2] at e;have:=h.t5 k (.inr (.inr ⟨x,q',e⟩));exact(Ta k (by rw[this];decide)).trans this
      t6:=fun i v k hv hk=>(Ta k (by rw[h.t6 i v k hv hk];omega)).trans (h.t6 i v k hv hk)
      lt:=fun k hk=>by
       have hk:T k≠0:=hk;rcases Nat.lt_or_ge k w.heap.size with g|g
       ·omega
       ·rw[hT] at hk;have hk:(if k<w.heap.size then a.tag k else if k=gb then 2 else if k<w'.heap.size then 5 else 0)≠0:=hk;rw[if_neg (by omega)] at hk
        split at hk
        ·omega
        ·split at hk
         ·assumption
         ·exact absurd rfl hk },⟨rfl,rfl,rfl⟩,hm.mono fun i _ g=>by subst g;exact⟨by rw[hmb];decide,by rw[hmb];decide⟩,To⟩
def KGrPost(w:World)(a:KAt)(K:Kn)(n:Int)(m:Mn)(pg:Int)(e:Ending)(w':World):Prop:=
 (Ca.grantE K.hp K.hx K.g n m pg≠0∧e=.returned (.int .i64 (Ca.grantE K.hp K.hx K.g n m pg))∧Below w.heap.size w w')∨
 (Ca.grantE K.hp K.hx K.g n m pg=0∧e=.returned (.int .i64 0)∧∃a',KStep w w' a K a' { K with g:=Gp.upd K.g n (some ⟨m,pg,0⟩) })
theorem Kl.grant{w:World}{a:KAt}{K:Kn}(h:Knl w a K)(hp1:K.hp≤4096)(hl:K.hx.length≤16){n pg:Int}(g0:0≤pg){m:Mn}{ev pv:Value}(hm:MnAt w ev pv m)(hok:m.ok):
  Calls Tryz.prog 86 #[.pointer (some ⟨a.c.cb,0,none⟩),.int .i64 n,.agg (m.cells ev pv),.int .u32 pg] w (KGrPost w a K n m pg):=by
 refine(Ca.grant h.caps hp1 g0 h.chx hl hm hok).mono ?_;rintro e w' (g|⟨g2,g3,gb,ev,pv,g4,g5,g6,g7⟩)
 ·exact .inl g
 ·exact .inr ⟨g2,g3,KStep.grant h g4 g5 g6 g7⟩
open Go.RowKit Word
section
variable {P:Program} {ops:Array Oper} {Q:Exit→Act→World→Prop} {md:Region.Mode} {S T:World→Prop}
theorem H_one{l:List Oper}{i:Nat}{o:Oper}{fuel:Nat}{listed:Array Bool}{a:Act}{w:World}(hr:Region.ready md l.toArray listed=[i])(ho:l[i]? =some o)
  (h:∀K':Act→World→Prop,Shut (∀a w,S w→(S w→wpAnyH P md l.toArray Q S fuel (listed.setIfInBounds i true) a w)→K' a w)→if Region.wanted o (yielded l.toArray a.tmps)=true then Oper.wp P o a w K' Q else K' (a.put o.dst undef) w):
  wpAnyH P md l.toArray Q S (fuel+1) listed a w:=
 wpAnyH_ready hr (by simp) (AllReadyH.cons (by rw[List.getElem?_toArray];exact ho) h AllReadyH.nil)
theorem H_take{l:List Oper}{i:Nat}{oi:Oper}{v:Value}{fuel:Nat}{listed:Array Bool}{a:Act}{w:World}(hi:l[i]? =some oi)
  (hs:Region.noSelect l.toArray=true) (hf:Region.free md l.toArray listed i=true) (hr:(Region.ready md l.toArray listed).contains i=true)
  (hQ:∀c a w,Q (.panic c) (a.put oi.dst v) w→Q (.panic c) a w) (hy:YieldsIf P l.toArray S oi v a) (hS:S w)
  (h:wpAnyH P md l.toArray Q S fuel (listed.setIfInBounds i true) (a.put oi.dst v) w):wpAnyH P md l.toArray Q S (fuel+1) listed a w:=
 wpAnyH_take (by rw[List.getElem?_toArray];exact hi) hs hf hr hQ hy hS h
end
structure KE(w:World)(a:KAt)(K:Kn)(e:EAt)(E:En):Prop where
 kn:Knl w a K
 en:Env w e E
 apart:∀x,e.foot E.A x→a.tag x=0
structure JStep(W w:World)(a0:KAt)(e0:EAt)(A0:List Pg)(a:KAt)(K:Kn)(e:EAt)(E:En):Prop where
 j:KE w a K e E
 same:(a.kb=a0.kb∧a.c.cb=a0.c.cb∧a.nb=a0.nb)∧e.eb=e0.eb∧e.sb=e0.sb∧e.mb=e0.mb∧e.cb=e0.cb
 mod:Mod (fun x=>a0.wf x∨e0.foot A0 x) W w
 tag:∀k,k<W.heap.size→a.tag k=a0.tag k
 foot:∀k,e.foot E.A k→e0.foot A0 k∨W.heap.size≤k
namespace KE
variable {w w':World} {a a':KAt} {K K':Kn} {e e':EAt} {E E':En}
theorem below(h:KE w a K e E)(hb:Below w.heap.size w w'):KE w' a K e E:=⟨h.kn.below hb,h.en.below hb,h.apart⟩
theorem left(h:KE w a K e E)(s:KStep w w' a K a' K'):KE w' a' K' e E:=
 ⟨s.k,h.en.keep s.mod fun x hx g=>g.1 (h.apart x hx),fun x hx=>(s.tag x (h.en.lt x hx)).trans (h.apart x hx)⟩
theorem right(h:KE w a K e E)(s:EStep w w' e E e' E'):KE w' a K e' E':=
 ⟨h.kn.keep s.mod fun x hx g=>hx (h.apart x g),s.env,fun x hx=>by
  rcases s.foot x hx with g|g
  ·exact h.apart x g
  ·exact Decidable.byContradiction fun q=>absurd (h.kn.lt x q) (by omega)⟩
end KE
namespace JStep
variable {W w w':World} {a0 a a':KAt} {K K':Kn} {e0 e e':EAt} {A0:List Pg} {E E':En}
theorem refl(h:KE w a K e E):JStep w w a e E.A a K e E:=⟨h,⟨⟨rfl,rfl,rfl⟩,rfl,rfl,rfl,rfl⟩,Mod.refl _ _,fun _ _=>rfl,fun _ g=>.inl g⟩
theorem below(h:JStep W w a0 e0 A0 a K e E)(hb:Below w.heap.size w w'):JStep W w' a0 e0 A0 a K e E:=
 { h with j:=h.j.below hb,mod:=h.mod.trans (Mod.of_below hb (fun _=>False)) fun _ _ g=>g.elim }
theorem left(h:JStep W w a0 e0 A0 a K e E)(s:KStep w w' a K a' K'):JStep W w' a0 e0 A0 a' K' e E where
 j:=h.j.left s
 same:=⟨⟨s.same.1.trans h.same.1.1,s.same.2.1.trans h.same.1.2.1,s.same.2.2.trans h.same.1.2.2⟩,h.same.2⟩
 mod:=h.mod.trans s.mod fun i _ g=>by
  rcases Nat.lt_or_ge i W.heap.size with q|q
  ·exact .inl (.inl ⟨by rw[←h.tag i q];exact g.1,by rw[←h.tag i q];exact g.2⟩)
  ·exact .inr q
 tag:=fun k hk=>(s.tag k (Nat.lt_of_lt_of_le hk h.mod.size)).trans (h.tag k hk)
 foot:=h.foot
theorem right(h:JStep W w a0 e0 A0 a K e E)(s:EStep w w' e E e' E'):JStep W w' a0 e0 A0 a K e' E' where
 j:=h.j.right s
 same:=⟨h.same.1,s.same.1.trans h.same.2.1,s.same.2.1.trans h.same.2.2.1,s.same.2.2.1.trans h.same.2.2.2.1,s.same.2.2.2.trans h.same.2.2.2.2⟩
 mod:=h.mod.trans s.mod fun i _ g=>(h.foot i g).imp .inr id
 tag:=h.tag
 foot:=fun k hk=>(s.foot k hk).elim (h.foot k) fun q=>.inr (Nat.le_trans h.mod.size q)
theorem turn{F:Nat→Prop}(h:JStep W w a0 e0 A0 a K e E)(hm:Mod F w w')(hF:∀k,F k→a.tag k=0∧¬e.foot E.A k∧W.heap.size≤k):JStep W w' a0 e0 A0 a K e E where
 j:=⟨h.j.kn.keep hm fun x hx g=>hx (hF x g).1,h.j.en.keep hm fun x hx g=>(hF x g).2.1 hx,h.j.apart⟩
 same:=h.same
 mod:=h.mod.trans hm fun i _ g=>.inr (hF i g).2.2
 tag:=h.tag
 foot:=h.foot
end JStep
structure Evt where
 kind:Int
 env:Int
 text:ByteArray
 num:Int
 seen:Bool
def Evt.none:Evt:=⟨0,0,ByteArray.empty,0,false⟩
structure Tk(W w:World)(tb:Nat)(a0:KAt)(e0:EAt)(A0:List Pg)(a:KAt)(K:Kn)(e:EAt)(E:En)(x:Evt):Prop where
 s:JStep W w a0 e0 A0 a K e E
 blk:w.heap[tb]? =some (.cells #[.pointer (some ⟨a.kb,0,none⟩),.pointer (some ⟨e.eb,0,none⟩),.int .u8 x.kind,.int .i64 x.env,.string x.text,.int .u32 x.num,.bool x.seen] 251 (0,0))
 ta:a.tag tb=0
 te:¬e.foot E.A tb
 t0:W.heap.size≤tb
 n1:1≤E.num∧E.num≤8
theorem Tk.i64{W w:World}{tb:Nat}{a0 a:KAt}{K:Kn}{e0 e:EAt}{A0:List Pg}{E:En}{x:Evt}(h:Tk W w tb a0 e0 A0 a K e E x):I64 E.num:=⟨by have:=h.n1;omega,by have:=h.n1;omega⟩
namespace Tk
variable {W w w':World} {tb:Nat} {a0 a a':KAt} {K K':Kn} {e0 e e':EAt} {A0:List Pg} {E E':En} {x:Evt}
theorem below(h:Tk W w tb a0 e0 A0 a K e E x)(hb:Below w.heap.size w w'):Tk W w' tb a0 e0 A0 a K e E x:=
 { h with s:=h.s.below hb,blk:=(hb.block _ (lQ h.blk)).trans h.blk }
theorem left(h:Tk W w tb a0 e0 A0 a K e E x)(s:KStep w w' a K a' K'):Tk W w' tb a0 e0 A0 a' K' e E x where
 s:=h.s.left s
 blk:=(s.mod.block _ (lQ h.blk) fun g=>g.1 h.ta).trans (by rw[s.same.1];exact h.blk)
 ta:=(s.tag _ (lQ h.blk)).trans h.ta
 te:=h.te
 t0:=h.t0
 n1:=h.n1
theorem right(h:Tk W w tb a0 e0 A0 a K e E x)(s:EStep w w' e E e' E')(hn:E'.num=E.num):Tk W w' tb a0 e0 A0 a K e' E' x where
 s:=h.s.right s
 blk:=(s.mod.block _ (lQ h.blk) h.te).trans (by rw[s.same.1];exact h.blk)
 ta:=h.ta
 te:=fun g=>(s.foot _ g).elim h.te fun q=>by have:=lQ h.blk;omega
 t0:=h.t0
 n1:=by rw[hn];exact h.n1
theorem cell(h:Tk W w tb a0 e0 A0 a K e E x)(i:Nat)(v:Value)(hi: #[Value.pointer (some ⟨a.kb,0,Option.none⟩),.pointer (some ⟨e.eb,0,Option.none⟩),.int .u8 x.kind,.int .i64 x.env,.string x.text,.int .u32 x.num,.bool x.seen][i]? =some v):w.cell? ⟨tb,i,Option.none⟩=some v:=by
 unfold World.cell?;rw[h.blk];exact hi
theorem cells(h:Tk W w tb a0 e0 A0 a K e E x):w.cell? ⟨tb,0,Option.none⟩=some (.pointer (some ⟨a.kb,0,Option.none⟩))∧w.cell? ⟨tb,1,Option.none⟩=some (.pointer (some ⟨e.eb,0,Option.none⟩)):=
 ⟨h.cell 0 _ rfl,h.cell 1 _ rfl⟩
theorem all(h:Tk W w tb a0 e0 A0 a K e E x):w.cell? ⟨tb,0,Option.none⟩=some (.pointer (some ⟨a.kb,0,Option.none⟩))∧w.cell? ⟨tb,1,Option.none⟩=some (.pointer (some ⟨e.eb,0,Option.none⟩))∧w.cell? ⟨a.kb,2,Option.none⟩=some (.pointer (some ⟨a.c.cb,0,Option.none⟩))∧w.cell? ⟨a.kb,3,Option.none⟩=some (.pointer (some ⟨a.nb,0,Option.none⟩))∧w.cell? ⟨a.kb,5,Option.none⟩=some (.int .u32 K.now):=
 ⟨h.cell 0 _ rfl,h.cell 1 _ rfl,h.s.j.kn.cell 2 _ rfl,h.s.j.kn.cell 3 _ rfl,h.s.j.kn.cell 5 _ rfl⟩
theorem free(h:Tk W w tb a0 e0 A0 a K e E x)(i:Nat):w.frozen? ⟨tb,i,Option.none⟩=false:=by
 unfold World.frozen?;rw[h.blk]
 simp
def put(w:World)(tb:Nat)(y:Evt):World:=((((w.setCell ⟨tb,2,Option.none⟩ (.int .u8 y.kind)).setCell ⟨tb,3,Option.none⟩ (.int .i64 y.env)).setCell ⟨tb,4,Option.none⟩ (.string y.text)).setCell ⟨tb,5,Option.none⟩ (.int .u32 y.num)).setCell ⟨tb,6,Option.none⟩ (.bool y.seen)
theorem show'(h:Tk W w tb a0 e0 A0 a K e E x)(y:Evt):Tk W (put w tb y) tb a0 e0 A0 a K e E y:=by
 have hm:Mod (fun i=>i=tb) w (put w tb y):=Mod.setCell (F:=fun i=>i=tb) (Mod.setCell (F:=fun i=>i=tb) (Mod.setCell (F:=fun i=>i=tb) (Mod.setCell (F:=fun i=>i=tb) (Mod.setCell (F:=fun i=>i=tb) (Mod.refl _ _) ⟨tb,2,Option.none⟩ (.inl rfl) _) ⟨tb,3,Option.none⟩ (.inl rfl) _) ⟨tb,4,Option.none⟩ (.inl rfl) _) ⟨tb,5,Option.none⟩ (.inl rfl) _) ⟨tb,6,Option.none⟩ (.inl rfl) _;have b1:=heap_setCell_same w tb 2 _ _ (.int .u8 y.kind) h.blk;have b2:=heap_setCell_same _ tb 3 _ _ (.int .i64 y.env) b1;have b3:=heap_setCell_same _ tb 4 _ _ (.string y.text) b2;have b4:=heap_setCell_same _ tb 5 _ _ (.int .u32 y.num) b3;have b5:=heap_setCell_same _ tb 6 _ _ (.bool y.seen) b4;exact⟨h.s.turn hm fun k hk=>by subst hk;exact⟨h.ta,h.te,h.t0⟩,b5,h.ta,h.te,h.t0,h.n1⟩
end Tk
def evOf(x:Evt)(c:Co):Evt:=if c.ev=0 then x else⟨c.ev,c.E.num,c.s,0,true⟩
def CallPost(W:World)(tb:Nat)(a0:KAt)(e0:EAt)(A0:List Pg)(x:Evt)(f:Nat→Co)(e:Ending)(w':World):Prop:=
 ∃blk a' e',e=.returned (.tuple #[.int .u32 (f blk).v,.int .u32 (f blk).y])∧Tk W w' tb a0 e0 A0 a' (f blk).K e' (f blk).E (evOf x (f blk))
theorem arg_bd{w:World}{a:EAt}{E:En}(h:Env w a E)(n:Int):0≤E.arg n∧E.arg n≤4294967295:=by
 unfold En.arg
 split
 ·exact Cp.rg_bd h.cp.regs n
 ·omega
theorem fin_no{W w:World}{tb:Nat}{a0 a:KAt}{K:Kn}{e0 e:EAt}{A0:List Pg}{E:En}{x:Evt}(h:Tk W w tb a0 e0 A0 a K e E x){f:Nat→Co}(y:Int)(hf:∀b,f b=Co.no K E y):CallPost W tb a0 e0 A0 x f (.returned (.tuple #[.int .u32 0,.int .u32 y])) w:=
 ⟨0,a,e,by rw[hf];rfl,by rw[hf];exact h⟩
theorem fin_of{W V:World}{tb:Nat}{a0 a':KAt}{e0 e':EAt}{A0:List Pg}{x:Evt}{f:Nat→Co}{c:Co}(b:Nat)(hf:f b=c)(h:Tk W V tb a0 e0 A0 a' c.K e' c.E (evOf x c)):CallPost W tb a0 e0 A0 x f (.returned (.tuple #[.int .u32 c.v,.int .u32 c.y])) V:=
 ⟨b,a',e',by rw[hf],by rw[hf];exact h⟩
theorem page_num(E:En)(v:Int)(b:Nat):(E.page v b).num=E.num:=by unfold En.page;split<;>rfl
theorem drop_num(E:En)(v:Int):(E.drop v).num=E.num:=by
 unfold En.drop
 split
 ·rfl
 ·split<;>rfl
theorem put_num(E:En)(s:ByteArray):(E.put s).num=E.num:=by unfold En.put;split<;>rfl
theorem drop_same{E:En}(hok:E.Ok){x:Int}(h:E.dropE x≠0):E.drop x=E:=by
 unfold En.dropE at h;unfold En.drop
 by_cases h1:E.mayE x≠0
 ·rw[if_pos h1]
 ·rw[if_neg h1] at h⊢
  by_cases h2:x∈E.own
  ·rw[if_pos h2] at h;obtain⟨m1,m2,m3⟩:=hok.may x h2;have hm:Sp.mayB x=true:=by unfold Sp.mayB;simp[m1,m3]
   have hp:Sp.unmapE E.A x=0:=by
    unfold Sp.unmapE;rw[if_neg (by rw[hm];decide),if_pos];unfold pageAt;rw[m1,Int.sub_zero];exact hok.has x h2
   exact absurd hp h
  ·rw[if_neg h2]
theorem put_same{E:En}{s:ByteArray}(h:E.putE s≠0):E.put s=E:=by unfold En.put;rw[if_pos h]
theorem take_same{g:Option Gr}(h:Gp.takeE g≠0):Gp.take g=g:=by
 unfold Gp.takeE at h;unfold Gp.take;cases g with
 |none=>rfl
 |some G=>
  simp only at h⊢
  split
  ·rfl
  ·rename_i q;rw[if_neg q] at h;exact absurd rfl h
theorem take_sameG{G:Int→Option Gr}{n:Int}(h:Gp.takeE (G n)≠0):Gp.upd G n (Gp.take (G n))=G:=by rw[take_same h,Gp.upd_same]
theorem putA_addrs(A:List Pg)(x need:Int)(s:ByteArray):(Sp.putA A x need s).map Pg.addr=A.map Pg.addr:=by
 have h1:∀(A:List Pg) (x v:Int),(setByte A x v).map Pg.addr=A.map Pg.addr:=fun A x v=>by
  unfold setByte;rw[List.map_map];exact List.map_congr_left fun p _=>setPg_addr x v p
 have h2:∀(A:List Pg) (addr:Int) (xs:List Int) (k:Nat),(putN A addr xs k).map Pg.addr=A.map Pg.addr:=fun A addr xs k=>by
  induction k with
  |zero=>rfl
  |succ k ih=>exact(h1 _ _ _).trans ih
 unfold Sp.putA
 split
 ·exact h2 _ _ _ _
 ·rfl
theorem putA_own{E:En}(h:E.Ok)(x need:Int)(s:ByteArray):∀y,y∈E.own→(atAddr (Sp.putA E.A x need s) y).isSome=true:=fun y hy=>by
 have:=h.has y hy;rw[isSome_addr] at this⊢;rw[putA_addrs];exact this
theorem putA_same{A:List Pg}{x need:Int}{s:ByteArray}(h:Sp.fitsE A x s.size need≠0):Sp.putA A x need s=A:=by
 unfold Sp.fitsE at h;unfold Sp.putA
 split
 ·rename_i q;rw[if_pos q] at h;exact absurd rfl h
 ·rfl
theorem getS_size{A:List Pg}{x n:Int}(n0:0≤n)(h:Sp.getE A x n 1=0):(Sp.getS A x n 1).size=n.toNat:=by
 unfold Sp.getE at h;unfold Sp.getS
 split at h
 ·cases h
 ·rename_i q
  rw[if_neg q];unfold Sp.fitsE at h
  split at h
  ·rename_i q2
   rw[if_pos q2];have:=strOfNums_size (Sp.getL A x n.toNat);rw[this,Sp.getL_length]
  ·cases h
namespace Ni
theorem from'(f:ByteArray)(hf:f.size<140737488355328)(w:World):Calls Tryz.prog 237 #[.string f] w fun e w'=>e=.returned (.tuple #[.int .u16 (portV f 20),.bool (portB f)])∧Below w.heap.size w w':=by
 have hp:∀w,Calls Tryz.prog 71 #[.string f,.int .i64 20] w fun e w'=>e=.returned (.tuple #[.int .u16 (portV f 20),.bool (portB f)])∧Below w.heap.size w w':=fun w=>port f hf 20 (by omega) w
 go_enter func237,ntmps237;go_wp2_with (go_at_call 71;(with_reducible refine(hp _).mono ?_);rintro e w1 ⟨rfl,hb⟩);go_ret2;exact⟨rfl,by assumption⟩
end Ni
theorem Kn.block_some{B:List (List ByteArray)}{id n:Int}{s:ByteArray}(h:Kn.block B id n=some s):∃(i j:Nat) (l:List ByteArray),id=i∧n=j∧B[i]? =some l∧l[j]? =some s:=by
 unfold Kn.block at h
 split at h
 ·rename_i hc
  obtain⟨i,rfl⟩:=Int.eq_ofNat_of_zero_le hc.1;obtain⟨j,rfl⟩:=Int.eq_ofNat_of_zero_le hc.2;rw[Option.bind_eq_some_iff] at h;obtain⟨l,h1,h2⟩:=h;exact⟨i,j,l,rfl,rfl,h1,h2⟩
 ·cases h
theorem Kn.block_of{B:List (List ByteArray)}{i j:Nat}{l:List ByteArray}{s:ByteArray}(h1:B[i]? =some l)(h2:l[j]? =some s):Kn.block B i j=some s:=by
 unfold Kn.block;rw[if_pos ⟨by omega,by omega⟩,Int.toNat_natCast,Int.toNat_natCast,h1];exact h2
theorem Kn.setB_eq{B:List (List ByteArray)}{i j:Nat}{l:List ByteArray}(h1:B[i]? =some l)(s:ByteArray):Kn.setB B i j s=B.set i (l.set j s):=by
 unfold Kn.setB;rw[Int.toNat_natCast,Int.toNat_natCast]
 apply List.ext_getElem?
 intro k;rw[List.getElem?_modify,List.getElem?_set]
 by_cases e:i=k
 ·subst e;rw[if_pos rfl,h1,if_pos (List.getElem?_eq_some_iff.1 h1).1]
  simp
 ·rw[if_neg e];simp only[if_neg e];cases B[k]? <;>rfl
namespace Kl
theorem row_at{w:World}{a:KAt}{K:Kn}(h:Knl w a K){i:Nat}{l:List ByteArray}(hl:K.B[i]? =some l):∃bg boff bc ra rc,a.bv=.slice (some ⟨bg,boff,none⟩) K.B.length bc∧a.rows[i]? =some (.slice ra l.length rc)∧w.cell? ⟨bg,boff+i,none⟩=some (.slice ra l.length rc)∧SlV w 9 1 (.slice ra l.length rc) l.length (l.map .string):=by
 have hi:=(List.getElem?_eq_some_iff.1 hl).1;have hi':i<a.rows.length:=by rw[h.len];exact hi
 have hr:a.rows[i]? =some a.rows[i]:=Zg hi';have hin:=h.inner i _ l hr hl;obtain⟨ra,rc,hv⟩:=hin.form;rw[hv] at hr hin;have ho:=h.outer;rcases ho.2 with⟨h0,_⟩|⟨g,off,cap,cur,hb,hg,_⟩
 ·have:=h.len;omega
 ·rw[hb] at ho;exact⟨g,off,cap,ra,rc,by rw[hb,h.len],hr,by rw[ho.cell i (by have:=h.len;omega)];exact hr,hin⟩
theorem len_bd{w:World}{a:KAt}{K:Kn}(h:Knl w a K):K.B.length≤9223372036854775807:=by
 have:=slv_len h.outer;unfold maxLen at this;have:=h.len;omega
section
variable {w:World} {a:KAt} {K:Kn}
theorem find_some(h:Knl w a K){i j:Nat}{l:List ByteArray}{s:ByteArray}(hl:K.B[i]? =some l)(hs:l[j]? =some s)(hi0:i≤4294967295)(hj0:j≤4294967295):
  Calls Tryz.prog 212 #[.pointer (some ⟨a.kb,0,none⟩),.int .u32 i,.int .u32 j] w fun e w'=>∃g off cap,e=.returned (.pointer (some ⟨g,off+j,none⟩))∧w=w'∧a.rows[i]? =some (.slice (some ⟨g,off,none⟩) l.length cap)∧w.cell? ⟨g,off+j,none⟩=some (.string s):=by
 have hn:=len_bd h;obtain⟨bg,boff,bc,ra,rc,hbv,hr,hrc,hin⟩:=row_at h hl;have hi:=(List.getElem?_eq_some_iff.1 hl).1;have hj:=(List.getElem?_eq_some_iff.1 hs).1;obtain⟨g,off,rfl⟩:∃g off,ra=some ⟨g,off,none⟩:=by
  rcases hin.2 with⟨h0,_⟩|⟨g,off,cap,cur,hv,_⟩
  ·omega
  ·simp only[Value.slice.injEq] at hv;exact⟨g,off,hv.1⟩
 have hln:l.length≤9223372036854775807:=by have:=slv_len hin;unfold maxLen at this;omega
 have hcs:w.cell? ⟨g,off+j,none⟩=some (.string s):=by rw[hin.cell j (by omega),List.getElem?_map,hs];rfl
 have hb:=(h.cells).2.2.2.2.1;rw[hbv] at hb;have HR:Hid (a.rows[i]? =some (.slice (some ⟨g,off,none⟩) l.length rc)∧w.cell? ⟨g,off+j,none⟩=some (.string s)):=Lh ⟨hr,hcs⟩;have g1:decide (K.B.length≤i)=false:=decide_eq_false (by omega);have g2:decide (l.length≤j)=false:=decide_eq_false (by omega);generalize K.B.length=n at*;generalize hll:l.length=m at*;clear h hl hs hr hin hbv hcs hll;go_enter func212,ntmps212;go_wp2;go_ret;exact⟨g,off,rc,rfl,rfl,HR.out⟩
theorem find_none(h:Knl w a K){id n:Int}(hb:Kn.block K.B id n=none)(i0:0≤id)(i1:id≤4294967295)(n0:0≤n)(n1:n≤4294967295):
  Calls Tryz.prog 212 #[.pointer (some ⟨a.kb,0,none⟩),.int .u32 id,.int .u32 n] w fun e w'=>e=.returned (.pointer none)∧w=w':=by
 have hn:=len_bd h;obtain⟨i,rfl⟩:=Int.eq_ofNat_of_zero_le i0;obtain⟨j,rfl⟩:=Int.eq_ofNat_of_zero_le n0;have hbv:=(h.cells).2.2.2.2.1
 by_cases hi:i<K.B.length
 ·have hl:K.B[i]? =some K.B[i]:=Zg hi;obtain⟨bg,boff,bc,ra,rc,hbe,hr,hrc,hin⟩:=row_at h hl;have hj:¬j<K.B[i].length:=fun q=>by
   rw[Kn.block_of hl (Zg q)] at hb;cases hb
  rw[hbe] at hbv;have hln:K.B[i].length≤9223372036854775807:=by have:=slv_len hin;unfold maxLen at this;omega
  have g1:decide (K.B.length≤i)=false:=decide_eq_false (by omega);have g2:decide (K.B[i].length≤j)=true:=decide_eq_true (by omega);obtain⟨m,hm⟩:∃m,K.B[i].length=m:=⟨_,rfl⟩;rw[hm] at hrc hln g2;clear h hl hr hin hbe hb hj hm;generalize K.B.length=n at*;go_enter func212,ntmps212;go_wp2;go_ret;exact⟨rfl,rfl⟩
 ·obtain⟨ba,bc,hbe⟩:=h.outer.form;rw[hbe,h.len] at hbv;have g1:decide (K.B.length≤i)=true:=decide_eq_true (by omega);generalize K.B.length=n at*;clear h hbe hb;go_enter func212,ntmps212;go_wp2;go_ret;exact⟨rfl,rfl⟩
def blkS(o:Option ByteArray):ByteArray:=o.getD ByteArray.empty
def blkE(o:Option ByteArray):Int:=match o with|none=>2|some _=>0
theorem block(h:Knl w a K)(id n:Int)(i0:0≤id)(i1:id≤4294967295)(n0:0≤n)(n1:n≤4294967295):
  Calls Tryz.prog 234 #[.pointer (some ⟨a.kb,0,none⟩),.int .u32 id,.int .u32 n] w fun e w'=>e=.returned (.tuple #[.string (blkS (Kn.block K.B id n)),.int .i64 (blkE (Kn.block K.B id n))])∧w=w':=by
 cases hb:Kn.block K.B id n with
 |none=>
  have H:=Lh (find_none h hb i0 i1 n0 n1);clear h hb;go_enter func234,ntmps234;go_wp2_with fail;refine H.out.mono ?_;rintro e w1 ⟨rfl,rfl⟩;go_wp2;go_ret2;exact⟨rfl,rfl⟩
 |some s=>
  obtain⟨i,j,l,rfl,rfl,hl,hs⟩:=Kn.block_some hb;have H:=Lh (find_some h hl hs (by omega) (by omega));clear h hb hl hs;go_enter func234,ntmps234;go_wp2_with fail;refine H.out.mono ?_;rintro e w1 ⟨g,off,cap,rfl,rfl,_,hc⟩;go_wp2;go_ret2;exact⟨rfl,rfl⟩
theorem setBlock(h:Knl w a K)(id n:Int)(s:ByteArray)(i0:0≤id)(i1:id≤4294967295)(n0:0≤n)(n1:n≤4294967295)(hz:s.size≤140737488355328):
  Calls Tryz.prog 157 #[.pointer (some ⟨a.kb,0,none⟩),.int .u32 id,.int .u32 n,.string s] w fun e w'=>e=.returned (.int .i64 (Kn.setE K.B id n s))∧KStep w w' a K a (K.setBlock id n s):=by
 cases hb:Kn.block K.B id n with
 |none=>
  have HE:Hid (Kn.setE K.B id n s=2∧K.setBlock id n s=K):=Lh (by
   have e:Kn.setE K.B id n s=2:=by unfold Kn.setE;rw[hb,if_pos (.inl rfl)]
   exact⟨e,by unfold Kn.setBlock;rw[if_neg (by omega)]⟩)
  have H:=Lh (find_none h hb i0 i1 n0 n1);have HR:=Lh (KStep.refl h);clear h hb;go_enter func157,ntmps157;go_wp2_with fail;refine H.out.mono ?_;rintro e w1 ⟨rfl,rfl⟩;go_wp2;go_ret;exact⟨by rw[HE.out.1];rfl,by rw[HE.out.2];exact HR.out⟩
 |some t=>
  obtain⟨i,j,l,rfl,rfl,hl,ht⟩:=Kn.block_some hb;have H:=Lh (find_some h hl ht (by omega) (by omega))
  by_cases hs:s.size=64
  ·have hj:=(List.getElem?_eq_some_iff.1 ht).1;have HE:Hid (Kn.setE K.B i j s=0∧K.setBlock i j s= { K with B:=K.B.set i (l.set j s) }):=Lh (by
    have e:Kn.setE K.B i j s=0:=by unfold Kn.setE;rw[hb,if_neg (by simp[hs])]
    exact⟨e,by unfold Kn.setBlock;rw[if_pos e,Kn.setB_eq hl]⟩)
   have HS:=Lh fun v (hv:a.rows[i]? =some v)=>KStep.setBlk h hv hl hj s hs
   have hsz:((s.size:Int) != 64)=false:=by rw[hs];rfl
   clear h hb hl ht hs;go_enter func157,ntmps157;go_wp2_with fail;refine H.out.mono ?_;rintro e w1 ⟨g,off,cap,rfl,rfl,hr,hc⟩;obtain⟨g',off',⟨cap',e'⟩,_,hf,hk⟩:=HS.out _ hr;simp only[Value.slice.injEq,Option.some.injEq,Addr.mk.injEq,and_true] at e';obtain⟨⟨rfl,rfl⟩,_⟩:=e';have HK:=Lh hk;clear hr hk;go_wp2;go_ret;exact⟨by rw[HE.out.1];rfl,by rw[HE.out.2];exact HK.out⟩
  ·have HE:Hid (Kn.setE K.B i j s=2∧K.setBlock i j s=K):=Lh (by
    have e:Kn.setE K.B i j s=2:=by unfold Kn.setE;rw[if_pos (.inr hs)]
    exact⟨e,by unfold Kn.setBlock;rw[if_neg (by omega)]⟩)
   have hsz:((s.size:Int) != 64)=true:=bne_iff_ne.2 (by omega);have HR:=Lh (KStep.refl h);clear h hb hl ht hs;go_enter func157,ntmps157;go_wp2_with fail;refine H.out.mono ?_;rintro e w1 ⟨g,off,cap,rfl,rfl,hr,hc⟩;clear hr;go_wp2;go_ret;exact⟨by rw[HE.out.1];rfl,by rw[HE.out.2];exact HR.out⟩
theorem setBlock_now(K:Kn)(id n:Int)(s:ByteArray):(K.setBlock id n s).now=K.now:=by unfold Kn.setBlock;split<;>rfl
theorem caps(h:Knl w a K):Calls Tryz.prog 85 #[.pointer (some ⟨a.kb,0,none⟩)] w fun e w'=>e=.returned (.pointer (some ⟨a.c.cb,0,none⟩))∧w=w':=by
 obtain⟨_,_,c2,_,_,_⟩:=h.cells;clear h;go_enter func85,ntmps85;go_wp2;go_ret;exact⟨rfl,rfl⟩
theorem nic(h:Knl w a K):Calls Tryz.prog 73 #[.pointer (some ⟨a.kb,0,none⟩)] w fun e w'=>e=.returned (.pointer (some ⟨a.nb,0,none⟩))∧w=w':=by
 obtain⟨_,_,_,c3,_,_⟩:=h.cells;clear h;go_enter func73,ntmps73;go_wp2;go_ret;exact⟨rfl,rfl⟩
end
end Kl
end Go.Proofs.YtnpicaigdfnmfaaGreat
