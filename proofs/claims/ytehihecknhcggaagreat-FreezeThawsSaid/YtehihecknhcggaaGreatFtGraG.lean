/- GraG, RwIn, Duo, WordBytes, RefW, Text06 in one text. -/
import Derived.Test.YtehihecknhcggaaGreatFtGrantG
import Derived.Test.YtehihecknhcggaaGreatFtEnvW
import Derived.Test.YtehihecknhcggaaGreatFtInsW
import Derived.Test.YtehihecknhcggaaGreatFtPag
import Derived.Test.YtehihecknhcggaaGreatProg
import Derived.LoopTactic
import Derived.Deep.RegionLaw
import Derived.Deep.AppendLies
import Derived.WalkSpells
import Derived.WalkLawsBesides
import Derived.OwnWalk
import Derived.Outline
import Derived.Test.YtehihecknhcggaaGreatFtBase
import Derived.Deep.DeepCutAuto
import Derived.Test.YtehihecknhcggaaGreatFtZa
set_option linter.unusedVariables false
set_option linter.unusedSimpArgs false
set_option maxRecDepth 100000
set_option maxHeartbeats 16000000
open Go.Proofs.Tryz
namespace Go.Proofs.YtehihecknhcggaaGreat
open Go.RowKit
def CAt.put(a:CAt)(n:Int)(gb:Nat)(ev pv:Value):CAt:= {a with gb:=fun k=>if k=n then gb else a.gb k,ev:=fun k=>if k=n then ev else a.ev k,pv:=fun k=>if k=n then pv else a.pv k}
theorem CAt.put_at(a:CAt)(n:Int)(gb:Nat)(ev pv:Value):(a.put n gb ev pv).gb n=gb∧(a.put n gb ev pv).ev n=ev∧(a.put n gb ev pv).pv n=pv:=⟨if_pos rfl,if_pos rfl,if_pos rfl⟩
theorem CAt.put_ne(a:CAt){n k:Int}(gb:Nat)(ev pv:Value)(h:k≠n):(a.put n gb ev pv).gb k=a.gb k∧(a.put n gb ev pv).ev k=a.ev k∧(a.put n gb ev pv).pv k=a.pv k:=⟨if_neg h,if_neg h,if_neg h⟩
theorem SlV.map_keep{w w':World}{mb n:Nat}{D:DataW Unit}{kt:TypeId}{el:Value→Option (DataW Unit×List MemPlace)}(ho:w.ownsMap Tryz.prog kt el mb n D)(hm:Mod (fun k=>k=mb) w w'){ty:TypeId}{s m:Nat}{v:Value}{xs:List Value}(h:SlV w ty s v m xs):SlV w' ty s v m xs:=by
 refine⟨h.1, ?_⟩;rcases h.2 with g|⟨g,off,cap,cur,rfl,hgg,rest⟩
 ·exact .inl g
 ·refine .inr ⟨g,off,cap,cur,rfl,(hm.block _ (lQ hgg) (fun e=> ?_)).trans hgg,rest⟩;obtain⟨es,clock,hb,_⟩:=ho;rw[←e,hgg] at hb;cases hb
theorem Cps.head_ne{w:World}{a:CAt}{hp:Int}{G:Int→Option Gr}(h:Cps w a hp G):a.cb≠a.mb∧∀n,(G n).isSome=true→a.gb n≠a.mb:=by
 obtain⟨D,m,⟨es,clock,hb,_⟩,_⟩:=h.map;refine⟨fun e=> ?_,fun n hn e=> ?_⟩
 ·rw[←e,h.head] at hb;cases hb
 ·obtain⟨g,hg⟩:=Option.isSome_iff_exists.1 hn;have:=(h.grant n g hg).1;rw[e,hb] at this;cases this
theorem Cps.insert{w:World}{a:CAt}{hp:Int}{G:Int→Option Gr}(h:Cps w a hp G){n:Int}(n1:1≤n)(n8:n≤8)(hn:G n=none){gb:Nat}{ev pv:Value}{g:Gr}(hblk:w.heap[gb]? =some (.cells (grC g ev pv) 210 (0,0)))(hm:MnAt w ev pv g.m)(hok:g.ok)(h1:gb≠a.mb)(hgn:∀k,(G k).isSome=true→a.gb k≠gb)(hft:Gp.sum G+(g.m.pages+g.pg)≤hp):
  ∃w',(Instr.mapUpdate 205 (.map (some a.mb)) (.int .i64 n) (.pointer (some ⟨gb,0,none⟩))).run Tryz.prog w=.ok () w'∧Cps w' (a.put n gb ev pv) hp (Gp.upd G n (some g))∧Mod (fun k=>k=a.mb) w w':=by
 obtain⟨hcm,hgm⟩:=h.head_ne;obtain⟨D,d,ho,hv,hs⟩:=h.map;have ht:=own_tight ho;have K:=Maps.int_keyed (P:=Tryz.prog) Tryz.underlying3;have hk:=Maps.keyOf_int_mk (P:=Tryz.prog) Tryz.underlying3 (I64.wf (n:=n) ⟨by omega,by omega⟩);have hcb:Gp.cnt G≤8:=by
  have:Gp.cnt G≤Gp.sum8 fun _=>1:=Gp.sum8_le fun k=>by unfold Gp.one;split<;>omega
  exact this
 obtain⟨w',hrun,how,htu⟩:=ht.store K Tryz.underlying205 (by unfold maxLen;omega) (val:=.pointer (some ⟨gb,0,none⟩)) (d:=.lit (.int .i64 gb)) (ps:=[]) hk rfl;have hg:=htu.grown;have hne:∀k,k<w.heap.size→k≠a.mb→w'.heap[k]? =w.heap[k]? :=fun k hk hkm=>hg.block k hk (by simpa using hkm)
 have hmod:Mod (fun k=>k=a.mb) w w':=⟨hg.os,hg.tape,hg.output,hg.size,fun k hk hkm=>hne k hk hkm⟩;have hsm:∀k,(Gp.upd G n (some g) k).isSome=true↔k=n∨(G k).isSome=true:=fun k=>by
  unfold Gp.upd
  split
  ·rename_i e;simp[e]
  ·rename_i e;simp[e]
 refine⟨w',hrun,⟨(hne a.cb (h.lt (.inl rfl)) hcm).trans h.head,⟨_,_,how,fun x zd=> ?_, ?_⟩,fun m g' hg'=> ?_,fun m=> ?_,fun m hm'=> ?_,fun m k q1 q2 e=> ?_, ?_⟩,hmod⟩
 ·by_cases e:x=n
  ·subst e;rw[if_pos ((hsm x).2 (.inl rfl)),Maps.atKey_put_same ht.isMap (K.key hk),(a.put_at x gb ev pv).1]
  ·rw[Maps.atKey_put_other (by intro g;simp at g;exact e g),hv,(a.put_ne gb ev pv e).1,Gp.upd_ne _ _ e]
 ·rw[Maps.size_put (ht.tidy K)];have:Maps.has D (.int .i64 n)=false:=Maps.has_false_of_atKey fun z=>by rw[hv,if_neg (by rw[hn];simp)]
  rw[this,Gp.cnt_put n1 n8,←hs,hn];simp[Gp.one]
 ·by_cases e:m=n
  ·subst e;rw[Gp.upd_at] at hg';cases hg';rw[(a.put_at m gb ev pv).1,(a.put_at m gb ev pv).2.1,(a.put_at m gb ev pv).2.2];exact⟨(hne gb (lQ hblk) h1).trans hblk,hm.e.map_keep ho hmod,hm.p.map_keep ho hmod⟩
  ·rw[Gp.upd_ne _ _ e] at hg';obtain⟨p1,p2⟩:=h.grant m g' hg';rw[(a.put_ne gb ev pv e).1,(a.put_ne gb ev pv e).2.1,(a.put_ne gb ev pv e).2.2];exact⟨(hne _ (lQ p1) (hgm m (by rw[hg'];rfl))).trans p1,p2.e.map_keep ho hmod,p2.p.map_keep ho hmod⟩
 ·by_cases e:m=n
  ·subst e;rw[Gp.upd_at];intro g' hg';cases hg';exact hok
  ·rw[Gp.upd_ne _ _ e];exact h.ok m
 ·rcases(hsm m).1 hm' with rfl|q
  ·exact⟨n1,n8⟩
  ·exact h.dom m q
 ·by_cases e1:m=n
  ·by_cases e2:k=n
   ·rw[e1,e2]
   ·rw[e1,(a.put_at n gb ev pv).1,(a.put_ne gb ev pv e2).1] at e;exact absurd e.symm (hgn k (((hsm k).1 q2).resolve_left e2))
  ·by_cases e2:k=n
   ·rw[e2,(a.put_at n gb ev pv).1,(a.put_ne gb ev pv e1).1] at e;exact absurd e (hgn m (((hsm m).1 q1).resolve_left e1))
   ·rw[(a.put_ne gb ev pv e1).1,(a.put_ne gb ev pv e2).1] at e;exact h.inj m k (((hsm m).1 q1).resolve_left e1) (((hsm k).1 q2).resolve_left e2) e
 ·rw[Gp.sum_put n1 n8,hn]
  show Gp.sum G+(g.m.pages+g.pg - 0)≤hp
  omega
namespace Ca
theorem all{w:World}{a:CAt}{m:Mn}{ev pv:Value}{pb:Nat}(r0 r1 r2 r3:Int)
  (h0:∀V,Below w.heap.size w V→Calls Tryz.prog 265 #[.pointer (some ⟨a.cb,0,none⟩),.agg (m.cells ev pv)] V fun e w'=>e=.returned (.int .i64 r0)∧Below V.heap.size V w')
  (h1:∀V,Below w.heap.size w V→Calls Tryz.prog 266 #[.pointer (some ⟨a.cb,0,none⟩),.agg (m.cells ev pv)] V fun e w'=>e=.returned (.int .i64 r1)∧Below V.heap.size V w')
  (h2:∀V,Below w.heap.size w V→Calls Tryz.prog 267 #[.pointer (some ⟨a.cb,0,none⟩),.agg (m.cells ev pv)] V fun e w'=>e=.returned (.int .i64 r2)∧Below V.heap.size V w')
  (h3:∀V,Below w.heap.size w V→Calls Tryz.prog 193 #[.pointer (some ⟨a.cb,0,none⟩),.agg (m.cells ev pv),.pointer (some ⟨pb,0,none⟩)] V fun e w'=>e=.returned (.int .i64 r3)∧Below V.heap.size V w'):
  Calls Tryz.prog 194 #[.pointer (some ⟨a.cb,0,none⟩),.agg (m.cells ev pv),.func (.func 193) #[] #[.pointer (some ⟨pb,0,none⟩)]] w fun e w'=>e=.returned (.int .i64 (firstE [r0,r1,r2,r3]))∧Below w.heap.size w w':=by
 have HE:=Lh fun(V:World) (lb:Nat) hb hf=>each (w:=V) (a:=a) (m:=m) (ev:=ev) (pv:=pv) (lb:=lb) (pb:=pb) r0 r1 r2 r3 hf (fun U hU=>h0 U (bQ hb hU)) (fun U hU=>h1 U (bQ hb hU)) (fun U hU=>h2 U (bQ hb hU)) (fun U hU=>h3 U (bQ hb hU))
 have hb:Below w.heap.size w (w.alloc (.cells (m.cells ev pv) 48)):=Ba _;have hblk:=heap_alloc_new w (.cells (m.cells ev pv) 48);obtain⟨c0,c1,c2,c3,_⟩:=man_cells hblk;have HB:=Lh hb;unfold Mn.cells at*;clear hb hblk h0 h1 h2 h3;go_enter func194,ntmps194;go_wp2_with fail;refine(HE.out _ _ (HB.out.alloc HB.out.size _) (by
  have h:=heap_alloc_new (w.alloc (.cells #[.int .u32 m.pages,ev,pv,.bool m.con] 48)) (.cells #[.func (.func 265) #[] #[],.func (.func 266) #[] #[],.func (.func 267) #[] #[],.func (.func 193) #[] #[.pointer (some ⟨pb,0,none⟩)]] 415);rw[show(w.alloc (.cells #[.int .u32 m.pages,ev,pv,.bool m.con] 48)).heap.size=w.heap.size+1 by simp] at h;exact h)).mono ?_
 rintro e w2 ⟨rfl,hb2⟩;have HB2:=Lh (bQ (HB.out.alloc HB.out.size _) hb2);clear c0 c1 c2 c3 hb2;go_wp2;go_ret;exact⟨rfl,HB2.out⟩
end Ca
theorem rises_at{l:List (Int×Int)}(h:Gp.risesB (fun a b:Int×Int=>decide (a.1<b.1)) l=true)(h0:∀x,x∈l→0≤x.1):∀(k:Nat) (x:Int×Int),l[k]? =some x→(k:Int)≤x.1
 |0,x,hx=>by have:=h0 x (List.mem_of_getElem? hx);omega
 |k+1,x,hx=>by
  have hk:k<l.length:=by have:=(List.getElem?_eq_some_iff.1 hx).1;omega
  have h1:=rises_at h h0 k l[k] (Zg hk);have h2:=(Gp.risesB_iff _ l).1 h k l[k] x (Zg hk) hx;simp at h2;omega
theorem slv_at{w:World}{e:TypeId}{s n oc:Nat}{o:Option Addr}{xs:List Value}(h:SlV w e s (.slice o n oc) n xs):Cl.At w o xs:=fun j u hu=>by
 have hj:=(List.getElem?_eq_some_iff.1 hu).1;have hl:=h.1;rcases h.2 with⟨h0,_⟩|⟨g,off,cap,cur,hv,_⟩
 ·subst h0;omega
 ·cases hv;exact⟨g,off,rfl,(SlV.cell h j (by omega)).trans hu⟩
theorem one_ext(l:List (Int×Int)):∀u,u∈extC l→u.oneCell'=true:=fun u hu=>by
 unfold extC at hu;rw[List.mem_flatMap] at hu;obtain⟨x,_,hx⟩:=hu;simp at hx;rcases hx with rfl|rfl<;>rfl
theorem one_u16(l:List Int):∀u,u∈l.map (Value.int .u16)→u.oneCell'=true:=fun u hu=>by
 obtain⟨x,_,rfl⟩:=List.mem_map.1 hu;rfl
namespace Ca
def grE(hp:Int)(hx:List Int)(G:Int→Option Gr)(m:Mn)(pg:Int):Int:=firstE [noneE m.ext hx.length,longE m.ext hx,busyE G m,fullE hp G m pg]
def grantE(hp:Int)(hx:List Int)(G:Int→Option Gr)(n:Int)(m:Mn)(pg:Int):Int:=
 if n<1∨8<n∨Gp.checkE m≠0∨4096<pg then 2 else if(G n).isSome=true then 9 else grE hp hx G m pg
def GrPost(w:World)(a:CAt)(hp:Int)(hx:List Int)(G:Int→Option Gr)(n:Int)(m:Mn)(pg:Int)(e:Ending)(w':World):Prop:=
 (grantE hp hx G n m pg≠0∧e=.returned (.int .i64 (grantE hp hx G n m pg))∧Below w.heap.size w w')∨
 (grantE hp hx G n m pg=0∧e=.returned (.int .i64 0)∧∃gb ev pv,Cps w' (a.put n gb ev pv) hp (Gp.upd G n (some ⟨m,pg,0⟩))∧Mod (fun k=>k=a.mb) w w'∧(w.heap.size≤gb∧gb<w'.heap.size)∧(∀k,ev.ownBlock=some k∨pv.ownBlock=some k→w.heap.size≤k∧k<w'.heap.size∧k≠gb))
theorem ext_len{m:Mn}{hx:List Int}(hl:hx.length≤16)(hok:m.ok)(hc:Gp.checkE m=0){x y z:Int}(he:firstE [noneE m.ext hx.length,x,y,z]=0):m.ext.length≤16:=by
 have hm:Gp.mayM m=true:=by
  unfold Gp.checkE at hc
  split at hc
  ·assumption
  ·cases hc
 unfold Gp.mayM at hm;simp only[Bool.and_eq_true] at hm;have hr:=hm.1.1.1.1.2;have hn:extNone m.ext hx.length=false:=by
  cases hq:extNone m.ext hx.length with
  |false=>rfl
  |true=>
   unfold firstE noneE at he;rw[hq] at he;simp at he
 unfold extNone at hn;rw[List.any_eq_false] at hn;rcases Nat.lt_or_ge 16 m.ext.length with q|q
 ·exfalso
  have h16:m.ext[16]? =some m.ext[16]:=Zg q;have h1:=rises_at hr (fun x hx=>(hok.e x hx).1) 16 _ h16;have h2:=hn _ (List.mem_of_getElem? h16);simp at h2;omega
 ·exact q
theorem may_num{m:Mn}(hc:Gp.checkE m=0):m.ports.length≤16∧m.pages≤1024:=by
 have hm:Gp.mayM m=true:=by
  unfold Gp.checkE at hc
  split at hc
  ·assumption
  ·cases hc
 unfold Gp.mayM at hm;simp only[Bool.and_eq_true,decide_eq_true_eq] at hm;exact⟨hm.1.2,hm.2⟩
theorem grant_in{w:World}{a:CAt}{hp:Int}{hx:List Int}{G:Int→Option Gr}(h:Cps w a hp G)(hp1:hp≤4096){n pg:Int}(n1:1≤n)(n8:n≤8)(g0:0≤pg)(g1:pg≤4096)(hh:SlV w 41 1 a.hv hx.length (hx.map (Value.int .u32)))(hl:hx.length≤16){m:Mn}{ev pv:Value}(hm:MnAt w ev pv m)(hok:m.ok):
  Calls Tryz.prog 88 #[.pointer (some ⟨a.cb,0,none⟩),.int .i64 n,.agg (m.cells ev pv),.int .u32 pg] w (GrPost w a hp hx G n m pg):=by
 have hb0:Below w.heap.size w (w.alloc (.cells (m.cells ev pv) 48)):=Ba _;have hb1:=hb0.alloc hb0.size (.cells #[.int .u32 pg] 41);have hbk0:((w.alloc (.cells (m.cells ev pv) 48)).alloc (.cells #[.int .u32 pg] 41)).heap[w.heap.size]? =some (.cells (m.cells ev pv) 48):=(Below.heap_alloc _ _ _ (lQ (heap_alloc_new w _))).trans (heap_alloc_new w _);have hbk1:=heap_alloc_new (w.alloc (.cells (m.cells ev pv) 48)) (.cells #[.int .u32 pg] 41);rw[show(w.alloc (.cells (m.cells ev pv) 48)).heap.size=w.heap.size+1 by simp] at hbk1;have HB1:=Lh hb1;have HBk:=Lh (And.intro hbk0 hbk1);have HCk:=Lh (Dm.check (hm.below hb1));have HCps:=Lh fun V (hV:Below w.heap.size w V)=>h.below hV
 have HMn:=Lh fun V (hV:Below w.heap.size w V)=>hm.below hV
 have HAll:=Lh fun(hq:m.pages≤1024) (V:World) (hV:Below w.heap.size w V) (hpb:V.heap[w.heap.size+1]? =some (.cells #[.int .u32 pg] 41 (0,0)))=>all (w:=V) (a:=a) (m:=m) (ev:=ev) (pv:=pv) (pb:=w.heap.size+1) (noneE m.ext hx.length) (longE m.ext hx) (busyE G m) (fullE hp G m pg)
  (fun U hU=>none_any (h.below (bQ hV hU)) (hh.below (bQ hV hU)) hl (hm.below (bQ hV hU)) hok)
  (fun U hU=>long_any (h.below (bQ hV hU)) (hh.below (bQ hV hU)) hl (hm.below (bQ hV hU)) hok)
  (fun U hU=>busy (h.below (bQ hV hU)) (hm.below (bQ hV hU)))
  (fun U hU=>full (h.below (bQ hV hU)) hp1 ((hU.block _ (lQ hpb)).trans hpb) hok.p0 hq (by omega) (by omega))
 have HOk:=Lh hok;have HL:=Lh hl;have HPp:=Lh hp1;have HZ0:=Lh (Below.refl w.heap.size w);have HF1:Hid (∀V,Gp.checkE m≠0→Below w.heap.size w V→GrPost w a hp hx G n m pg (.returned (.int .i64 2)) V):=Lh fun V h1 h2=>by
  have e:grantE hp hx G n m pg=2:=if_pos (.inr (.inr (.inl h1)));exact .inl ⟨by rw[e];decide,by rw[e],h2⟩
 have hck:Gp.checkE m=0→¬(n<1∨8<n∨Gp.checkE m≠0∨4096<pg):=fun h1=>by omega
 have HF9:Hid (∀V,Gp.checkE m=0→(G n).isSome=true→Below w.heap.size w V→GrPost w a hp hx G n m pg (.returned (.int .i64 9)) V):=Lh fun V h1 h2 h3=>by
  have e:grantE hp hx G n m pg=9:=(if_neg (hck h1)).trans (if_pos h2);exact .inl ⟨by rw[e];decide,by rw[e],h3⟩
 have HF2:Hid (∀V,Gp.checkE m=0→G n=none→grE hp hx G m pg≠0→Below w.heap.size w V→GrPost w a hp hx G n m pg (.returned (.int .i64 (grE hp hx G m pg))) V):=Lh fun V h1 hn h2 h3=>by
  have e:grantE hp hx G n m pg=grE hp hx G m pg:=(if_neg (hck h1)).trans (if_neg (by rw[hn];simp));exact .inl ⟨by rw[e];exact h2,by rw[e],h3⟩
 have HF3:Hid (∀V gb ev pv,Gp.checkE m=0→G n=none→grE hp hx G m pg=0→Cps V (a.put n gb ev pv) hp (Gp.upd G n (some ⟨m,pg,0⟩))→Mod (fun k=>k=a.mb) w V→(w.heap.size≤gb∧gb<V.heap.size)→(∀k,ev.ownBlock=some k∨pv.ownBlock=some k→w.heap.size≤k∧k<V.heap.size∧k≠gb)→GrPost w a hp hx G n m pg (.returned (.int .i64 0)) V):=Lh fun V gb ev pv h1 hn h2 h3 h4 h5 h6=>by
  have e:grantE hp hx G n m pg=grE hp hx G m pg:=(if_neg (hck h1)).trans (if_neg (by rw[hn];simp));exact .inr ⟨by rw[e];exact h2,rfl,gb,ev,pv,h3,h4,h5,h6⟩
 clear hck;generalize GrPost w a hp hx G n m pg=PQ at*;have hge:grE hp hx G m pg=firstE [noneE m.ext hx.length,longE m.ext hx,busyE G m,fullE hp G m pg]:=rfl;rw[←hge] at HAll;have HGe:=Lh hge;have HCell:Hid (∀V,Below ((w.alloc (.cells (m.cells ev pv) 48)).alloc (.cells #[.int .u32 pg] 41)).heap.size ((w.alloc (.cells (m.cells ev pv) 48)).alloc (.cells #[.int .u32 pg] 41)) V→V.heap[w.heap.size]? =some (.cells (m.cells ev pv) 48)∧V.heap[w.heap.size+1]? =some (.cells #[.int .u32 pg] 41)):=Lh fun V hV=>⟨(hV.block _ (lQ HBk.out.1)).trans HBk.out.1,(hV.block _ (lQ HBk.out.2)).trans HBk.out.2⟩
 obtain⟨c0,c1,c2,c3,cf⟩:=man_cells hbk0;unfold Mn.cells at*;clear hb0 hb1 hbk0 hbk1 h hh hm hok hl hge;go_enter func88,ntmps88;go_wp2_with fail;refine HCk.out.mono ?_;rintro e w2 ⟨rfl,hb2⟩;obtain⟨q0,q1⟩:=HCell.out _ hb2;have HB2:=Lh (bQ HB1.out hb2);have HG2:=Lh hb2;have HK2:=Lh (And.intro q0 q1);clear c0 c1 c2 c3 cf hb2;obtain⟨c0,c1,c2,c3,cf⟩:=man_cells q0;have c4:w2.cell? ⟨w.heap.size+1,0,none⟩=some (.int .u32 pg):=by unfold World.cell?;rw[q1];rfl
 clear q0 q1;obtain⟨ce,hce⟩:∃ce,Gp.checkE m=ce:=⟨_,rfl⟩;rw[hce]
 by_cases e0:ce=0
 case neg=>
  have hne:(ce != 0)=true:=bne_iff_ne.2 e0;have hend:=HF1.out w2 (by rw[hce];exact e0) HB2.out;clear HF1 HF2 HF3 HF9 hce;go_wp2
  first
   |exact hend
   |(go_ret;exact hend)
 subst e0;have HCe:=Lh hce;have hmay:=may_num hce;obtain⟨x0,x1,x2⟩:=(HCps.out w2 HB2.out).cells;have hlk:=(HCps.out w2 HB2.out).look (n:=n) ⟨by omega,by omega⟩;have HMay:=Lh hmay;clear hce hmay
 by_cases hgn:(G n).isSome=true
 ·rw[if_pos hgn] at hlk;have hend:=HF9.out w2 HCe.out hgn HB2.out;clear HF1 HF2 HF3 HF9 HAll;go_wp2
  first
   |exact hend
   |(go_ret;exact hend)
 rw[if_neg hgn] at hlk;have HNo:Hid (G n=none):=Lh (by cases q:G n with|none=>rfl|some g=>rw[q] at hgn;exact absurd rfl hgn);clear hgn HF9;go_wp2_with fail;refine(HAll.out HMay.out.2 _ HB2.out HK2.out.2).mono ?_;rintro e w3 ⟨rfl,hb3⟩;have HG3:=Lh (bQ HG2.out hb3);have HB3:=Lh (bQ HB2.out hb3);obtain⟨ge,hge⟩:∃ge,grE hp hx G m pg=ge:=⟨_,rfl⟩;rw[hge];clear hb3 c0 c1 c2 c3 cf c4 x0 x1 x2 hlk
 by_cases e0:ge=0
 case neg=>
  have hne:(ge != 0)=true:=bne_iff_ne.2 e0;have hend:=HF2.out w3 HCe.out HNo.out (by rw[hge];exact e0) HB3.out;rw[hge] at hend;clear HF1 HF2 HF3 hge;go_wp2
  first
   |exact hend
   |(go_ret;exact hend)
 subst e0;have hel:=ext_len HL.out HOk.out HCe.out (HGe.out.symm.trans hge);have HGz:=Lh hge;clear hge;obtain⟨eo,ec,rfl⟩:=(HMn.out w HZ0.out).e.form;obtain⟨po,pc,rfl⟩:=(HMn.out w HZ0.out).p.form;have HMay:=Lh (may_num HCe.out);have HC1:Hid (Calls Tryz.prog 195 #[.slice eo m.ext.length ec] w3.drew fun e w'=>∃v',e=.returned v'∧SlV w' 317 2 v' m.ext.length (extC m.ext)∧(∀b,v'.ownBlock=some b→w3.drew.heap.size≤b∧b<w'.heap.size)∧Below w3.drew.heap.size w3.drew w'):=Lh (Cl.clone_ext (extC_length _) (slv_at (HMn.out _ HB3.out.drew).e) (by omega) (one_ext _));have HC2:Hid (∀V,Below w3.drew.heap.size w3.drew V→Calls Tryz.prog 196 #[.slice po m.ports.length pc] V fun e w'=>∃v',e=.returned v'∧SlV w' 22 1 v' m.ports.length (m.ports.map (Value.int .u16))∧(∀b,v'.ownBlock=some b→V.heap.size≤b∧b<w'.heap.size)∧Below V.heap.size V w'):=Lh fun V hV=>Cl.clone_u16 (by simp) (slv_at (HMn.out V (bQ HB3.out.drew hV)).p) (by have:=HMay.out.1;omega) (one_u16 _)
 have HBd:Hid (∀V,Below w3.drew.heap.size w3.drew V→V.heap[w.heap.size]? =some (.cells #[.int .u32 m.pages,.slice eo m.ext.length ec,.slice po m.ports.length pc,.bool m.con] 48)∧V.heap[w.heap.size+1]? =some (.cells #[.int .u32 pg] 41)):=Lh fun V hV=>HCell.out V (bQ HG3.out.drew hV)
 have HDB:Hid (∀V,Below w3.drew.heap.size w3.drew V→V.cell? ⟨w.heap.size,0,none⟩=some (.int .u32 m.pages)∧V.cell? ⟨w.heap.size,1,none⟩=some (.slice eo m.ext.length ec)∧V.cell? ⟨w.heap.size,2,none⟩=some (.slice po m.ports.length pc)∧V.cell? ⟨w.heap.size,3,none⟩=some (.bool m.con)∧∀i,V.frozen? ⟨w.heap.size,i,none⟩=false):=Lh fun V hV=>man_cells (m:=m) (HBd.out V hV).1
 have HD:=Lh (HDB.out w3.drew Br);have HBw:Hid (Below w.heap.size w w3.drew):=Lh HB3.out.drew;have HWl:Hid (w.heap.size<w3.drew.heap.size):=Lh (lQ (HBd.out _ Br).1);clear HG3 HG2 HK2 HB2 HB3 HBk HCk HAll HF1 HF2 HCell HB1 HZ0;go_upto_region 11 with(fail);refine wp_region_E (fun w'=>w'.cell? ⟨w.heap.size,2,none⟩=some (.slice po m.ports.length pc)) 9 (by kernel_rfl) ?_
 change AnyE _ _ _ _ _ _ _ _ _ w3.drew
 generalize hwd:w3.drew=wd at*;refine LT 0 HD.out.2.2.1 ?_;refine LT 3 HD.out.2.2.1 ?_;refine LT 4 HD.out.2.2.1 ?_;refine LU 1 fun K hK=> ?_
 have d1:=HD.out.2.1;go_simp;refine LV hK (fun _=>HD.out.2.2.1) ?_;clear hK K;refine LU 2 fun K hK=> ?_
 go_simp;go_at_call 195;refine HC1.out.mono ?_;rintro e w4 ⟨v1,rfl,hs1,ho1,hb4⟩;have H4:=Lh (And.intro hs1 (And.intro ho1 hb4));have D4:=Lh (HDB.out _ hb4);obtain⟨o1,oc1,rfl⟩:=hs1.form;clear hs1 ho1 hb4;refine LV hK (fun _=>D4.out.2.2.1) ?_;clear hK K;refine LT 6 D4.out.2.2.1 ?_;refine LU 5 fun K hK=> ?_
 go_simp;go_at_call 196;refine(HC2.out _ H4.out.2.2).mono ?_;rintro e w5 ⟨v2,rfl,hs2,ho2,hb5⟩;have H5:=Lh (And.intro hs2 (And.intro ho2 hb5));have D5:=Lh (HDB.out _ (bQ H4.out.2.2 hb5));obtain⟨o2,oc2,rfl⟩:=hs2.form;clear hs2 ho2 hb5;refine LV hK (fun _=>D5.out.2.2.1) ?_;clear hK K;have HT6:Hid (∀v,(w5.setCell ⟨w.heap.size,1,none⟩ v).cell? ⟨w.heap.size,2,none⟩=some (.slice po m.ports.length pc)):=Lh fun v=>(World.cell?_setCell_other w5 ⟨w.heap.size,1,none⟩ ⟨w.heap.size,2,none⟩ v (by simp)).trans D5.out.2.2.1
 have HT7:Hid (∀v,(w5.setCell ⟨w.heap.size,1,none⟩ v).frozen? ⟨w.heap.size,2,none⟩=false):=Lh fun v=>by rw[World.frozen?_setCell];exact D5.out.2.2.2.2 2
 refine LU 7 fun K hK=> ?_
 have e1:=D5.out.2.1;have e1f:=D5.out.2.2.2.2 1;go_simp;refine LV hK (fun _=>(HT6.out _)) ?_;clear hK K;refine LT 8 (HT6.out _) ?_;refine LU 9 fun K hK=> ?_
 have e2:=HT6.out (.slice o1 m.ext.length oc1);have e2f:=HT7.out (.slice o1 m.ext.length oc1);go_simp;refine hK.out _ _ (fun e=>absurd rfl e) (fun _=> ?_);clear hK K;try simp only[Act.put,Za,Zb,Zc,Zd,Ze,Zf]
 refine E_done (by kernel_rfl) ?_ _;have hb5:Below wd.heap.size wd w5:=bQ H4.out.2.2 H5.out.2.2;have hwl5:w.heap.size<w5.heap.size:=Nat.lt_of_lt_of_le HWl.out hb5.size;have hbw5:Below w.heap.size w w5:=bQ HBw.out hb5;have hk5:=HBd.out w5 hb5;have hm6:Mod (fun i=>i=w.heap.size) w5 ((w5.setCell ⟨w.heap.size,1,none⟩ (.slice o1 m.ext.length oc1)).setCell ⟨w.heap.size,2,none⟩ (.slice o2 m.ports.length oc2)):=Mod.setCell (F:=fun i=>i=w.heap.size) (Mod.setCell (F:=fun i=>i=w.heap.size) (Mod.refl _ _) ⟨w.heap.size,1,none⟩ (.inl rfl) _) ⟨w.heap.size,2,none⟩ (.inl rfl) _;have hk6:=heap_setCell_same (w5.setCell ⟨w.heap.size,1,none⟩ (.slice o1 m.ext.length oc1)) w.heap.size 2 _ _ (.slice o2 m.ports.length oc2) (heap_setCell_same w5 w.heap.size 1 _ _ (.slice o1 m.ext.length oc1) hk5.1);have hk6b:=(hm6.block _ (lQ hk5.2) (by omega)).trans hk5.2;have hz6:((w5.setCell ⟨w.heap.size,1,none⟩ (.slice o1 m.ext.length oc1)).setCell ⟨w.heap.size,2,none⟩ (.slice o2 m.ports.length oc2)).heap.size=w5.heap.size:=by simp[World.setCell]
 have hwd:=HBw.out.size;have hs1:=((H4.out.1.below H5.out.2.2).mod hm6 fun k hk e=>by have:=(H4.out.2.1 k hk).1;have:=HWl.out;omega);have hs2:=(H5.out.1.mod hm6 fun k hk e=>by have:=(H5.out.2.1 k hk).1;have:=H4.out.2.2.size;have:=HWl.out;omega);have ho1:∀k,(Value.slice o1 m.ext.length oc1).ownBlock=some k→wd.heap.size≤k∧k<w5.heap.size:=fun k hk=>⟨(H4.out.2.1 k hk).1,Nat.lt_of_lt_of_le (H4.out.2.1 k hk).2 H5.out.2.2.size⟩
 have ho2:∀k,(Value.slice o2 m.ports.length oc2).ownBlock=some k→wd.heap.size≤k∧k<w5.heap.size:=fun k hk=>⟨Nat.le_trans H4.out.2.2.size (H5.out.2.1 k hk).1,(H5.out.2.1 k hk).2⟩
 have hbw6:=Mod.below hbw5 hm6 hbw5.size fun k _ hk=>Nat.le_of_eq hk.symm
 rw[←hz6] at ho1 ho2;have hwl6:wd.heap.size≤((w5.setCell ⟨w.heap.size,1,none⟩ (.slice o1 m.ext.length oc1)).setCell ⟨w.heap.size,2,none⟩ (.slice o2 m.ports.length oc2)).heap.size:=by rw[hz6];exact hb5.size
 clear hz6 hm6 hk5 hb5 hwl5 hbw5 HT6 HT7 D5 D4 H4 H5 HC1 HC2 HD HDB HBd;go_upto_region 12 with(fail);generalize (w5.setCell ⟨w.heap.size,1,none⟩ (.slice o1 m.ext.length oc1)).setCell ⟨w.heap.size,2,none⟩ (.slice o2 m.ports.length oc2)=w6 at*;clear e1 e1f e2 e2f d1
 replace hk6:w6.heap[w.heap.size]? =some (.cells #[.int .u32 m.pages,.slice o1 m.ext.length oc1,.slice o2 m.ports.length oc2,.bool m.con] 48):=hk6
 have HMn6:Hid (MnAt w6 (.slice o1 m.ext.length oc1) (.slice o2 m.ports.length oc2) m):=Lh ⟨hs1,hs2⟩;have HO1:=Lh ho1;have HO2:=Lh ho2;have HB6:=Lh hbw6;have HW6:=Lh hwl6;have HH:=Lh hwd;have HEd:Hid (∀V,Below w6.drew.heap.size w6.drew V→(V.cell? ⟨w.heap.size,0,none⟩=some (.int .u32 m.pages)∧V.cell? ⟨w.heap.size,1,none⟩=some (.slice o1 m.ext.length oc1)∧V.cell? ⟨w.heap.size,2,none⟩=some (.slice o2 m.ports.length oc2)∧V.cell? ⟨w.heap.size,3,none⟩=some (.bool m.con))∧V.cell? ⟨w.heap.size+1,0,none⟩=some (.int .u32 pg)∧V.cell? ⟨a.cb,2,none⟩=some (.map (some a.mb))):=Lh fun V hV=>by
  have h1:=(hV.block _ (show w.heap.size<w6.drew.heap.size from lQ hk6)).trans hk6;have h2:=(hV.block _ (show w.heap.size+1<w6.drew.heap.size from lQ hk6b)).trans hk6b;obtain⟨g0,g1,g2,g3,_⟩:=man_cells (m:=m) h1;refine⟨⟨g0,g1,g2,g3⟩, ?_,(HCps.out V (bQ HB6.out.drew hV)).cells.2.2⟩;unfold World.cell?;rw[h2];rfl
 have HE:=Lh (HEd.out w6.drew Br);have HEA:Hid (∀o,((w6.drew.alloc o).cell? ⟨w.heap.size,0,none⟩=some (.int .u32 m.pages)∧(w6.drew.alloc o).cell? ⟨w.heap.size,1,none⟩=some (.slice o1 m.ext.length oc1)∧(w6.drew.alloc o).cell? ⟨w.heap.size,2,none⟩=some (.slice o2 m.ports.length oc2)∧(w6.drew.alloc o).cell? ⟨w.heap.size,3,none⟩=some (.bool m.con))∧(w6.drew.alloc o).cell? ⟨w.heap.size+1,0,none⟩=some (.int .u32 pg)∧(w6.drew.alloc o).cell? ⟨a.cb,2,none⟩=some (.map (some a.mb))):=Lh fun o=>HEd.out _ (Br.alloc (Nat.le_refl _) o)
 have hb7:Below w6.drew.heap.size w6.drew (w6.drew.alloc (.cells #[.int .u32 m.pages,.slice o1 m.ext.length oc1,.slice o2 m.ports.length oc2,.bool m.con,.int .u32 pg,.int .u32 0] 210)):=Ba _;have hbw7:=bQ HB6.out.drew hb7;have hmbl:a.mb<w.heap.size:=(HCps.out w Br).lt (.inr (.inl rfl));have hd6:w6.drew.heap.size=w6.heap.size:=rfl;have hft:Gp.sum G+(m.pages+pg)≤hp:=by
  have h1:=HGe.out.symm.trans HGz.out;have h2:fullE hp G m pg=0:=by
   unfold firstE at h1
   by_cases q:fullE hp G m pg=0
   ·exact q
   ·exfalso
    have hq:(fullE hp G m pg != 0)=true:=bne_iff_ne.2 q;simp only[List.find?_cons,hq] at h1
    split at h1
    ·rename_i z;simp at h1;rw[h1] at z;simp at z
    ·split at h1
     ·rename_i z;simp at h1;rw[h1] at z;simp at z
     ·split at h1
      ·rename_i z;simp at h1;rw[h1] at z;simp at z
      ·simp at h1;exact q h1
  unfold fullE at h2
  split at h2
  ·cases h2
  ·omega
 have hcz:=HCps.out w Br;obtain⟨w8,hrun,hc8,hm8⟩:=Cps.insert (HCps.out _ hbw7) n1 n8 HNo.out (g:=⟨m,pg,0⟩) (gb:=w6.drew.heap.size) (heap_alloc_new w6.drew (.cells #[.int .u32 m.pages,.slice o1 m.ext.length oc1,.slice o2 m.ports.length oc2,.bool m.con,.int .u32 pg,.int .u32 0] 210)) ((HMn6.out.below Br.drew).below hb7) ⟨HOk.out,Int.le_refl 0,HOk.out.p0,g0⟩ (by omega) (fun k hk e=>by have:=hcz.lt (.inr (.inr ⟨k,hk,rfl⟩));omega) hft;have hz7:(w6.drew.alloc (.cells #[.int .u32 m.pages,.slice o1 m.ext.length oc1,.slice o2 m.ports.length oc2,.bool m.con,.int .u32 pg,.int .u32 0] 210)).heap.size=w6.heap.size+1:=by simp
 have hz8:=hm8.size;have hm9:Mod (fun k=>k=a.mb) w w8:=(Mod.of_below hbw7 _).trans hm8 fun _ _ g=>.inl g
 have hend:=HF3.out w8 w6.drew.heap.size (.slice o1 m.ext.length oc1) (.slice o2 m.ports.length oc2) HCe.out HNo.out HGz.out hc8 hm9 ⟨by omega,by omega⟩ (fun k hk=>by
  rcases hk with hk|hk
  ·have:=HO1.out k hk;omega
  ·have:=HO2.out k hk;omega)
 have HRun:=Lh hrun;have HEnd:=Lh hend;clear hcz hft hb7 hbw7 hmbl hd6 hrun hc8 hm8 hz7 hz8 hm9 hend HF3 HO1 HO2 HB6 HW6 HH HMn6 HEd hk6 hk6b hs1 hs2 ho1 ho2 hbw6 hwl6 hwd;refine wp_region_E (fun w'=>(w'.cell? ⟨w.heap.size,0,none⟩=some (.int .u32 m.pages)∧w'.cell? ⟨w.heap.size,1,none⟩=some (.slice o1 m.ext.length oc1)∧w'.cell? ⟨w.heap.size,2,none⟩=some (.slice o2 m.ports.length oc2)∧w'.cell? ⟨w.heap.size,3,none⟩=some (.bool m.con))∧w'.cell? ⟨w.heap.size+1,0,none⟩=some (.int .u32 pg)∧w'.cell? ⟨a.cb,2,none⟩=some (.map (some a.mb))) 9 (by kernel_rfl) ?_
 change AnyE _ _ _ _ _ _ _ _ _ w6.drew
 generalize hwe:w6.drew=we at*;refine LT 0 HE.out ?_;refine LT 1 HE.out ?_;refine LT 2 HE.out ?_;refine LT 3 HE.out ?_;refine LT 4 HE.out ?_;refine LT 5 HE.out ?_;refine LT 6 HE.out ?_;refine LT 7 HE.out ?_;refine LU 8 fun K hK=> ?_
 go_simp;refine LV hK (fun _=>(HEA.out _)) ?_;clear hK K;refine LU 9 fun K hK=> ?_
 have hrun:=HRun.out;go_simp;refine hK.out _ _ (fun e=>absurd rfl e) (fun _=> ?_);clear hK K;try simp only[Act.put,Za,Zb,Zc,Zd,Ze,Zf]
 refine E_done (by kernel_rfl) ?_ _;clear hrun;go_wp2
 first
  |exact HEnd.out
  |(go_ret;exact HEnd.out)
theorem grant{w:World}{a:CAt}{hp:Int}{hx:List Int}{G:Int→Option Gr}(h:Cps w a hp G)(hp1:hp≤4096){n pg:Int}(g0:0≤pg)(hh:SlV w 41 1 a.hv hx.length (hx.map (Value.int .u32)))(hl:hx.length≤16){m:Mn}{ev pv:Value}(hm:MnAt w ev pv m)(hok:m.ok):
  Calls Tryz.prog 88 #[.pointer (some ⟨a.cb,0,none⟩),.int .i64 n,.agg (m.cells ev pv),.int .u32 pg] w (GrPost w a hp hx G n m pg):=by
 by_cases q:1≤n∧n≤8∧pg≤4096
 ·exact grant_in h hp1 q.1 q.2.1 g0 q.2.2 hh hl hm hok
 have hb0:Below w.heap.size w (w.alloc (.cells (m.cells ev pv) 48)):=Ba _;have hb1:=hb0.alloc hb0.size (.cells #[.int .u32 pg] 41);have hbk0:((w.alloc (.cells (m.cells ev pv) 48)).alloc (.cells #[.int .u32 pg] 41)).heap[w.heap.size]? =some (.cells (m.cells ev pv) 48):=(Below.heap_alloc _ _ _ (lQ (heap_alloc_new w _))).trans (heap_alloc_new w _);have hbk1:=heap_alloc_new (w.alloc (.cells (m.cells ev pv) 48)) (.cells #[.int .u32 pg] 41);rw[show(w.alloc (.cells (m.cells ev pv) 48)).heap.size=w.heap.size+1 by simp] at hbk1;have HCk:=Lh (Dm.check (hm.below hb1));have HBk:=Lh (And.intro hbk0 hbk1);have HB1:=Lh hb1;have he:grantE hp hx G n m pg=2:=if_pos (by omega);have HF:Hid (∀V,Below w.heap.size w V→GrPost w a hp hx G n m pg (.returned (.int .i64 2)) V):=Lh fun V hV=>.inl ⟨by rw[he];decide,by rw[he],hV⟩
 generalize GrPost w a hp hx G n m pg=PQ at*;obtain⟨c0,c1,c2,c3,cf⟩:=man_cells hbk0;unfold Mn.cells at*;clear hb0 hb1 hbk0 hbk1 he h hh hm hok hl
 by_cases q1:n<1
 ·have hend:=HF.out _ HB1.out;go_enter func88,ntmps88;go_wp2
  first
   |exact hend
   |(go_ret;exact hend)
 by_cases q8:8<n
 ·have hend:=HF.out _ HB1.out;go_enter func88,ntmps88;go_wp2
  first
   |exact hend
   |(go_ret;exact hend)
 have qp:4096<pg:=by omega
 clear q;go_enter func88,ntmps88;go_wp2_with fail;refine HCk.out.mono ?_;rintro e w2 ⟨rfl,hb2⟩;have hend:=HF.out _ (bQ HB1.out hb2);have q1':=(hb2.block _ (lQ HBk.out.2)).trans HBk.out.2;have c4:w2.cell? ⟨w.heap.size+1,0,none⟩=some (.int .u32 pg):=by unfold World.cell?;rw[q1'];rfl
 clear hb2 q1' c0 c1 c2 c3 cf;obtain⟨ce,hce⟩:∃ce,Gp.checkE m=ce:=⟨_,rfl⟩;rw[hce];clear hce
 by_cases e0:ce=0
 ·subst e0;go_wp2
  first
   |exact hend
   |(go_ret;exact hend)
 ·have hne:(ce != 0)=true:=bne_iff_ne.2 e0;go_wp2
  first
   |exact hend
   |(go_ret;exact hend)
end Ca
theorem KStep.grant{w w':World}{a:KAt}{K:Kn}(h:Knl w a K){n:Int}{g:Gr}{gb:Nat}{ev pv:Value}(hc:Cps w' (a.c.put n gb ev pv) K.hp (Gp.upd K.g n (some g)))(hm:Mod (fun k=>k=a.c.mb) w w')(hg:w.heap.size≤gb∧gb<w'.heap.size)(hv:∀k,ev.ownBlock=some k∨pv.ownBlock=some k→w.heap.size≤k∧k<w'.heap.size∧k≠gb):
  ∃a',KStep w w' a K a' {K with g:=Gp.upd K.g n (some g)}:=by
 have hz:=hm.size;have hmb:a.tag a.c.mb=2:=h.t2 _ (.inr (.inl rfl));have ne:∀k,a.tag k≠2→¬k=a.c.mb:=fun k hk e=>hk (e▸hmb)
 obtain⟨T,hT⟩:∃T:Nat→Nat,T=fun k=>if k<w.heap.size then a.tag k else if k=gb then 2 else if k<w'.heap.size then 5 else 0:=⟨_,rfl⟩
 have To:∀k,k<w.heap.size→T k=a.tag k:=fun k hk=>by rw[hT];exact if_pos hk
 have Ta:∀k,a.tag k≠0→T k=a.tag k:=fun k hk=>To k (h.lt k hk)
 have Tg:T gb=2:=by
  rw[hT]
  show(if gb<w.heap.size then _ else _)=2
  rw[if_neg (by omega),if_pos rfl]
 have Tv:∀k,ev.ownBlock=some k∨pv.ownBlock=some k→T k=5:=fun k hk=>by
  have:=hv k hk;rw[hT]
  show(if k<w.heap.size then _ else _)=5
  rw[if_neg (by omega),if_neg (by omega),if_pos this.2.1]
 have hsm:∀k,(Gp.upd K.g n (some g) k).isSome=true→k=n∨k≠n∧(K.g k).isSome=true:=fun k hk=>by
  by_cases e:k=n
  ·exact .inl e
  ·rw[Gp.upd_ne _ _ e] at hk;exact .inr ⟨e,hk⟩
 refine⟨{a with c:=a.c.put n gb ev pv,tag:=T}, ?_⟩;exact⟨{
      head:=(hm.block _ (lQ h.head) (ne _ (by rw[h.t1];decide))).trans h.head
      hx:=SlV.mod h.hx hm fun k hk=>ne k (by rw[h.t5 k (.inl hk)];decide)
      chx:=SlV.mod h.chx hm fun k hk=>ne k (by rw[h.t5 k (.inr (.inl hk))];decide)
      caps:=hc
      nic:=KStep.nic_fit (h.nic.keep hm fun k (hk:a.tag k=3)=>ne k (by rw[hk];decide)) fun k (hk:a.tag k=3) _=>(Ta k (by rw[hk];decide)).trans hk
      len:=h.len
      outer:=h.outer.mod hm fun k hk=>ne k (by rw[h.t4 k hk];decide)
      inner:=fun i v l hv hl=>(h.inner i v l hv hl).mod hm fun k hk=>ne k (by rw[h.t6 i v k hv hk];omega)
      ok:=⟨h.ok.n0,h.ok.n1,h.ok.bs,h.ok.q,h.ok.hl,h.ok.g0⟩
      t1:=(Ta _ (by rw[h.t1];decide)).trans h.t1
      t2:=fun k hk=>by
       rcases hk with e|e|⟨x,hx,e⟩
       ·have:=h.t2 k (.inl e);exact(Ta k (by rw[this];decide)).trans this
       ·have:=h.t2 k (.inr (.inl e));exact(Ta k (by rw[this];decide)).trans this
       ·rcases hsm x hx with rfl|⟨q,q'⟩
        ·have e:k=(a.c.put x gb ev pv).gb x:=e;rw[(a.c.put_at x gb ev pv).1] at e;rw[e];exact Tg
        ·have e:k=(a.c.put n gb ev pv).gb x:=e;rw[(a.c.put_ne gb ev pv q).1] at e;have:=h.t2 k (.inr (.inr ⟨x,q',e⟩));exact(Ta k (by rw[this];decide)).trans this
      t4:=fun k hk=>(Ta k (by rw[h.t4 k hk];decide)).trans (h.t4 k hk)
      t5:=fun k hk=>by
       rcases hk with e|e|e
       ·have:=h.t5 k (.inl e);exact(Ta k (by rw[this];decide)).trans this
       ·have:=h.t5 k (.inr (.inl e));exact(Ta k (by rw[this];decide)).trans this
       ·obtain⟨x,hx,e⟩:=e;rcases hsm x hx with rfl|⟨q,q'⟩
        ·have e:((a.c.put x gb ev pv).ev x).ownBlock=some k∨((a.c.put x gb ev pv).pv x).ownBlock=some k:=e;rw[(a.c.put_at x gb ev pv).2.1,(a.c.put_at x gb ev pv).2.2] at e;exact Tv k e
        ·have e:((a.c.put n gb ev pv).ev x).ownBlock=some k∨((a.c.put n gb ev pv).pv x).ownBlock=some k:=e;rw[(a.c.put_ne gb ev pv q).2.1,(a.c.put_ne gb ev pv q).2.2] at e;have:=h.t5 k (.inr (.inr ⟨x,q',e⟩));exact(Ta k (by rw[this];decide)).trans this
      t6:=fun i v k hv hk=>(Ta k (by rw[h.t6 i v k hv hk];omega)).trans (h.t6 i v k hv hk)
      lt:=fun k hk=>by
       have hk:T k≠0:=hk;rcases Nat.lt_or_ge k w.heap.size with g|g
       ·omega
       ·rw[hT] at hk;have hk:(if k<w.heap.size then a.tag k else if k=gb then 2 else if k<w'.heap.size then 5 else 0)≠0:=hk;rw[if_neg (by omega)] at hk
        split at hk
        ·omega
        ·split at hk
         ·assumption
         ·exact absurd rfl hk},⟨rfl,rfl,rfl⟩,hm.mono fun i _ g=>by subst g;exact⟨by rw[hmb];decide,by rw[hmb];decide⟩,To⟩
def KGrPost(w:World)(a:KAt)(K:Kn)(n:Int)(m:Mn)(pg:Int)(e:Ending)(w':World):Prop:=
 (Ca.grantE K.hp K.hx K.g n m pg≠0∧e=.returned (.int .i64 (Ca.grantE K.hp K.hx K.g n m pg))∧Below w.heap.size w w')∨
 (Ca.grantE K.hp K.hx K.g n m pg=0∧e=.returned (.int .i64 0)∧∃a',KStep w w' a K a' {K with g:=Gp.upd K.g n (some ⟨m,pg,0⟩)})
theorem Kl.grant{w:World}{a:KAt}{K:Kn}(h:Knl w a K)(hp1:K.hp≤4096)(hl:K.hx.length≤16){n pg:Int}(g0:0≤pg){m:Mn}{ev pv:Value}(hm:MnAt w ev pv m)(hok:m.ok):
  Calls Tryz.prog 88 #[.pointer (some ⟨a.c.cb,0,none⟩),.int .i64 n,.agg (m.cells ev pv),.int .u32 pg] w (KGrPost w a K n m pg):=by
 refine(Ca.grant h.caps hp1 g0 h.chx hl hm hok).mono ?_;rintro e w' (g|⟨g2,g3,gb,ev,pv,g4,g5,g6,g7⟩)
 ·exact .inl g
 ·exact .inr ⟨g2,g3,KStep.grant h g4 g5 g6 g7⟩
structure RwV(w:World)(s:Nat)(v:Value)(n:Nat)(xs:List Value):Prop where
 ln:xs.length=n*s
 fm:∃o c,v=.slice o n c∧Cl.At w o xs
 mx:n≤maxLen
namespace RwV
variable {w w':World} {s n:Nat} {v:Value} {xs:List Value}
theorem form(h:RwV w s v n xs):∃o c,v=.slice o n c:=by
 obtain⟨o,c,e,_⟩:=h.fm;exact⟨o,c,e⟩
theorem below(h:RwV w s v n xs)(hb:Below w.heap.size w w'):RwV w' s v n xs:=by
 obtain⟨o,c,e,ha⟩:=h.fm;exact⟨h.ln,⟨o,c,e,ha.below hb⟩,h.mx⟩
theorem mod{F:Nat→Prop}(h:RwV w s v n xs)(hm:Mod F w w')(hF:∀k,n≠0→v.ownBlock=some k→¬F k):RwV w' s v n xs:=by
 obtain⟨o,c,e,ha⟩:=h.fm;refine⟨h.ln,⟨o,c,e,fun j u hu=> ?_⟩,h.mx⟩;obtain⟨g,off,rfl,hc⟩:=ha j u hu;have hg:g<w.heap.size:=by
  unfold World.cell? at hc;cases hq:w.heap[g]? with
  |none=>simp[hq] at hc
  |some o=>exact lQ hq
 refine⟨g,off,rfl, ?_⟩;rw[World.cell?_of_block (a:=⟨g,off+j,none⟩) (w:=w) (hm.block g hg (hF g (fun h0=>by
  have hl:=h.ln;rw[h0,Nat.zero_mul] at hl;have:=(List.getElem?_eq_some_iff.1 hu).1;omega) (by rw[e];rfl)))]
 exact hc
end RwV
theorem rw_at{w:World}{s n oc:Nat}{o:Option Addr}{xs:List Value}(h:RwV w s (.slice o n oc) n xs):Cl.At w o xs:=by
 obtain⟨o',c,e,ha⟩:=h.fm;simp only[Value.slice.injEq,true_and] at e;rw[e.1];exact ha
theorem rw_len{w:World}{s n:Nat}{v:Value}{xs:List Value}(h:RwV w s v n xs):n≤maxLen:=h.mx
theorem ext_cellsR{w:World}{ao:Option Addr}{ac:Nat}{l:List (Int×Int)}(h:RwV w 2 (.slice ao l.length ac) l.length (extC l)){i:Nat}{x:Int×Int}(hx:l[i]? =some x):∃g off,ao=some ⟨g,off,none⟩∧w.cell? ⟨g,off+i*2,none⟩=some (.int .u32 x.1)∧w.cell? ⟨g,off+i*2+1,none⟩=some (.int .u32 x.2):=by
 obtain⟨e1,e2⟩:=extC_at l i x hx;obtain⟨g,off,rfl,h1⟩:=rw_at h _ _ e1;obtain⟨g',off',hgo,h2⟩:=rw_at h _ _ e2;cases hgo;exact⟨g,off,rfl,h1,h2⟩
theorem u16_cellR{w:World}{ao:Option Addr}{ac:Nat}{l:List Int}(h:RwV w 1 (.slice ao l.length ac) l.length (l.map (Value.int .u16))){i:Nat}{x:Int}(hx:l[i]? =some x):∃g off,ao=some ⟨g,off,none⟩∧w.cell? ⟨g,off+i,none⟩=some (.int .u16 x):=
 rw_at h i _ (by rw[List.getElem?_map,hx];rfl)
theorem u32_cellR{w:World}{ao:Option Addr}{ac:Nat}{l:List Int}(h:RwV w 1 (.slice ao l.length ac) l.length (l.map (Value.int .u32))){i:Nat}{x:Int}(hx:l[i]? =some x):∃g off,ao=some ⟨g,off,none⟩∧w.cell? ⟨g,off+i,none⟩=some (.int .u32 x):=
 rw_at h i _ (by rw[List.getElem?_map,hx];rfl)
structure MnIn(w:World)(ev pv:Value)(m:Mn):Prop where
 e:RwV w 2 ev m.ext.length (extC m.ext)
 p:RwV w 1 pv m.ports.length (m.ports.map (Value.int .u16))
theorem MnIn.below{w w':World}{ev pv:Value}{m:Mn}(h:MnIn w ev pv m)(hb:Below w.heap.size w w'):MnIn w' ev pv m:=⟨h.e.below hb,h.p.below hb⟩
open Go.RowKit Word
structure Duo(w0 w:World)(cb sb mb:Nat)(A:List Pg)(rc:List Int)(pcc:Int)(db rb:Nat)(lv:Value)(R:List Rp)(rd:List Int)(pcd:Int):Prop where
 cp:Cpu 326 w cb rc pcc
 dp:Cpu 199 w db rd pcd
 pair:Pair w sb mb A rb lv R
 bel:Below w0.heap.size w0 w
 c0:w0.heap.size≤cb
 d0:w0.heap.size≤db
 a0:∀k,Spc.foot sb mb A k→w0.heap.size≤k
 r0:∀k,Rsp.foot rb lv R k→w0.heap.size≤k
 cd:cb≠db
 ca:¬Spc.foot sb mb A cb
 cr:¬Rsp.foot rb lv R cb
 da:¬Spc.foot sb mb A db
 dr:¬Rsp.foot rb lv R db
namespace Duo
variable {w0 w w':World} {cb sb mb:Nat} {A A':List Pg} {rc rc':List Int} {pcc pcc':Int} {db rb:Nat} {lv lv':Value} {R R':List Rp} {rd rd':List Int} {pcd pcd':Int}
theorem below(h:Duo w0 w cb sb mb A rc pcc db rb lv R rd pcd)(hb:Below w.heap.size w w'):Duo w0 w' cb sb mb A rc pcc db rb lv R rd pcd:=
 {h with cp:=h.cp.below hb,dp:=h.dp.below hb,pair:=h.pair.below hb,bel:=h.bel.trans (hb.mono h.bel.size)}
theorem setC(h:Duo w0 w cb sb mb A rc pcc db rb lv R rd pcd)(hc:Cpu 326 w' cb rc' pcc')(hm:Mod (fun k=>k=cb) w w'):Duo w0 w' cb sb mb A rc' pcc' db rb lv R rd pcd:=
 {h with
      cp:=hc,dp:=h.dp.keep hm (fun g=>h.cd g.symm),pair:=⟨h.pair.sp.keep hm (fun k hk g=>h.ca (g▸hk)),h.pair.rp.keep hm (fun k hk g=>h.cr (g▸hk)),h.pair.apart⟩,
      bel:=hm.below h.bel h.bel.size (fun i _ hi=>hi▸h.c0)}
theorem setD(h:Duo w0 w cb sb mb A rc pcc db rb lv R rd pcd)(hd:Cpu 199 w' db rd' pcd')(hm:Mod (fun k=>k=db) w w'):Duo w0 w' cb sb mb A rc pcc db rb lv R rd' pcd':=
 {h with
      cp:=h.cp.keep hm h.cd,dp:=hd,pair:=⟨h.pair.sp.keep hm (fun k hk g=>h.da (g▸hk)),h.pair.rp.keep hm (fun k hk g=>h.dr (g▸hk)),h.pair.apart⟩,
      bel:=hm.below h.bel h.bel.size (fun i _ hi=>hi▸h.d0)}
theorem left(h:Duo w0 w cb sb mb A rc pcc db rb lv R rd pcd)(s:SStep w w' sb mb A A'):Duo w0 w' cb sb mb A' rc pcc db rb lv R rd pcd:=
 {h with
      cp:=h.cp.keep s.mod h.ca,dp:=h.dp.keep s.mod h.da,pair:=h.pair.left s,bel:=s.mod.below h.bel h.bel.size (fun i _ hi=>h.a0 i hi),
      a0:=fun k hk=>(s.foot k hk).elim (h.a0 k) fun g=>Nat.le_trans h.bel.size g,
      ca:=fun g=>(s.foot _ g).elim h.ca fun g=>by have:=h.cp.lt;omega,
      da:=fun g=>(s.foot _ g).elim h.da fun g=>by have:=h.dp.lt;omega}
theorem right(h:Duo w0 w cb sb mb A rc pcc db rb lv R rd pcd)(s:RStep w w' rb lv R lv' R'):Duo w0 w' cb sb mb A rc pcc db rb lv' R' rd pcd:=
 {h with
      cp:=h.cp.keep s.mod h.cr,dp:=h.dp.keep s.mod h.dr,pair:=h.pair.right s,bel:=s.mod.below h.bel h.bel.size (fun i _ hi=>h.r0 i hi),
      r0:=fun k hk=>(s.foot k hk).elim (h.r0 k) fun g=>Nat.le_trans h.bel.size g,
      cr:=fun g=>(s.foot _ g).elim h.cr fun g=>by have:=h.cp.lt;omega,
      dr:=fun g=>(s.foot _ g).elim h.dr fun g=>by have:=h.dp.lt;omega}
theorem weaken{w00:World}(h:Duo w0 w cb sb mb A rc pcc db rb lv R rd pcd)(hb:Below w00.heap.size w00 w0):Duo w00 w cb sb mb A rc pcc db rb lv R rd pcd:=
 {h with bel:=hb.trans (h.bel.mono hb.size),c0:=Nat.le_trans hb.size h.c0,d0:=Nat.le_trans hb.size h.d0,a0:=fun k hk=>Nat.le_trans hb.size (h.a0 k hk),r0:=fun k hk=>Nat.le_trans hb.size (h.r0 k hk)}
end Duo
namespace Cp
def regsK(xs:Nat→Int)(k:Nat):List Int:=(List.range 16).map fun i=>if 0<i∧i<k then xs i else 0
theorem regsK_zero(xs:Nat→Int):regsK xs 0=List.replicate 16 0:=rfl
theorem regsK_succ(xs:Nat→Int)(k:Nat)(hk:k<16):putG (regsK xs k) k (xs k)=regsK xs (k+1):=by
 by_cases h0:k=0
 ·subst h0;rfl
 ·rw[putG_nat _ _ _ h0]
  apply List.ext_getElem?
  intro n;unfold regsK
  by_cases hn:n<16
  ·rw[List.getElem?_set];simp only[List.length_map,List.length_range,List.getElem?_map,List.getElem?_range hn,Option.map_some]
   by_cases e:k=n
   ·subst e;rw[if_pos rfl,if_pos hk,if_pos (by omega)]
   ·rw[if_neg e]
    by_cases g:0<n∧n<k
    ·rw[if_pos g,if_pos (by omega)]
    ·rw[if_neg g,if_neg (by omega)]
  ·rw[List.getElem?_eq_none (by simp;omega),List.getElem?_eq_none (by simp;omega)]
def pgsK(ps:Nat→Int):Nat→List Pg
 |0=>[]
 |k+1=>if ps k<8 then Sp.mapA (pgsK ps k) (k*256) 0 (ps k) else pgsK ps k
theorem pgsK_addr(ps:Nat→Int):∀(k:Nat) (p:Pg),p∈pgsK ps k→p.addr<k*256∧p.addr % 256=0
 |0,p,h=>by cases h
 |k+1,p,h=>by
  unfold pgsK at h
  split at h
  ·unfold Sp.mapA at h
   split at h
   ·rcases mem_insPg.1 h with rfl|g
    ·show((k:Int)*256)<((k+1:Nat):Int)*256∧((k:Int)*256) % 256=0
     omega
    ·have:=pgsK_addr ps k p g;omega
   ·have:=pgsK_addr ps k p h;omega
  ·have:=pgsK_addr ps k p h;omega
theorem pgsK_free(ps:Nat→Int)(k:Nat)(hk:k≤16)(h0:0≤ps k)(h8:ps k<8):Sp.mapE (pgsK ps k) (k*256) (ps k)=0:=by
 have hm:Sp.mayB ((k:Int)*256)=true:=by unfold Sp.mayB;rw[Bool.and_eq_true];exact⟨beq_iff_eq.2 (by omega),decide_eq_true (by omega)⟩
 have hn:pageAt (pgsK ps k) ((k:Int)*256)=none:=by
  unfold pageAt;rw[show((k:Int)*256) - (k:Int)*256 % 256=(k:Int)*256 by omega];refine atAddr_eq_none fun q hq=> ?_
  have:=pgsK_addr ps k q hq;omega
 unfold Sp.mapE;rw[if_neg (by rw[hm];rintro(g|g);cases g;omega),hn];rfl
def madeA(ps:Nat→Int)(np:Nat)(at':Int)(s:ByteArray)(wh:Int)(t:ByteArray):List Pg:=Sp.putA (Sp.putA (pgsK ps np) (at' % 4096) 0 s) (wh % 4096) 0 t
end Cp
end Go.Proofs.YtehihecknhcggaaGreat
namespace Go.Proofs.YtehihecknhcggaaGreat.WordRef
open Go.RowKit Word
theorem info_u8:(Tryz.prog.info? 5).map (fun i=>(i.zero,i.size,i.bytes))=some (some (.int .u8 0),1,1):=by kernel_rfl
theorem putL_next(v:Int)(k:Nat)(h0:0≤v)(h1:v≤4294967295)(hk:k<4):(putL v).take (k+1)=(putL v).take k++[v / 256 ^ k % 256]:=by
 have:k=0∨k=1∨k=2∨k=3:=by omega
 rcases this with rfl|rfl|rfl|rfl
 ·simp[putL]
 ·simp[putL]
 ·simp[putL]
 ·simp[putL];omega
theorem div256(v:Int)(k:Nat):v / 256 ^ k / 256=v / 256 ^ (k+1):=by
 rw[Int.ediv_ediv_of_nonneg (Int.le_of_lt (Int.pow_pos (by omega))),Int.pow_succ]
theorem putL_len(v:Int)(k:Nat)(hk:k≤4):((putL v).take k).length=k:=by rw[List.length_take];simp[putL];omega
def bytesRel(v:Int)(n:Nat)(W:World)(sv sb si:Value)(wr:World):Prop:=
 ∃(k:Nat) (x:Int),k≤n∧si=.int .i64 k∧sv=.int .u32 x∧0≤x∧x≤4294967295∧x=v / 256 ^ k∧Buf wr W.heap.size 5 sb ((putL v).take k)∧Below W.heap.size W wr
theorem Bytes(v:Int)(n:Nat)(hn:n≤4)(h0:0≤v)(h1:v≤4294967295)(w:World):
  Calls Tryz.prog 307 #[.int .u32 v,.int .i64 n] w fun e w'=>e=.returned (.string (putS v n))∧Below w.heap.size w w':=by
 obtain⟨i0,hi,hz0,hz1,hz2⟩:=info_parts info_u8;have Hi:=Lh hi;have Hz0:=Lh hz0;have Hz1:=Lh hz1;have Hz2:=Lh hz2;clear hi hz0 hz1 hz2;go_enter func307,ntmps307;go_wp2;go_loopw [0,5,6] (fun sv sb si wr=>bytesRel v n w sv sb si wr) (fun _ _ i _=>n - (intOf i).toNat)
 case atStart=>exact⟨0,v,by omega,rfl,rfl,h0,h1,by simp,Buf.nil _ _ _,Below.refl _ _⟩
 case round=>
  obtain⟨k,x,hk,rfl,rfl,x0,x1,hx,hbuf,hbel⟩:=hrel;obtain⟨L,hL⟩:∃L,(putL v).take k=L:=⟨_,rfl⟩;rw[hL] at hbuf;have Ho:=Lh hbuf;have Hb:=Lh hbel;have hbase:=hbel.size
  by_cases hk2:k<n
  ·have Hx:=Lh hx;have Hn:=Lh (putL_next v k h0 h1 (by omega));have Hl:=Lh (show L.length=k by rw[←hL];exact putL_len v k (by omega));have HL:=Lh hL;clear hx hbuf hbel hL;go_wp2_with (at_builtin;refine wpList_append_lies _ (by rfl) _ _ _ (by rfl) (w.heap.size) 5 i0 (.int .u8 0) 1 1 Tryz.underlying85 Hi.out Hz0.out Hz1.out Hz2.out rfl (by omega) u5 _ _ (by rfl) (World.ownsRow.alloc Ho.out _) ⟨wr.heap.size,0,none⟩ 1 1 [.int .u8 (x % 256)] (by rfl) (by rfl) (World.news_of_block (cs:= #[.int .u8 (x % 256)]) (t:=5) (fr:=(0,0)) (heap_alloc_new wr _)) (fun x hx=>by simp at hx;subst hx;rfl) (by omega) (by rw[Hl.out];unfold maxLen;omega) (by rw[Hl.out];omega) (by simp;omega) (wr.heap.size+1) (by simp) ?_;intro gg cap' w' hown' hgro hat hlt);refine⟨⟨k+1,x / 256,by omega,by go_num,rfl,by omega,by omega,by rw[Hx.out];exact div256 v k, ?_, ?_⟩,by simp[intOf];omega⟩
   ·rw[Hn.out,←Hx.out,HL.out];exact Buf.app hown'
   ·exact(Hb.out.alloc hbase _).grown hgro (by simp;omega) (fun k hk=>Buf.lt Ho.out k hk)
  ·obtain rfl:k=n:=by omega
   have hcs:=Buf.string (P:=Tryz.prog) Ho.out 85 9 Tryz.underlying85 Tryz.underlying5 Tryz.underlying9;have HL:=Lh hL;clear hx hbuf hbel hL;go_wp2;go_ret;exact⟨ret_str (by rw[←HL.out];rfl),Hb.out⟩
end Go.Proofs.YtehihecknhcggaaGreat.WordRef
namespace Go.Proofs.YtehihecknhcggaaGreat.Ins
open Go.RowKit Word
def rowV(op:Int):Value:=if usesV op=0 then .agg #[.bool true,.bool true,.bool true,.bool false] else .agg #[.bool (hasV op 1),.bool (hasV op 2),.bool (hasV op 4),.bool (hasV op 8)]
def isV(op:Int):Bool:=usesV op != 0
def UsesPost(op:Int)(w:World)(e:Ending)(w':World):Prop:=e=.returned (.tuple #[rowV op,.bool (isV op)])∧Below w.heap.size w w'
theorem uses_mk{op:Int}{w w':World}{a b c d i:Bool}(h:Value.agg #[.bool a,.bool b,.bool c,.bool d]=rowV op)(hi:i=isV op)(hb:Below w.heap.size w w'):UsesPost op w (.returned (.tuple #[.agg #[.bool a,.bool b,.bool c,.bool d],.bool i])) w':=⟨by rw[h,hi],hb⟩
theorem row_low{op:Int}(h:1≤op∧op≤14):rowV op=.agg #[.bool true,.bool true,.bool true,.bool false]∧isV op=true:=by
 have:usesV op=7:=by unfold usesV;rw[if_pos h]
 unfold rowV isV hasV;rw[this];exact⟨rfl,rfl⟩
theorem uses_at(op:Int)(h:op=17∨op=19∨op=22∨op=23∨op=24∨op=25∨op=26∨op=29∨op=30∨op=33∨op=34∨op=32∨op=41∨op=35∨op=36∨op=43∨op=44∨op=45∨op=46∨op=40∨op=50∨op=42)(w:World):
  Calls Tryz.prog 362 #[.int .u8 op] w (UsesPost op w):=by
 have HF:Hid (∀(a b c d i:Bool) w',Value.agg #[.bool a,.bool b,.bool c,.bool d]=rowV op→i=isV op→Below w.heap.size w w'→UsesPost op w (.returned (.tuple #[.agg #[.bool a,.bool b,.bool c,.bool d],.bool i])) w'):=Lh fun a b c d i w' h1 h2 h3=>uses_mk h1 h2 h3
 generalize hP:UsesPost op w=PQ at*;clear hP;rcases h with rfl|rfl|rfl|rfl|rfl|rfl|rfl|rfl|rfl|rfl|rfl|rfl|rfl|rfl|rfl|rfl|rfl|rfl|rfl|rfl|rfl|rfl
 all_goals
  go_enter func362,ntmps362;go_wp2
  first
   |exact bodyPost_ret (v:=.tuple #[.agg #[.bool true,.bool true,.bool false,.bool true],.bool true]) (by simp[results,Tryz.results362,go_sem];done) rfl (HF.out _ _ _ _ _ _ rfl rfl (Ba _))
   |exact bodyPost_ret (v:=.tuple #[.agg #[.bool true,.bool false,.bool false,.bool true],.bool true]) (by simp[results,Tryz.results362,go_sem];done) rfl (HF.out _ _ _ _ _ _ rfl rfl (Ba _))
   |exact bodyPost_ret (v:=.tuple #[.agg #[.bool false,.bool true,.bool true,.bool true],.bool true]) (by simp[results,Tryz.results362,go_sem];done) rfl (HF.out _ _ _ _ _ _ rfl rfl (Ba _))
   |exact bodyPost_ret (v:=.tuple #[.agg #[.bool false,.bool false,.bool false,.bool true],.bool true]) (by simp[results,Tryz.results362,go_sem];done) rfl (HF.out _ _ _ _ _ _ rfl rfl (Ba _))
   |exact bodyPost_ret (v:=.tuple #[.agg #[.bool false,.bool true,.bool false,.bool false],.bool true]) (by simp[results,Tryz.results362,go_sem];done) rfl (HF.out _ _ _ _ _ _ rfl rfl (Ba _))
theorem uses_else(op:Int)(o0:0≤op)(o1:op≤255)(h:¬(op=17∨op=19∨op=22∨op=23∨op=24∨op=25∨op=26∨op=29∨op=30∨op=33∨op=34∨op=32∨op=41∨op=35∨op=36∨op=43∨op=44∨op=45∨op=46∨op=40∨op=50∨op=42))(w:World):
  Calls Tryz.prog 362 #[.int .u8 op] w (UsesPost op w):=by
 have HF:Hid (∀(a b c d i:Bool) w',Value.agg #[.bool a,.bool b,.bool c,.bool d]=rowV op→i=isV op→Below w.heap.size w w'→UsesPost op w (.returned (.tuple #[.agg #[.bool a,.bool b,.bool c,.bool d],.bool i])) w'):=Lh fun a b c d i w' h1 h2 h3=>uses_mk h1 h2 h3
 generalize hP:UsesPost op w=PQ at*;clear hP;have f:∀k:Int,¬op=k→(op == k)=false:=fun k hk=>by simpa using hk
 have f17:=f 17 (by omega);have f19:=f 19 (by omega);have f22:=f 22 (by omega);have f23:=f 23 (by omega);have f24:=f 24 (by omega);have f25:=f 25 (by omega);have f26:=f 26 (by omega);have f29:=f 29 (by omega);have f30:=f 30 (by omega);have f33:=f 33 (by omega);have f34:=f 34 (by omega);have f32:=f 32 (by omega);have f41:=f 41 (by omega);have f35:=f 35 (by omega);have f36:=f 36 (by omega);have f43:=f 43 (by omega);have f44:=f 44 (by omega);have f45:=f 45 (by omega);have f46:=f 46 (by omega);have f40:=f 40 (by omega);have f50:=f 50 (by omega);have f42:=f 42 (by omega);have Hr:Hid (rowV op=.agg #[.bool true,.bool true,.bool true,.bool false]∧isV op=(decide (1≤op)&&decide (op≤14))):=Lh (by
  by_cases g:1≤op∧op≤14
  ·rw[(row_low g).1,(row_low g).2,decide_eq_true g.1,decide_eq_true g.2];exact⟨rfl,rfl⟩
  ·have:usesV op=0:=by unfold usesV;rw[if_neg g,if_neg (by omega),if_neg (by omega),if_neg (by omega),if_neg (by omega),if_neg (by omega)]
   unfold rowV isV;rw[this,if_pos rfl];refine⟨rfl, ?_⟩
   by_cases g1:1≤op
   ·rw[decide_eq_true g1,decide_eq_false (by omega)];rfl
   ·rw[decide_eq_false g1];rfl)
 clear f h;cases g1:decide (1≤op) with
 |false=>
  go_enter func362,ntmps362;go_wp2;exact bodyPost_ret (v:=.tuple #[.agg #[.bool true,.bool true,.bool true,.bool false],.bool false]) (by simp[results,Tryz.results362,go_sem];done) rfl (HF.out _ _ _ _ _ _ Hr.out.1.symm (by rw[Hr.out.2,g1];rfl) (Ba _))
 |true=>
  cases g2:decide (op≤14) with
  |false=>
   go_enter func362,ntmps362;go_wp2;exact bodyPost_ret (v:=.tuple #[.agg #[.bool true,.bool true,.bool true,.bool false],.bool false]) (by simp[results,Tryz.results362,go_sem];done) rfl (HF.out _ _ _ _ _ _ Hr.out.1.symm (by rw[Hr.out.2,g1,g2];rfl) (Ba _))
  |true=>
   go_enter func362,ntmps362;go_wp2;exact bodyPost_ret (v:=.tuple #[.agg #[.bool true,.bool true,.bool true,.bool false],.bool true]) (by simp[results,Tryz.results362,go_sem];done) rfl (HF.out _ _ _ _ _ _ Hr.out.1.symm (by rw[Hr.out.2,g1,g2];rfl) (Ba _))
theorem uses(op:Int)(o0:0≤op)(o1:op≤255)(w:World):Calls Tryz.prog 362 #[.int .u8 op] w (UsesPost op w):=
 if h:_ then uses_at op h w else uses_else op o0 o1 h w
theorem register(n:Int)(u:Bool)(n0:0≤n)(n1:n≤255)(w:World):Calls Tryz.prog 363 #[.int .u8 n,.bool u] w fun e w'=>e=.returned (.bool (fitV n u))∧w=w':=by
 unfold fitV;cases hn:(n == 0)<;>cases u
 all_goals
  go_enter func363,ntmps363;go_wp2;go_ret;exact⟨rfl,rfl⟩
end Go.Proofs.YtehihecknhcggaaGreat.Ins
namespace Go.Proofs.YtehihecknhcggaaGreat.Ins
open Go.RowKit Word
theorem cells5''(w:World)(a b c d e:Value)(t:TypeId)(i:Nat):(w.alloc (.cells #[a,b,c,d,e] t)).cell? ⟨w.heap.size,0+i,none⟩=[a,b,c,d,e][i]? :=by
 rw[World.cell?_alloc_mark];simp
theorem may(x:Ins)(hx:x.ok)(w:World):Calls Tryz.prog 306 #[x.val] w fun e w'=>e=.returned (.bool (mayV x))∧Below w.heap.size w w':=by
 obtain⟨op,d,a,b,imm⟩:=x;obtain⟨o0,o1,d0,d1,a0,a1,b0,b1,i0,i1⟩:=hx;simp only at o0 o1 d0 d1 a0 a1 b0 b1 i0 i1;have hE:mayV ⟨op,d,a,b,imm⟩=(isV op&&fitV d (hasV op 1)&&fitV a (hasV op 2)&&fitV b (hasV op 4)&&(hasV op 8||imm == 0)):=rfl;have hu:=uses op o0 o1;have hrow:isV op=true→rowV op=.agg #[.bool (hasV op 1),.bool (hasV op 2),.bool (hasV op 4),.bool (hasV op 8)]:=fun h=>by
  unfold rowV;unfold isV at h;rw[if_neg (by simpa using h)]
 have hrow0:isV op=false→rowV op=.agg #[.bool true,.bool true,.bool true,.bool false]:=fun h=>by
  unfold rowV;unfold isV at h;rw[if_pos (by simpa using h)]
 generalize mayV ⟨op,d,a,b,imm⟩=E at*;have HE:=Lh hE;have HU:Hid (∀w0,Calls Tryz.prog 362 #[.int .u8 op] w0 fun e w'=>e=.returned (.tuple #[rowV op,.bool (isV op)])∧Below w0.heap.size w0 w'):=Lh fun w0=>hu w0
 generalize isV op=is at*;generalize rowV op=row at*;have H1:=Lh (register d (hasV op 1) d0 d1);have H2:=Lh (register a (hasV op 2) a0 a1);have H3:=Lh (register b (hasV op 4) b0 b1);have hbW:Below w.heap.size w (w.alloc (.cells #[.int .u8 op,.int .u8 d,.int .u8 a,.int .u8 b,.int .u32 imm] 153)):=Ba _;have HB:=Lh hbW;have HX:Hid (∀w1,Below (w.heap.size+1) (w.alloc (.cells #[.int .u8 op,.int .u8 d,.int .u8 a,.int .u8 b,.int .u32 imm] 153)) w1→w1.cell? ⟨w.heap.size,1,none⟩=some (.int .u8 d)∧w1.cell? ⟨w.heap.size,2,none⟩=some (.int .u8 a)∧w1.cell? ⟨w.heap.size,3,none⟩=some (.int .u8 b)∧w1.cell? ⟨w.heap.size,4,none⟩=some (.int .u32 imm)):=Lh fun w1 hb=>by
  have hcs:=cells5'' w (.int .u8 op) (.int .u8 d) (.int .u8 a) (.int .u8 b) (.int .u32 imm) 153;have e:∀j,w1.cell? ⟨w.heap.size,j,none⟩=(w.alloc (.cells #[.int .u8 op,.int .u8 d,.int .u8 a,.int .u8 b,.int .u32 imm] 153)).cell? ⟨w.heap.size,j,none⟩:=fun j=>World.cell?_of_block (hb.block _ (by simp only;omega))
  exact⟨(e 1).trans (hcs 1),(e 2).trans (hcs 2),(e 3).trans (hcs 3),(e 4).trans (hcs 4)⟩
 have hmf:=hasV op 1;generalize hasV op 1=f1 at*;generalize hasV op 2=f2 at*;generalize hasV op 4=f4 at*;generalize hasV op 8=f8 at*;generalize fitV d f1=fd at*;generalize fitV a f2=fa at*;generalize fitV b f4=fb at*;clear hu hE hbW hmf;unfold val;simp only;go_enter func306,ntmps306;go_wp2_with fail;refine(HU.out _).mono ?_;rintro e w1 ⟨rfl,hb1⟩;have hq:=HX.out w1 (by simpa using hb1);have HB1:=Lh (bQ HB.out hb1);have hlt:w.heap.size<w1.heap.size:=by have:=hb1.size;simp at this;omega
 obtain⟨k1,k2,k3,k4⟩:=hq;clear hb1 HX HB HU;have HF:Hid (∀V,Below w1.heap.size w1 V→Below w.heap.size w V):=Lh fun V hV=>bQ HB1.out hV
 cases is with
 |false=>
  rw[hrow0 rfl];clear hrow hrow0;go_wp2;go_ret;exact⟨by rw[HE.out];rfl,HF.out _ (Ba _)⟩
 |true=>
  rw[hrow rfl];clear hrow hrow0;cases fd<;>cases fa<;>cases fb<;>cases f8<;>cases him:(imm == 0)
  all_goals
   go_wp2_with (go_at_call 363;first|((with_reducible refine(H1.out _).mono ?_);rintro e w2 ⟨rfl,rfl⟩)|((with_reducible refine(H2.out _).mono ?_);rintro e w2 ⟨rfl,rfl⟩)|((with_reducible refine(H3.out _).mono ?_);rintro e w2 ⟨rfl,rfl⟩));go_ret;exact⟨by rw[HE.out];first|rfl|(rw[him];rfl),HF.out _ (Ba _)⟩
end Go.Proofs.YtehihecknhcggaaGreat.Ins
namespace Go.Proofs.YtehihecknhcggaaGreat
section
open Go.RowKit
variable {P:Program} {ops:Array Oper} {Q:Exit→Act→World→Prop} {md:Region.Mode} {S:World→Prop} {last:Nat}
theorem E_two{i j:Nat}{oi oj:Oper}{fuel:Nat}{listed:Array Bool}{a:Act}{w:World}(hr:Region.ready md ops listed=[i,j])(hoi:ops[i]? =some oi)(hoj:ops[j]? =some oj)
  (h:∀K':Act→World→Prop,Shut (∀a w,(i≠last→S w)→((i≠last→S w)→AnyE P md ops Q S last fuel (listed.setIfInBounds i true) a w)→K' a w)→if Region.wanted oi (yielded ops a.tmps)=true then Oper.wp P oi a w K' Q else K' (a.put oi.dst undef) w)
  (h2:∀K':Act→World→Prop,Shut (∀a w,(j≠last→S w)→((j≠last→S w)→AnyE P md ops Q S last fuel (listed.setIfInBounds j true) a w)→K' a w)→if Region.wanted oj (yielded ops a.tmps)=true then Oper.wp P oj a w K' Q else K' (a.put oj.dst undef) w):
  AnyE P md ops Q S last (fuel+1) listed a w:=by
 refine⟨fun h0=>(by rw[h0] at hr;cases hr),fun k hk=> ?_⟩;rw[hr,List.mem_cons,List.mem_singleton] at hk;rcases hk with rfl|rfl
 ·exact wpOp_step hoi (fun K' hK=>h K' (fun a w hS hW=>hK a w ⟨hS,hW hS⟩))
 ·exact wpOp_step hoj (fun K' hK=>h2 K' (fun a w hS hW=>hK a w ⟨hS,hW hS⟩))
end
namespace Ins
open Go.RowKit Word
theorem strOfNums_app(xs ys:List Int):strOfNums (xs++ys)=strOfNums xs++strOfNums ys:=by
 apply ByteArray.ext
 apply Array.toList_inj.1
 rw[ByteArray.data_append,Array.toList_append,strOfNums_data,strOfNums_data,strOfNums_data,List.map_append]
theorem u8str(W:World)(g:Nat)(a b c d:Int)(h:W.heap[g]? =some (.cells #[.int .u8 a,.int .u8 b,.int .u8 c,.int .u8 d] 5 (0,0))):
  (convert 85 9 (.slice (some ⟨g,0,none⟩) 4 4)).run Tryz.prog W=.ok (.string (strOfNums [a,b,c,d])) W:=by
 refine run_convert_bytes_arg W 85 5 Tryz.underlying85 Tryz.underlying5 g 0 4 4 [a,b,c,d] rfl (fun i hi=> ?_) 9 Tryz.underlying9;unfold World.cell?;rw[h];have:i=0∨i=1∨i=2∨i=3:=by omega
 rcases this with rfl|rfl|rfl|rfl<;>rfl
theorem encode_yes(x:Ins)(hx:x.ok)(hm:mayV x=true)(w:World):Calls Tryz.prog 243 #[x.val] w fun e w'=>e=.returned (.tuple #[.string (encS x),.int .i64 0])∧Below w.heap.size w w':=by
 have hsm:=may_small hm hx;have hmay:=may x hx;have hS:encS x=strOfNums [x.op,x.d+16*x.a,x.b,0]++putS x.imm 4:=by
  unfold encS;rw[if_pos hm];unfold encL putS;rw[strOfNums_app];rfl
 rw[hS];clear hS;obtain⟨op,d,a,b,imm⟩:=x;obtain⟨o0,o1,d0,d1,a0,a1,b0,b1,i0,i1⟩:=hx;obtain⟨s1,s2,s3,s4,s5,s6⟩:=hsm;simp only at o0 o1 d0 d1 a0 a1 b0 b1 i0 i1 s1 s2 s3 s4 s5 s6;have hw1:IntKind.u8.wrap (16*a)=16*a:=by rw[IntKind.wrap_u8];omega
 have hw2:IntKind.u8.wrap (d+16*a)=d+16*a:=by rw[IntKind.wrap_u8];omega
 have hw3:16*a % 256=16*a:=by omega
 have hw4:(d+16*a) % 256=d+16*a:=by omega
 have hbW:Below w.heap.size w (w.alloc (.cells #[.int .u8 op,.int .u8 d,.int .u8 a,.int .u8 b,.int .u32 imm] 153)):=Ba _;have HB:=Lh hbW;have hcs:=cells5'' w (.int .u8 op) (.int .u8 d) (.int .u8 a) (.int .u8 b) (.int .u32 imm) 153;have HX:Hid (∀w1,Below (w.heap.size+1) (w.alloc (.cells #[.int .u8 op,.int .u8 d,.int .u8 a,.int .u8 b,.int .u32 imm] 153)) w1→w1.cell? ⟨w.heap.size,0,none⟩=some (.int .u8 op)∧w1.cell? ⟨w.heap.size,1,none⟩=some (.int .u8 d)∧w1.cell? ⟨w.heap.size,2,none⟩=some (.int .u8 a)∧w1.cell? ⟨w.heap.size,3,none⟩=some (.int .u8 b)∧w1.cell? ⟨w.heap.size,4,none⟩=some (.int .u32 imm)):=Lh fun w1 hb=>by
  have e:∀j,w1.cell? ⟨w.heap.size,j,none⟩=(w.alloc (.cells #[.int .u8 op,.int .u8 d,.int .u8 a,.int .u8 b,.int .u32 imm] 153)).cell? ⟨w.heap.size,j,none⟩:=fun j=>World.cell?_of_block (hb.block _ (by simp only;omega))
  exact⟨(e 0).trans (hcs 0),(e 1).trans (hcs 1),(e 2).trans (hcs 2),(e 3).trans (hcs 3),(e 4).trans (hcs 4)⟩
 have HM:Hid (∀W,Calls Tryz.prog 306 #[.agg #[.int .u8 op,.int .u8 d,.int .u8 a,.int .u8 b,.int .u32 imm]] W fun e w'=>e=.returned (.bool true)∧Below W.heap.size W w'):=Lh fun W=>by have h:=hmay W;rw[hm] at h;exact h
 have HBy:=Lh (WordRef.Bytes imm 4 (by omega) i0 i1);have HFin:Hid (∀w',Below w.heap.size w w'→(fun e w'=>e=Ending.returned (.tuple #[.string (strOfNums [op,d+16*a,b,0]++putS imm 4),.int .i64 0])∧Below w.heap.size w w') (.returned (.tuple #[.string (strOfNums [op,d+16*a,b,0]++putS imm 4),.int .i64 0])) w'):=Lh fun w' g=>⟨rfl,g⟩
 generalize (fun e w'=>e=Ending.returned (.tuple #[.string (strOfNums [op,d+16*a,b,0]++putS imm 4),.int .i64 0])∧Below w.heap.size w w')=PQ at*;clear hbW hcs hmay hm;unfold val;simp only;go_enter func243,ntmps243;go_wp2_with fail;refine(HM.out _).mono ?_;rintro e w1 ⟨rfl,hb1⟩;have hk:=HX.out w1 (by simpa using hb1);have HB1:=Lh (bQ HB.out hb1);have hlt:w.heap.size<w1.heap.size:=by have:=hb1.size;simp at this;omega
 have HS:Hid (∀V,Below w1.heap.size w1 V→V.cell? ⟨w.heap.size,0,none⟩=some (.int .u8 op)∧V.cell? ⟨w.heap.size,1,none⟩=some (.int .u8 d)∧V.cell? ⟨w.heap.size,2,none⟩=some (.int .u8 a)∧V.cell? ⟨w.heap.size,3,none⟩=some (.int .u8 b)∧V.cell? ⟨w.heap.size,4,none⟩=some (.int .u32 imm)):=Lh fun V hV=>by
  have e:∀j,V.cell? ⟨w.heap.size,j,none⟩=w1.cell? ⟨w.heap.size,j,none⟩:=fun j=>World.cell?_of_block (hV.block _ hlt)
  obtain⟨k0,k1,k2,k3,k4⟩:=hk;exact⟨(e 0).trans k0,(e 1).trans k1,(e 2).trans k2,(e 3).trans k3,(e 4).trans k4⟩
 clear hb1 HX HB HM hk hlt;go_wp2_with fail;refine wp_region_E (fun w'=>w'.cell? ⟨w.heap.size,0,none⟩=some (.int .u8 op)∧w'.cell? ⟨w.heap.size,1,none⟩=some (.int .u8 d)∧w'.cell? ⟨w.heap.size,2,none⟩=some (.int .u8 a)∧w'.cell? ⟨w.heap.size,3,none⟩=some (.int .u8 b)∧w'.cell? ⟨w.heap.size,4,none⟩=some (.int .u32 imm)) 17 (by kernel_rfl) ?_;have hB0:Below w1.heap.size w1 w1.drew:=(Below.refl _ w1).drew;have h0:=HS.out _ hB0;refine LT 0 h0 ?_;refine LT 1 h0 ?_;refine LT 2 h0 ?_;refine LT 3 h0 ?_;refine LT 4 h0 ?_;refine LT 5 h0 ?_;refine LT 6 h0 ?_;refine LT 7 h0 ?_;refine LT 8 h0 ?_;refine LT 9 h0 ?_;refine LT 12 h0 ?_;refine LT 13 h0 ?_;refine E_two (i:=10) (j:=14) (by kernel_rfl) rfl rfl (fun K hK=> ?_) (fun K hK=> ?_)
 ·go_simp;have hB1:=((Below.refl _ w1).alloc (Nat.le_refl _) (.cells #[.int .u8 op,.int .u8 (d+16*a),.int .u8 b,.int .u8 0] 5)).drew;have h1:=HS.out _ hB1;refine LV hK (fun _=>h1) ?_;clear hK K;have hX:(w1.alloc (.cells #[.int .u8 op,.int .u8 (d+16*a),.int .u8 b,.int .u8 0] 5)).drew.heap[w1.heap.size]? =some (.cells #[.int .u8 op,.int .u8 (d+16*a),.int .u8 b,.int .u8 0] 5 (0,0)):=heap_alloc_new w1 _;refine E_two (i:=11) (j:=14) (by kernel_rfl) rfl rfl (fun K hK=> ?_) (fun K hK=> ?_)
  ·have hcv:=u8str (w1.alloc (.cells #[.int .u8 op,.int .u8 (d+16*a),.int .u8 b,.int .u8 0] 5)).drew w1.heap.size op (d+16*a) b 0 hX;go_simp;refine LV hK (fun _=>h1) ?_;clear hK K;refine LU 14 fun K hK=> ?_
   go_simp;go_at_call 307;refine(HBy.out _).mono ?_;rintro e w2 ⟨rfl,hq⟩;have hB2:Below w1.heap.size w1 w2:=hB1.trans (hq.mono (by have:=hB1.size;first|exact this|simpa using this));have h2:=HS.out _ hB2;refine LV hK (fun _=>h2) ?_;clear hK K;refine LU 15 fun K hK=> ?_
   go_simp;refine LV hK (fun _=>h2) ?_;clear hK K;refine LU 16 fun K hK=> ?_
   go_simp;refine LV hK (fun _=>h2) ?_;clear hK K;refine LU 17 fun K hK=> ?_
   go_simp;refine LV hK (fun _=>h2) ?_;clear hK K;refine E_done (by kernel_rfl) ?_ _;have HBz:=Lh (HB1.out.trans (hB2.mono HB1.out.size));go_wp2
   first|go_ret2|skip
   exact HFin.out _ HBz.out
  ·go_simp;go_at_call 307;refine(HBy.out _).mono ?_;rintro e w2 ⟨rfl,hq⟩;have hB2:Below w1.heap.size w1 w2:=hB1.trans (hq.mono (by have:=hB1.size;first|exact this|simpa using this));have h2:=HS.out _ hB2;refine LV hK (fun _=>h2) ?_;clear hK K;have hX2:=(hq.block w1.heap.size (by simp)).trans hX;refine LU 11 fun K hK=> ?_
   have hcv:=u8str w2 w1.heap.size op (d+16*a) b 0 hX2;go_simp;refine LV hK (fun _=>h2) ?_;clear hK K;refine LU 15 fun K hK=> ?_
   go_simp;refine LV hK (fun _=>h2) ?_;clear hK K;refine LU 16 fun K hK=> ?_
   go_simp;refine LV hK (fun _=>h2) ?_;clear hK K;refine LU 17 fun K hK=> ?_
   go_simp;refine LV hK (fun _=>h2) ?_;clear hK K;refine E_done (by kernel_rfl) ?_ _;have HBz:=Lh (HB1.out.trans (hB2.mono HB1.out.size));go_wp2
   first|go_ret2|skip
   exact HFin.out _ HBz.out
 ·go_simp;go_at_call 307;refine(HBy.out _).mono ?_;rintro e w2 ⟨rfl,hq⟩;have hB1:Below w1.heap.size w1 w2:=hB0.trans (hq.mono (by have:=hB0.size;first|exact this|simpa using this));have h1:=HS.out _ hB1;refine LV hK (fun _=>h1) ?_;clear hK K;refine LU 10 fun K hK=> ?_
  go_simp;have hB2:=hB1.alloc (by have:=hB1.size;first|exact this|simpa using this) (.cells #[.int .u8 op,.int .u8 (d+16*a),.int .u8 b,.int .u8 0] 5);have h2:=HS.out _ hB2;refine LV hK (fun _=>h2) ?_;clear hK K;have hX:(w2.alloc (.cells #[.int .u8 op,.int .u8 (d+16*a),.int .u8 b,.int .u8 0] 5)).heap[w2.heap.size]? =some (.cells #[.int .u8 op,.int .u8 (d+16*a),.int .u8 b,.int .u8 0] 5 (0,0)):=heap_alloc_new w2 _;refine LU 11 fun K hK=> ?_
  have hcv:=u8str (w2.alloc (.cells #[.int .u8 op,.int .u8 (d+16*a),.int .u8 b,.int .u8 0] 5)) w2.heap.size op (d+16*a) b 0 hX;go_simp;refine LV hK (fun _=>h2) ?_;clear hK K;refine LU 15 fun K hK=> ?_
  go_simp;refine LV hK (fun _=>h2) ?_;clear hK K;refine LU 16 fun K hK=> ?_
  go_simp;refine LV hK (fun _=>h2) ?_;clear hK K;refine LU 17 fun K hK=> ?_
  go_simp;refine LV hK (fun _=>h2) ?_;clear hK K;refine E_done (by kernel_rfl) ?_ _;have HBz:=Lh (HB1.out.trans (hB2.mono HB1.out.size));go_wp2
  first|go_ret2|skip
  exact HFin.out _ HBz.out
theorem encode_no(x:Ins)(hx:x.ok)(hm:mayV x=false)(w:World):Calls Tryz.prog 243 #[x.val] w fun e w'=>e=.returned (.tuple #[.string ByteArray.empty,.int .i64 2])∧Below w.heap.size w w':=by
 have hmay:=may x hx;rw[hm] at hmay;obtain⟨op,d,a,b,imm⟩:=x;have hbW:Below w.heap.size w (w.alloc (.cells #[.int .u8 op,.int .u8 d,.int .u8 a,.int .u8 b,.int .u32 imm] 153)):=Ba _;have HB:=Lh hbW;have HM:=Lh hmay;clear hmay hm hx hbW;unfold val at HM⊢;simp only at HM⊢;go_enter func243,ntmps243;go_wp2_with fail;refine(HM.out _).mono ?_;rintro e w1 ⟨rfl,hb1⟩;have HB1:=Lh (bQ HB.out hb1);clear hb1;go_wp2;go_ret2;exact⟨rfl,HB1.out⟩
theorem encode(x:Ins)(hx:x.ok)(w:World):Calls Tryz.prog 243 #[x.val] w fun e w'=>e=.returned (.tuple #[.string (encS x),.int .i64 (encE x)])∧Below w.heap.size w w':=by
 cases hm:mayV x with
 |true=>
  have e:encE x=0:=by unfold encE;rw[if_pos hm]
  rw[e];exact encode_yes x hx hm w
 |false=>
  have e:encE x=2:=by unfold encE;rw[hm];rfl
  have e2:encS x=ByteArray.empty:=by unfold encS;rw[hm];rfl
  rw[e,e2];exact encode_no x hx hm w
end Ins
open Go.RowKit Word
namespace Cp
def z8:List Int:=List.replicate 8 0
theorem z8_len:z8.length=8:=rfl
def insB(x:Ins):List Int:=if Ins.mayV x then Ins.encL x else z8
def textL(f:Nat→Ins):Nat→List Int
 |0=>[]
 |k+1=>textL f k++insB (f k)
theorem textL_len(f:Nat→Ins)(k:Nat):(textL f k).length=8*k:=by
 induction k with
 |zero=>rfl
 |succ k ih=>
  unfold textL;rw[List.length_append,ih];unfold insB
  split
  ·rw[Ins.encL_len];omega
  ·rw[z8_len];omega
theorem szN(xs:List Int):(strOfNums xs).size=xs.length:=by
 show(strOfNums xs).data.size=_
 rw[←Array.length_toList,strOfNums_data,List.length_map]
structure InsAt(w:World)(b off i:Nat)(x:Ins):Prop where
 c0:w.cell? ⟨b,off+i*5,none⟩=some (.int .u8 x.op)
 c1:w.cell? ⟨b,off+i*5+1,none⟩=some (.int .u8 x.d)
 c2:w.cell? ⟨b,off+i*5+2,none⟩=some (.int .u8 x.a)
 c3:w.cell? ⟨b,off+i*5+3,none⟩=some (.int .u8 x.b)
 c4:w.cell? ⟨b,off+i*5+4,none⟩=some (.int .u32 x.imm)
theorem InsAt.below{w w':World}{b off i:Nat}{x:Ins}{B:Nat}(h:InsAt w b off i x)(hb:Below B w w')(hB:b<B):InsAt w' b off i x:=by
 have e:∀j,w'.cell? ⟨b,j,none⟩=w.cell? ⟨b,j,none⟩:=fun j=>World.cell?_of_block (hb.block _ hB)
 exact⟨(e _).trans h.c0,(e _).trans h.c1,(e _).trans h.c2,(e _).trans h.c3,(e _).trans h.c4⟩
theorem InsAt.lt{w:World}{b off i:Nat}{x:Ins}(h:InsAt w b off i x):b<w.heap.size:=by
 have:=h.c0;unfold World.cell? at this;cases hg:w.heap[b]? with
 |none=>rw[hg] at this;cases this
 |some _=>exact lQ hg
def Code(w:World)(a:Option Addr)(n:Nat)(f:Nat→Ins):Prop:=0<n→∃b off,a=some ⟨b,off,none⟩∧∀i,i<n→InsAt w b off i (f i)
theorem Code.below{w w':World}{a:Option Addr}{n:Nat}{f:Nat→Ins}(h:Code w a n f)(hb:Below w.heap.size w w'):Code w' a n f:=fun hn=>by
 obtain⟨b,off,e,hc⟩:=h hn;exact⟨b,off,e,fun i hi=>(hc i hi).below hb (hc i hi).lt⟩
def txRel(w:World)(f:Nat→Ins)(n:Nat)(vs vi:Value)(wr:World):Prop:=
 ∃k:Nat,k≤n∧vi=.int .i64 k∧vs=.string (strOfNums (textL f k))∧Below w.heap.size w wr
theorem zero8(W:World)(b:Nat)(h:W.heap[b]? =some (.cells (Sp.fillL [] 8).toArray 5 (0,0))):
  (convert 85 9 (.slice (some ⟨b,0,none⟩) 8 8)).run Tryz.prog W=.ok (.string (strOfNums (z8))) W:=by
 refine run_convert_bytes_arg W 85 5 Tryz.underlying85 Tryz.underlying5 b 0 8 8 (z8) rfl (fun i hi=> ?_) 9 Tryz.underlying9;unfold World.cell?;rw[h,Sp.fillL_zero];have:i=0∨i=1∨i=2∨i=3∨i=4∨i=5∨i=6∨i=7:=by omega
 rcases this with rfl|rfl|rfl|rfl|rfl|rfl|rfl|rfl<;>rfl
theorem text(w:World)(a:Option Addr)(n cap:Nat)(f:Nat→Ins)(hc:Code w a n f)(hok:∀i,i<n→(f i).ok)(hn:n≤1000):
  Calls Tryz.prog 163 #[.slice a n cap] w fun e w'=>e=.returned (.string (strOfNums (textL f n)))∧Below w.heap.size w w':=by
 have HC:=Lh hc;have HO:=Lh hok;clear hc hok;go_enter func163,ntmps163;go_wp2;go_loopw [3,4] (fun vs vi wr=>txRel w f n vs vi wr) (fun _ vi _=>n - (intOf vi).toNat)
 case atStart=>exact⟨0,Nat.zero_le _,by go_num,rfl,Below.refl _ _⟩
 case round=>
  obtain⟨k,hk,rfl,rfl,hb⟩:=hrel
  by_cases hk2:k<n
  ·obtain⟨b,off,rfl,hcl⟩:=HC.out (by omega);have hia:=(hcl k hk2).below hb (hcl k hk2).lt;have hxo:=HO.out k hk2;have he:=Ins.encode (f k) hxo wr;have hT:textL f (k+1)=textL f k++insB (f k):=rfl;generalize f k=x at*;obtain⟨c0,c1,c2,c3,c4⟩:=hia;have HE:=Lh he;have HB:=Lh hb;have HT:=Lh hT;clear hcl he hb hT hxo;obtain⟨op,d,a,b',imm⟩:=x;simp only at c0 c1 c2 c3 c4;cases hm:Ins.mayV ⟨op,d,a,b',imm⟩ with
   |true=>
    have e1:Ins.encE ⟨op,d,a,b',imm⟩=0:=by unfold Ins.encE;rw[hm];rfl
    have e2:Ins.encS ⟨op,d,a,b',imm⟩=strOfNums (Ins.encL ⟨op,d,a,b',imm⟩):=by unfold Ins.encS;rw[if_pos hm]
    have e3:insB ⟨op,d,a,b',imm⟩=Ins.encL ⟨op,d,a,b',imm⟩:=by unfold insB;rw[if_pos hm]
    rw[e3] at HT;rw[e1,e2] at HE;clear e1 e2 e3 hm;unfold Ins.val at HE;simp only at HE;go_wp2_with fail;refine HE.out.mono ?_;rintro e w1 ⟨rfl,hb1⟩;have HB1:=Lh (HB.out.trans (hb1.mono HB.out.size));clear hb1;have hz1:((strOfNums (textL f k)).size:Int)≤8388608:=by rw[szN,textL_len];omega
    have hz2:((strOfNums (Ins.encL ⟨op,d,a,b',imm⟩)).size:Int)≤8388608:=by rw[szN,Ins.encL_len];omega
    go_wp2;refine⟨⟨k+1,by omega,by go_num, ?_,HB1.out⟩,by simp[intOf];omega⟩;rw[HT.out,Ins.strOfNums_app]
   |false=>
    have e1:Ins.encE ⟨op,d,a,b',imm⟩=2:=by unfold Ins.encE;rw[hm];rfl
    have e3:insB ⟨op,d,a,b',imm⟩=z8:=by unfold insB;rw[hm];rfl
    rw[e3] at HT;rw[e1] at HE;clear e1 e3 hm;unfold Ins.val at HE;simp only at HE;go_wp2_with fail;refine HE.out.mono ?_;rintro e w1 ⟨rfl,hb1⟩;have HB1:=Lh (HB.out.trans (hb1.mono HB.out.size));clear hb1;have hmk:(Instr.makeSlice 85 (.int .i64 8) (.int .i64 8)).run Tryz.prog w1=.ok (.slice (some ⟨w1.heap.size,0,none⟩) 8 8) (w1.alloc (.cells (Sp.fillL [] 8).toArray 5)):=Sp.run_made 8 (by omega) w1;have hz1:((strOfNums (textL f k)).size:Int)≤8388608:=by rw[szN,textL_len];omega
    have hz2:((strOfNums (z8)).size:Int)≤8388608:=by rw[szN,z8_len];omega
    have hcv:=zero8 (w1.alloc (.cells (Sp.fillL [] 8).toArray 5)) w1.heap.size (heap_alloc_new w1 _);go_wp2;refine⟨⟨k+1,by omega,by go_num, ?_,HB1.out.alloc HB1.out.size _⟩,by simp[intOf];omega⟩;rw[HT.out,Ins.strOfNums_app]
  ·obtain rfl:k=n:=by omega
   have HB:=Lh hb;clear hb;go_wp2;go_ret;exact⟨rfl,HB.out⟩
end Cp
end Go.Proofs.YtehihecknhcggaaGreat
