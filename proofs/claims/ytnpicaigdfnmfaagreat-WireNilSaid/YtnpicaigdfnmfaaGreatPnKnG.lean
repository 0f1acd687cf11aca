/- KnG: caps of all numbers, a kernel in plain numbers and in memory, the walks of caps' small methods and of demand.Check. -/
import Derived.Test.YtnpicaigdfnmfaaGreatPnBase
import Derived.LoopTactic
import Derived.WalkSpells
import Derived.WalkLawsBesides
import Derived.Outline
import Derived.Deep.RegionHeld3
import Derived.Test.YtnpicaigdfnmfaaGreatPnRspF
import Derived.Maps.RangeWalk
import Derived.Test.YtnpicaigdfnmfaaGreatPnZa
set_option linter.unusedVariables false
set_option linter.unusedSimpArgs false
set_option maxRecDepth 100000
set_option maxHeartbeats 16000000
open Go.Proofs.Tryz
namespace Go.Proofs.YtnpicaigdfnmfaaGreat
open Go.RowKit
structure Mn where
 pages:Int
 ext:List (Int×Int)
 ports:List Int
 con:Bool
structure Mn.ok(m:Mn):Prop where
 p0:0≤m.pages
 p1:m.pages≤4294967295
 e:∀x,x∈m.ext→0≤x.1∧x.1≤4294967295∧0≤x.2∧x.2≤4294967295
 q:∀x,x∈m.ports→0≤x∧x<65536
structure Gr where
 m:Mn
 pg:Int
 took:Int
structure Gr.ok(g:Gr):Prop where
 m:g.m.ok
 t0:0≤g.took
 t1:g.took≤g.m.pages
 q0:0≤g.pg
namespace Gp
def blocksOf(l:List (Int×Int))(id:Int):Option Int:=(l.find? fun x=>x.1 == id).map (·.2)
def hasBlock(g:Option Gr)(id n:Int):Bool:=match g with|none=>false|some G=>match blocksOf G.m.ext id with|none=>false|some k=>decide (n<k)
def hasPort(g:Option Gr)(p:Int):Bool:=match g with|none=>false|some G=>decide (p∈G.m.ports)
def con(g:Option Gr):Bool:=match g with|none=>false|some G=>G.m.con
def takeE(g:Option Gr):Int:=match g with|none=>3|some G=>if G.m.pages≤G.took then 4 else 0
def take(g:Option Gr):Option Gr:=match g with|none=>none|some G=>if G.m.pages≤G.took then some G else some { G with took:=G.took+1 }
def giveE(g:Option Gr):Int:=match g with|none=>3|some G=>if G.took=0 then 2 else 0
def give(g:Option Gr):Option Gr:=match g with|none=>none|some G=>if G.took=0 then some G else some { G with took:=G.took - 1 }
def gok(g:Option Gr):Prop:=∀G,g=some G→G.ok
theorem gok_take{g:Option Gr}(h:gok g):gok (take g):=by
 intro G hG;cases g with
 |none=>cases hG
 |some G0=>
  have h0:=h G0 rfl;unfold take at hG;simp only at hG
  by_cases q:G0.m.pages≤G0.took
  ·rw[if_pos q] at hG;cases hG;exact h0
  ·rw[if_neg q] at hG;cases hG;exact⟨h0.m,by have:=h0.t0;show 0≤G0.took+1;omega,by show G0.took+1≤G0.m.pages;omega,h0.q0⟩
theorem gok_give{g:Option Gr}(h:gok g):gok (give g):=by
 intro G hG;cases g with
 |none=>cases hG
 |some G0=>
  have h0:=h G0 rfl;unfold give at hG;simp only at hG
  by_cases q:G0.took=0
  ·rw[if_pos q] at hG;cases hG;exact h0
  ·rw[if_neg q] at hG;cases hG;exact⟨h0.m,by have:=h0.t0;show 0≤G0.took - 1;omega,by have:=h0.t1;show G0.took - 1≤G0.m.pages;omega,h0.q0⟩
def upd(G:Int→Option Gr)(n:Int)(g:Option Gr):Int→Option Gr:=fun k=>if k=n then g else G k
theorem upd_at(G:Int→Option Gr)(n:Int)(g:Option Gr):upd G n g n=g:=if_pos rfl
theorem upd_ne(G:Int→Option Gr){n k:Int}(g:Option Gr)(h:k≠n):upd G n g k=G k:=if_neg h
theorem upd_same(G:Int→Option Gr)(n:Int):upd G n (G n)=G:=by
 funext k
 unfold upd
 split
 ·rename_i e;rw[e]
 ·rfl
theorem upd_some{G:Int→Option Gr}{n:Int}{g:Option Gr}(h:g.isSome=(G n).isSome)(k:Int):(upd G n g k).isSome=(G k).isSome:=by
 unfold upd
 split
 ·rename_i e;rw[h,e]
 ·rfl
theorem take_some(g:Option Gr):(take g).isSome=g.isSome:=by
 cases g with
 |none=>rfl
 |some G=>unfold take;simp only;split<;>rfl
theorem give_some(g:Option Gr):(give g).isSome=g.isSome:=by
 cases g with
 |none=>rfl
 |some G=>unfold give;simp only;split<;>rfl
def sum8(f:Int→Int):Int:=f 1+(f 2+(f 3+(f 4+(f 5+(f 6+(f 7+f 8))))))
theorem sum8_upd{f f':Int→Int}{n:Int}(h:∀k,k≠n→f' k=f k)(n1:1≤n)(n8:n≤8):sum8 f'=sum8 f+(f' n - f n):=by
 have hn:n=1∨n=2∨n=3∨n=4∨n=5∨n=6∨n=7∨n=8:=by omega
 unfold sum8;rcases hn with rfl|rfl|rfl|rfl|rfl|rfl|rfl|rfl
 ·rw[h 2 (by omega),h 3 (by omega),h 4 (by omega),h 5 (by omega),h 6 (by omega),h 7 (by omega),h 8 (by omega)];omega
 ·rw[h 1 (by omega),h 3 (by omega),h 4 (by omega),h 5 (by omega),h 6 (by omega),h 7 (by omega),h 8 (by omega)];omega
 ·rw[h 1 (by omega),h 2 (by omega),h 4 (by omega),h 5 (by omega),h 6 (by omega),h 7 (by omega),h 8 (by omega)];omega
 ·rw[h 1 (by omega),h 2 (by omega),h 3 (by omega),h 5 (by omega),h 6 (by omega),h 7 (by omega),h 8 (by omega)];omega
 ·rw[h 1 (by omega),h 2 (by omega),h 3 (by omega),h 4 (by omega),h 6 (by omega),h 7 (by omega),h 8 (by omega)];omega
 ·rw[h 1 (by omega),h 2 (by omega),h 3 (by omega),h 4 (by omega),h 5 (by omega),h 7 (by omega),h 8 (by omega)];omega
 ·rw[h 1 (by omega),h 2 (by omega),h 3 (by omega),h 4 (by omega),h 5 (by omega),h 6 (by omega),h 8 (by omega)];omega
 ·rw[h 1 (by omega),h 2 (by omega),h 3 (by omega),h 4 (by omega),h 5 (by omega),h 6 (by omega),h 7 (by omega)];omega
theorem sum8_le{f g:Int→Int}(h:∀k,f k≤g k):sum8 f≤sum8 g:=by
 have h1:=h 1;have h2:=h 2;have h3:=h 3;have h4:=h 4;have h5:=h 5;have h6:=h 6;have h7:=h 7;have h8:=h 8;unfold sum8;omega
def pgs(g:Option Gr):Int:=match g with|none=>0|some G=>G.m.pages+G.pg
def one(g:Option Gr):Int:=if g.isSome=true then 1 else 0
def sum(G:Int→Option Gr):Int:=sum8 fun k=>pgs (G k)
def cnt(G:Int→Option Gr):Int:=sum8 fun k=>one (G k)
theorem pgs_nn{g:Option Gr}(h:gok g):0≤pgs g:=by
 cases g with
 |none=>exact Int.le_refl _
 |some G=>have h1:=(h G rfl).m.p0;have h2:=(h G rfl).q0;show 0≤G.m.pages+G.pg;omega
theorem sum8_congr{f g:Int→Int}(h:∀k,f k=g k):sum8 f=sum8 g:=congrArg sum8 (funext h)
theorem sum_upd{G:Int→Option Gr}{n:Int}{g:Option Gr}(h:pgs g=pgs (G n)):sum (upd G n g)=sum G:=sum8_congr fun k=>by
 unfold upd
 split
 ·rename_i e;rw[h,e]
 ·rfl
theorem cnt_upd{G:Int→Option Gr}{n:Int}{g:Option Gr}(h:g.isSome=(G n).isSome):cnt (upd G n g)=cnt G:=sum8_congr fun k=>by
 unfold upd one
 split
 ·rename_i e;rw[h,e]
 ·rfl
theorem sum_put{G:Int→Option Gr}{n:Int}{g:Option Gr}(n1:1≤n)(n8:n≤8):sum (upd G n g)=sum G+(pgs g - pgs (G n)):=by
 unfold sum;rw[sum8_upd (f:=fun k=>pgs (G k)) (n:=n) (fun k hk=>by show pgs (upd G n g k)=_;rw[upd_ne G g hk]) n1 n8];simp only[upd_at]
theorem cnt_put{G:Int→Option Gr}{n:Int}{g:Option Gr}(n1:1≤n)(n8:n≤8):cnt (upd G n g)=cnt G+(one g - one (G n)):=by
 unfold cnt;rw[sum8_upd (f:=fun k=>one (G k)) (n:=n) (fun k hk=>by show one (upd G n g k)=_;rw[upd_ne G g hk]) n1 n8];simp only[upd_at]
end Gp
def extC(l:List (Int×Int)):List Value:=l.flatMap fun x=>[.int .u32 x.1,.int .u32 x.2]
theorem extC_length(l:List (Int×Int)):(extC l).length=l.length*2:=by
 unfold extC
 induction l with
 |nil=>rfl
 |cons x l ih=>rw[List.flatMap_cons,List.length_append,ih];simp;omega
theorem extC_at:∀(l:List (Int×Int)) (i:Nat) (x:Int×Int),l[i]? =some x→(extC l)[i*2]? =some (.int .u32 x.1)∧(extC l)[i*2+1]? =some (.int .u32 x.2)
 |y::l,0,x,h=>by
  simp at h;subst h;exact⟨rfl,rfl⟩
 |y::l,i+1,x,h=>by
  have:=extC_at l i x (by simpa using h);have e:extC (y::l)=.int .u32 y.1:: .int .u32 y.2::extC l:=rfl;rw[e,show(i+1)*2=i*2+1+1 by omega,List.getElem?_cons_succ,List.getElem?_cons_succ,List.getElem?_cons_succ,List.getElem?_cons_succ];exact this
structure MnAt(w:World)(ev pv:Value)(m:Mn):Prop where
 e:SlV w 290 2 ev m.ext.length (extC m.ext)
 p:SlV w 22 1 pv m.ports.length (m.ports.map (Value.int .u16))
def Mn.cells(m:Mn)(ev pv:Value):Array Value:= #[.int .u32 m.pages,ev,pv,.bool m.con]
theorem SlV.below{w w':World}{e:TypeId}{s n:Nat}{v:Value}{xs:List Value}(h:SlV w e s v n xs)(hb:Below w.heap.size w w'):SlV w' e s v n xs:=by
 refine⟨h.1, ?_⟩;rcases h.2 with g|⟨g,off,cap,cur,rfl,hg,rest⟩
 ·exact .inl g
 ·exact .inr ⟨g,off,cap,cur,rfl,(hb.block _ (lQ hg)).trans hg,rest⟩
theorem SlV.mod{F:Nat→Prop}{w w':World}{e:TypeId}{s n:Nat}{v:Value}{xs:List Value}(h:SlV w e s v n xs)(hm:Mod F w w')(hF:∀k,v.ownBlock=some k→¬F k):SlV w' e s v n xs:=by
 refine⟨h.1, ?_⟩;rcases h.2 with g|⟨g,off,cap,cur,rfl,hg,rest⟩
 ·exact .inl g
 ·exact .inr ⟨g,off,cap,cur,rfl,(hm.block _ (lQ hg) (hF g rfl)).trans hg,rest⟩
theorem MnAt.mod{F:Nat→Prop}{w w':World}{ev pv:Value}{m:Mn}(h:MnAt w ev pv m)(hm:Mod F w w')(h1:∀k,ev.ownBlock=some k→¬F k)(h2:∀k,pv.ownBlock=some k→¬F k):MnAt w' ev pv m:=⟨h.e.mod hm h1,h.p.mod hm h2⟩
theorem MnAt.below{w w':World}{ev pv:Value}{m:Mn}(h:MnAt w ev pv m)(hb:Below w.heap.size w w'):MnAt w' ev pv m:=⟨h.e.below hb,h.p.below hb⟩
structure CAt where
 cb:Nat
 mb:Nat
 hv:Value
 gb:Int→Nat
 ev:Int→Value
 pv:Int→Value
def CAt.wf(a:CAt)(G:Int→Option Gr)(k:Nat):Prop:=k=a.cb∨k=a.mb∨∃n,(G n).isSome=true∧k=a.gb n
def CAt.rf(a:CAt)(G:Int→Option Gr)(k:Nat):Prop:=∃n,(G n).isSome=true∧((a.ev n).ownBlock=some k∨(a.pv n).ownBlock=some k)
def grC(g:Gr)(ev pv:Value):Array Value:= #[.int .u32 g.m.pages,ev,pv,.bool g.m.con,.int .u32 g.pg,.int .u32 g.took]
structure Cps(w:World)(a:CAt)(hp:Int)(G:Int→Option Gr):Prop where
 head:w.heap[a.cb]? =some (.cells #[.int .u32 hp,a.hv,.map (some a.mb)] 285 (0,0))
 map:∃D n,w.ownsMap Tryz.prog 3 ptrElem a.mb n D∧(∀x zd,D.atKey (.int .i64 x) zd=if(G x).isSome=true then .lit (.int .i64 (a.gb x)) else zd)∧(Maps.size D:Int)=Gp.cnt G
 grant:∀n g,G n=some g→w.heap[a.gb n]? =some (.cells (grC g (a.ev n) (a.pv n)) 293 (0,0))∧MnAt w (a.ev n) (a.pv n) g.m
 ok:∀n,Gp.gok (G n)
 dom:∀n,(G n).isSome=true→1≤n∧n≤8
 inj:∀n m,(G n).isSome=true→(G m).isSome=true→a.gb n=a.gb m→n=m
 fit:Gp.sum G≤hp
namespace Cps
variable {w w':World} {a:CAt} {hp:Int} {G:Int→Option Gr}
theorem lt(h:Cps w a hp G){k:Nat}(hk:a.wf G k):k<w.heap.size:=by
 rcases hk with rfl|rfl|⟨n,hn,rfl⟩
 ·exact lQ h.head
 ·obtain⟨D,n,ho,_⟩:=h.map;exact ho.lt
 ·obtain⟨g,hg⟩:=Option.isSome_iff_exists.1 hn;exact lQ (h.grant n g hg).1
theorem mod{F:Nat→Prop}(h:Cps w a hp G)(hm:Mod F w w')(hF:∀k,a.wf G k∨a.rf G k→¬F k):Cps w' a hp G:=by
 obtain⟨D,n,ho,hv,hs⟩:=h.map;refine⟨(hm.block _ (h.lt (.inl rfl)) (hF _ (.inl (.inl rfl)))).trans h.head,⟨D,n,own_of_block ho (hm.block _ (h.lt (.inr (.inl rfl))) (hF _ (.inl (.inr (.inl rfl))))),hv,hs⟩,fun n g hg=> ?_,h.ok,h.dom,h.inj,h.fit⟩;have hn:(G n).isSome=true:=by rw[hg];rfl
 obtain⟨g1,g2⟩:=h.grant n g hg;exact⟨(hm.block _ (h.lt (.inr (.inr ⟨n,hn,rfl⟩))) (hF _ (.inl (.inr (.inr ⟨n,hn,rfl⟩))))).trans g1,g2.mod hm (fun k hk=>hF k (.inr ⟨n,hn,.inl hk⟩)) fun k hk=>hF k (.inr ⟨n,hn,.inr hk⟩)⟩
theorem below(h:Cps w a hp G)(hb:Below w.heap.size w w'):Cps w' a hp G:=h.mod (Mod.of_below hb (fun _=>False)) fun _ _ q=>q
theorem cells(h:Cps w a hp G):w.cell? ⟨a.cb,0,none⟩=some (.int .u32 hp)∧w.cell? ⟨a.cb,1,none⟩=some a.hv∧w.cell? ⟨a.cb,2,none⟩=some (.map (some a.mb)):=by
 refine⟨?_, ?_, ?_⟩<;>(unfold World.cell?;rw[h.head];rfl)
end Cps
theorem zeroGr(w:World):(zeroValue 282).run Tryz.prog w=.ok (.pointer none) w:=by kernel_rfl
def I64(n:Int):Prop:= -9223372036854775808≤n∧n≤9223372036854775807
theorem I64.wf{n:Int}(h:I64 n):(Lit.int .i64 n).wf=true:=by
 simp only[Lit.wf,Bool.and_eq_true,decide_eq_true_eq,show IntKind.i64.min= -9223372036854775808 from rfl,show IntKind.i64.max=9223372036854775807 from rfl];exact h
theorem Cps.look{w:World}{a:CAt}{hp:Int}{G:Int→Option Gr}(h:Cps w a hp G){n:Int}(hn:I64 n):
  (Instr.lookup 283 (.map (some a.mb)) (.int .i64 n) false).run Tryz.prog w=.ok (.pointer (if(G n).isSome=true then some ⟨a.gb n,0,none⟩ else none)) w:=by
 obtain⟨D,m,ho,hv,_⟩:=h.map;obtain⟨v,ps,hrun,hR⟩:=ho.lookup (Maps.int_keyed Tryz.underlying3) Tryz.underlying283 (zeroGr w) (z:=.pointer none) (zd:=.lit (.int .i64 (-1))) (zp:=[]) rfl (Maps.keyOf_int_mk Tryz.underlying3 hn.wf);rw[hrun];rw[hv] at hR
 by_cases q:(G n).isSome=true
 ·rw[if_pos q] at hR⊢;rcases ptrElem_inv hR with⟨_,hb⟩|⟨b,rfl,hb⟩
  ·omega
  ·have:b=a.gb n:=by omega
   subst this;rfl
 ·rw[if_neg q] at hR⊢;rcases ptrElem_inv hR with⟨rfl,_⟩|⟨b,_,hb⟩
  ·rfl
  ·omega
def gOf(g:Option Gr):Gr:=g.getD ⟨⟨0,[],[],false⟩,0,0⟩
def OfPost(w:World)(g:Option Gr)(e:Ending)(w':World):Prop:=
 ∃gb ev pv,e=.returned (.tuple #[.pointer (some ⟨gb,0,none⟩),.bool g.isSome])∧Below w.heap.size w w'∧w'.heap[gb]? =some (.cells (grC (gOf g) ev pv) 293 (0,0))∧MnAt w' ev pv (gOf g).m
namespace Ca
section
variable {w:World} {a:CAt} {hp:Int} {G:Int→Option Gr} {n:Int}
theorem of_some{g:Gr}(h:Cps w a hp G)(hn:I64 n)(hg:G n=some g):Calls Tryz.prog 297 #[.pointer (some ⟨a.cb,0,none⟩),.int .i64 n] w fun e w'=>e=.returned (.tuple #[.pointer (some ⟨a.gb n,0,none⟩),.bool true])∧w=w':=by
 have hlk:=h.look hn;rw[hg,if_pos (show(some g).isSome=true from rfl)] at hlk;obtain⟨c0,c1,c2⟩:=h.cells;clear h hn;go_enter func297,ntmps297;go_wp2;go_ret2;exact⟨rfl,rfl⟩
theorem of_none(h:Cps w a hp G)(hn:I64 n)(hg:G n=none):Calls Tryz.prog 297 #[.pointer (some ⟨a.cb,0,none⟩),.int .i64 n] w fun e w'=>e=.returned (.tuple #[.pointer (some ⟨w.heap.size,0,none⟩),.bool false])∧w'=w.alloc (.cells #[.int .u32 0,.slice none 0 0,.slice none 0 0,.bool false,.int .u32 0,.int .u32 0] 293):=by
 have hlk:=h.look hn;rw[hg,if_neg (by simp)] at hlk;obtain⟨c0,c1,c2⟩:=h.cells;clear h hn;go_enter func297,ntmps297;go_wp2;go_ret2;exact⟨rfl,rfl⟩
theorem of(h:Cps w a hp G)(hn:I64 n):Calls Tryz.prog 297 #[.pointer (some ⟨a.cb,0,none⟩),.int .i64 n] w (OfPost w (G n)):=by
 cases hg:G n with
 |none=>exact(of_none h hn hg).mono fun e w' ⟨g1,g2⟩=>⟨w.heap.size,.slice none 0 0,.slice none 0 0,g1,by rw[g2];exact Ba _,by rw[g2];exact heap_alloc_new w _,⟨SlV.nil _ _ _,SlV.nil _ _ _⟩⟩
 |some g=>exact(of_some h hn hg).mono fun e w' ⟨g1,g2⟩=>⟨a.gb n,a.ev n,a.pv n,g1,g2▸Below.refl _ _,g2▸(h.grant n g hg).1,g2▸(h.grant n g hg).2⟩
end
end Ca
open Go.RowKit Word
structure Kn where
 hp:Int
 hx:List Int
 g:Int→Option Gr
 N:Ni.NicS
 B:List (List ByteArray)
 now:Int
namespace Kn
def block(B:List (List ByteArray))(id n:Int):Option ByteArray:=if 0≤id∧0≤n then(B[id.toNat]?).bind fun l=>l[n.toNat]? else none
def setB(B:List (List ByteArray))(id n:Int)(s:ByteArray):List (List ByteArray):=B.modify id.toNat fun l=>l.set n.toNat s
def setE(B:List (List ByteArray))(id n:Int)(s:ByteArray):Int:=if(block B id n).isNone∨s.size≠64 then 2 else 0
def setBlock(K:Kn)(id n:Int)(s:ByteArray):Kn:=if setE K.B id n s=0 then { K with B:=setB K.B id n s } else K
def bytes(E:En)(addr n:Int):Option ByteArray:=if Sp.getE E.A addr n 1=0 then some (Sp.getS E.A addr n 1) else none
end Kn
structure Co where
 v:Int
 y:Int
 K:Kn
 E:En
 ev:Int
 s:ByteArray
namespace Co
def no(K:Kn)(E:En)(y:Int):Co:=⟨0,y,K,E,0,ByteArray.empty⟩
def page(K:Kn)(E:En)(blk:Nat)(x:Int):Co:=
 if Sp.permB E.A x=true∨En.mayP x=false then no K E 2 else if Gp.takeE (K.g E.num)≠0 then no K E 4 else no { K with g:=Gp.upd K.g E.num (Gp.take (K.g E.num)) } (E.page x blk) 0
def drop(K:Kn)(E:En)(x:Int):Co:=
 if E.dropE x=2 then no K E 2 else if E.dropE x=0 then no { K with g:=Gp.upd K.g E.num (Gp.give (K.g E.num)) } (E.drop x) 0 else no K E 3
def read(K:Kn)(E:En)(id n x:Int):Co:=
 if Gp.hasBlock (K.g E.num) id n=false then no K E 1 else
  let s:=(Kn.block K.B id n).getD ByteArray.empty
  if Sp.fitsE E.A x s.size 2≠0 then no K E 2 else no K { E with A:=Sp.putA E.A x 2 s } 0
def write(K:Kn)(E:En)(id n x:Int):Co:=
 if Gp.hasBlock (K.g E.num) id n=false then no K E 1 else match Kn.bytes E x 64 with|none=>no K E 2|some s=>no (K.setBlock id n s) E 0
def send(K:Kn)(E:En)(x n:Int):Co:=
 if 128<n then no K E 5 else if n=0 then no K E 2 else match Kn.bytes E x n with
  |none=>no K E 2
  |some s=>if Ni.portB s=false∨Gp.hasPort (K.g E.num) (Ni.portV s 20)=false then no K E 1 else⟨n,0, { K with N:=Ni.sendS K.N s },E,2,s⟩
def recv(K:Kn)(E:En)(p x m:Int):Co:=
 if 65535<p∨Gp.hasPort (K.g E.num) p=false then no K E 1 else match K.N.q p with
  | []=>no K E 3
  |s::_=>if m<s.size then no K E 5 else if Sp.fitsE E.A x s.size 2≠0 then no K E 2 else⟨s.size,0, { K with N:=Ni.popS K.N p }, { E with A:=Sp.putA E.A x 2 s },0,ByteArray.empty⟩
def put(K:Kn)(E:En)(x n:Int):Co:=
 if Gp.con (K.g E.num)=false then no K E 1 else if 256<n then no K E 5 else match Kn.bytes E x n with
  |none=>no K E 2
  |some s=>if E.putE s≠0 then no K E 4 else⟨n,0,K,E.put s,if n=0 then 0 else 1,s⟩
def call(K:Kn)(E:En)(blk:Nat)(num:Int):Co:=
 if num=2 then no K E 0 else if num=3 then page K E blk (E.arg 1) else if num=4 then drop K E (E.arg 1)
 else if num=5 then read K E (E.arg 1) (E.arg 2) (E.arg 3) else if num=6 then write K E (E.arg 1) (E.arg 2) (E.arg 3)
 else if num=7 then send K E (E.arg 1) (E.arg 2) else if num=8 then recv K E (E.arg 1) (E.arg 2) (E.arg 3)
 else if num=9 then put K E (E.arg 1) (E.arg 2) else if num=10 then⟨K.now,0,K,E,0,ByteArray.empty⟩ else no K E 6
def doK(K:Kn)(E:En)(blk:Nat)(num:Int):Kn:=if num=1 then K else(call K E blk num).K
def doE(K:Kn)(E:En)(blk:Nat)(num:Int):En:=if num=1 then E.exit (E.arg 1) else((call K E blk num).E).answer (call K E blk num).v (call K E blk num).y
structure Like(a b:Co):Prop where
 v:a.v=b.v
 y:a.y=b.y
 K:a.K=b.K
 E:En.Like a.E b.E
 ev:a.ev=b.ev
 s:a.s=b.s
end Co
structure Kn.Ok(K:Kn):Prop where
 n0:0≤K.now
 n1:K.now≤4294967295
 bs:∀(i:Nat) (l:List ByteArray),K.B[i]? =some l→∀s,s∈l→s.size=64
 q:∀x s,s∈K.N.q x→s.size≤128
 hl:K.hx.length≤2000000
 g0:0≤K.N.gone
structure KAt where
 kb:Nat
 c:CAt
 nb:Nat
 hv:Value
 bv:Value
 rows:List Value
 tag:Nat→Nat
def KAt.cells(a:KAt)(K:Kn):Array Value:= #[.int .u32 K.hp,a.hv,.pointer (some ⟨a.c.cb,0,none⟩),.pointer (some ⟨a.nb,0,none⟩),a.bv,.int .u32 K.now]
def KAt.wf(a:KAt)(k:Nat):Prop:=a.tag k≠0∧a.tag k≠5
structure Knl(w:World)(a:KAt)(K:Kn):Prop where
 head:w.heap[a.kb]? =some (.cells (a.cells K) 263 (0,0))
 hx:Sl.Lst w a.hv K.hx
 chx:Sl.Lst w a.c.hv K.hx
 caps:Cps w a.c K.hp K.g
 nic:Ni.NicO w (fun k=>a.tag k=3) a.nb K.N
 len:a.rows.length=K.B.length
 outer:SlV w 265 1 a.bv a.rows.length a.rows
 inner:∀(i:Nat) (v:Value) (l:List ByteArray),a.rows[i]? =some v→K.B[i]? =some l→SlV w 9 1 v l.length (l.map .string)
 ok:K.Ok
 t1:a.tag a.kb=1
 t2:∀k,a.c.wf K.g k→a.tag k=2
 t4:∀k,a.bv.ownBlock=some k→a.tag k=4
 t5:∀k,a.hv.ownBlock=some k∨a.c.hv.ownBlock=some k∨a.c.rf K.g k→a.tag k=5
 t6:∀(i:Nat) (v:Value) (k:Nat),a.rows[i]? =some v→v.ownBlock=some k→a.tag k=6+i
 lt:∀k,a.tag k≠0→k<w.heap.size
namespace Knl
variable {w w' w'':World} {a a' a'':KAt} {K K' K'':Kn}
theorem keep{F:Nat→Prop}(h:Knl w a K)(hm:Mod F w w')(hF:∀k,a.tag k≠0→¬F k):Knl w' a K:=
 {
  h with
  head:=(hm.block _ (lQ h.head) (hF _ (by rw[h.t1];decide))).trans h.head
  hx:=SlV.mod h.hx hm fun k hk=>hF k (by rw[h.t5 k (.inl hk)];decide)
  chx:=SlV.mod h.chx hm fun k hk=>hF k (by rw[h.t5 k (.inr (.inl hk))];decide)
  caps:=h.caps.mod hm fun k hk=>hF k (by
   rcases hk with g|g
   ·rw[h.t2 k g];decide
   ·rw[h.t5 k (.inr (.inr g))];decide)
  nic:=h.nic.keep hm fun k (hk:a.tag k=3)=>hF k (by rw[hk];decide)
  outer:=h.outer.mod hm fun k hk=>hF k (by rw[h.t4 k hk];decide)
  inner:=fun i v l hv hl=>(h.inner i v l hv hl).mod hm fun k hk=>hF k (by rw[h.t6 i v k hv hk];omega)
  lt:=fun k hk=>Nat.lt_of_lt_of_le (h.lt k hk) hm.size }
theorem below(h:Knl w a K)(hb:Below w.heap.size w w'):Knl w' a K:=h.keep (Mod.of_below hb (fun _=>False)) fun _ _ q=>q
theorem cell(h:Knl w a K)(i:Nat)(v:Value)(hi:(a.cells K)[i]? =some v):w.cell? ⟨a.kb,i,none⟩=some v:=by
 unfold World.cell?;rw[h.head];exact hi
theorem cells(h:Knl w a K):w.cell? ⟨a.kb,0,none⟩=some (.int .u32 K.hp)∧w.cell? ⟨a.kb,1,none⟩=some a.hv∧w.cell? ⟨a.kb,2,none⟩=some (.pointer (some ⟨a.c.cb,0,none⟩))∧w.cell? ⟨a.kb,3,none⟩=some (.pointer (some ⟨a.nb,0,none⟩))∧w.cell? ⟨a.kb,4,none⟩=some a.bv∧w.cell? ⟨a.kb,5,none⟩=some (.int .u32 K.now):=
 ⟨h.cell 0 _ rfl,h.cell 1 _ rfl,h.cell 2 _ rfl,h.cell 3 _ rfl,h.cell 4 _ rfl,h.cell 5 _ rfl⟩
end Knl
structure KStep(w w':World)(a:KAt)(K:Kn)(a':KAt)(K':Kn):Prop where
 k:Knl w' a' K'
 same:a'.kb=a.kb∧a'.c.cb=a.c.cb∧a'.nb=a.nb
 mod:Mod a.wf w w'
 tag:∀k,k<w.heap.size→a'.tag k=a.tag k
namespace KStep
variable {w w' w'':World} {a a' a'':KAt} {K K' K'':Kn}
theorem refl(h:Knl w a K):KStep w w a K a K:=⟨h,⟨rfl,rfl,rfl⟩,Mod.refl _ _,fun _ _=>rfl⟩
theorem of_below(h:Knl w a K)(hb:Below w.heap.size w w'):KStep w w' a K a K:=⟨h.below hb,⟨rfl,rfl,rfl⟩,Mod.of_below hb _,fun _ _=>rfl⟩
theorem wfoot(s:KStep w w' a K a' K')(k:Nat)(hk:a'.wf k):a.wf k∨w.heap.size≤k:=by
 rcases Nat.lt_or_ge k w.heap.size with g|g
 ·exact .inl (by unfold KAt.wf;rw[←s.tag k g];exact hk)
 ·exact .inr g
theorem trans(s:KStep w w' a K a' K')(t:KStep w' w'' a' K' a'' K''):KStep w w'' a K a'' K'':=
 ⟨t.k,⟨t.same.1.trans s.same.1,t.same.2.1.trans s.same.2.1,t.same.2.2.trans s.same.2.2⟩,s.mod.trans t.mod fun i _ g=>s.wfoot i g,fun k hk=>(t.tag k (Nat.lt_of_lt_of_le hk s.mod.size)).trans (s.tag k hk)⟩
theorem setCaps(h:Knl w a K){G:Int→Option Gr}{n:Int}(hc:Cps w' a.c K.hp G)(hs:∀k,(G k).isSome=(K.g k).isSome)(hm:Mod (fun k=>(K.g n).isSome=true∧k=a.c.gb n) w w'):KStep w w' a K a { K with g:=G }:=by
 have hg:∀k,(K.g n).isSome=true∧k=a.c.gb n→a.tag k=2:=fun k hk=>h.t2 _ (.inr (.inr ⟨n,hk.1,hk.2⟩))
 have ne:∀k,a.tag k≠2→¬((K.g n).isSome=true∧k=a.c.gb n):=fun k hk e=>hk (hg k e)
 exact⟨{
      head:=(hm.block _ (lQ h.head) (ne _ (by rw[h.t1];decide))).trans h.head
      hx:=SlV.mod h.hx hm fun k hk=>ne k (by rw[h.t5 k (.inl hk)];decide)
      chx:=SlV.mod h.chx hm fun k hk=>ne k (by rw[h.t5 k (.inr (.inl hk))];decide)
      caps:=hc
      nic:=h.nic.keep hm fun k (hk:a.tag k=3)=>ne k (by rw[hk];decide)
      len:=h.len
      outer:=h.outer.mod hm fun k hk=>ne k (by rw[h.t4 k hk];decide)
      inner:=fun i v l hv hl=>(h.inner i v l hv hl).mod hm fun k hk=>ne k (by rw[h.t6 i v k hv hk];omega)
      ok:=⟨h.ok.n0,h.ok.n1,h.ok.bs,h.ok.q,h.ok.hl,h.ok.g0⟩
      t1:=h.t1
      t2:=fun k hk=>h.t2 k (by
       rcases hk with q|q|⟨m,hm,q⟩
       ·exact .inl q
       ·exact .inr (.inl q)
       ·exact .inr (.inr ⟨m,by rw[←hs];exact hm,q⟩))
      t4:=h.t4
      t5:=fun k hk=>h.t5 k (by
       rcases hk with q|q|⟨m,hm,q⟩
       ·exact .inl q
       ·exact .inr (.inl q)
       ·exact .inr (.inr ⟨m,by rw[←hs];exact hm,q⟩))
      t6:=h.t6
      lt:=fun k hk=>Nat.lt_of_lt_of_le (h.lt k hk) hm.size },⟨rfl,rfl,rfl⟩,hm.mono fun i _ g=>⟨by rw[hg i g];decide,by rw[hg i g];decide⟩,fun _ _=>rfl⟩
def grow(w w':World)(f:Nat→Nat)(t k:Nat):Nat:=if k<w.heap.size then f k else if k<w'.heap.size then t else 0
theorem grow_old{w w':World}{f:Nat→Nat}{t k:Nat}(h:k<w.heap.size):grow w w' f t k=f k:=if_pos h
theorem nic_fit{w:World}{F G:Nat→Prop}{nb:Nat}{S:Ni.NicS}(h:Ni.NicO w F nb S)(hf:∀k,F k→k<w.heap.size→G k):Ni.NicO w G nb S:=by
 obtain⟨mb,V,sv,hn,g⟩:=h;exact⟨mb,V,sv,hn,fun k hk=>hf k (g k hk) (hn.lt k hk)⟩
theorem setNic(h:Knl w a K){N:Ni.NicS}(hn:Ni.NicO w' (Ni.Fr (fun k=>a.tag k=3) w) a.nb N)(hm:Mod (fun k=>a.tag k=3) w w')(hq:∀x s,s∈N.q x→s.size≤128)(hg:0≤N.gone):
  KStep w w' a K { a with tag:=grow w w' a.tag 3 } { K with N:=N }:=by
 have ne:∀k,a.tag k≠3→¬a.tag k=3:=fun k hk e=>hk e
 have hz:=hm.size;have od:∀k,a.tag k≠0→grow w w' a.tag 3 k=a.tag k:=fun k hk=>grow_old (h.lt k hk)
 exact⟨{
      head:=(hm.block _ (lQ h.head) (ne _ (by rw[h.t1];decide))).trans h.head
      hx:=SlV.mod h.hx hm fun k hk=>ne k (by rw[h.t5 k (.inl hk)];decide)
      chx:=SlV.mod h.chx hm fun k hk=>ne k (by rw[h.t5 k (.inr (.inl hk))];decide)
      caps:=h.caps.mod hm fun k hk=>ne k (by
       rcases hk with g|g
       ·rw[h.t2 k g];decide
       ·rw[h.t5 k (.inr (.inr g))];decide)
      nic:=nic_fit hn fun k hk hl=>by
       show grow w w' a.tag 3 k=3
       unfold grow;rcases Nat.lt_or_ge k w.heap.size with q|q
       ·rw[if_pos q];rcases hk with z|z
        ·exact z
        ·omega
       ·rw[if_neg (by omega),if_pos hl]
      len:=h.len
      outer:=h.outer.mod hm fun k hk=>ne k (by rw[h.t4 k hk];decide)
      inner:=fun i v l hv hl=>(h.inner i v l hv hl).mod hm fun k hk=>ne k (by rw[h.t6 i v k hv hk];omega)
      ok:=⟨h.ok.n0,h.ok.n1,h.ok.bs,hq,h.ok.hl,hg⟩
      t1:=(od _ (by rw[h.t1];decide)).trans h.t1
      t2:=fun k hk=>(od _ (by rw[h.t2 k hk];decide)).trans (h.t2 k hk)
      t4:=fun k hk=>(od _ (by rw[h.t4 k hk];decide)).trans (h.t4 k hk)
      t5:=fun k hk=>(od _ (by rw[h.t5 k hk];decide)).trans (h.t5 k hk)
      t6:=fun i v k hv hk=>(od _ (by rw[h.t6 i v k hv hk];omega)).trans (h.t6 i v k hv hk)
      lt:=fun k hk=>by
       have hk':grow w w' a.tag 3 k≠0:=hk;unfold grow at hk';rcases Nat.lt_or_ge k w'.heap.size with q|q
       ·exact q
       ·rw[if_neg (by omega),if_neg (by omega)] at hk';exact absurd rfl hk' },⟨rfl,rfl,rfl⟩,hm.mono fun i _ g=>⟨by rw[g];decide,by rw[g];decide⟩,fun k hk=>grow_old hk⟩
theorem setBlk(h:Knl w a K){i j:Nat}{v:Value}{l:List ByteArray}(hv:a.rows[i]? =some v)(hl:K.B[i]? =some l)(hj:j<l.length)(s:ByteArray)(hs:s.size=64):
  ∃g off,(∃cap,v=.slice (some ⟨g,off,none⟩) l.length cap)∧w.cell? ⟨g,off+j,none⟩=(l.map Value.string)[j]? ∧w.frozen? ⟨g,off+j,none⟩=false∧KStep w (w.setCell ⟨g,off+j,none⟩ (.string s)) a K a { K with B:=K.B.set i (l.set j s) }:=by
 have hin:=h.inner i v l hv hl;obtain⟨g,off,cap,rfl⟩:∃g off cap,v=.slice (some ⟨g,off,none⟩) l.length cap:=by
  rcases hin.2 with⟨h0,_⟩|⟨g,off,cap,cur,e,_⟩
  ·omega
  ·exact⟨g,off,cap,e⟩
 have hg:a.tag g=6+i:=h.t6 i _ g hv rfl;have hm:Mod (fun k=>k=g) w (w.setCell ⟨g,off+j,none⟩ (.string s)):=Mod.setCell (F:=fun i=>i=g) (Mod.refl _ _) ⟨g,off+j,none⟩ (.inl rfl) _;have ne:∀k,a.tag k≠6+i→¬k=g:=fun k hk e=>hk (e▸hg)
 refine⟨g,off,⟨cap,rfl⟩,hin.cell j (by omega),hin.free (by omega) _, ?_⟩;refine⟨{
      head:=(hm.block _ (lQ h.head) (ne _ (by rw[h.t1];omega))).trans h.head
      hx:=SlV.mod h.hx hm fun k hk=>ne k (by rw[h.t5 k (.inl hk)];omega)
      chx:=SlV.mod h.chx hm fun k hk=>ne k (by rw[h.t5 k (.inr (.inl hk))];omega)
      caps:=h.caps.mod hm fun k hk=>ne k (by
       rcases hk with q|q
       ·rw[h.t2 k q];omega
       ·rw[h.t5 k (.inr (.inr q))];omega)
      nic:=h.nic.keep hm fun k (hk:a.tag k=3)=>ne k (by rw[hk];omega)
      len:=by rw[h.len];simp
      outer:=h.outer.mod hm fun k hk=>ne k (by rw[h.t4 k hk];omega)
      inner:=fun i' v' l' hv' hl'=> ?_
      ok:=⟨h.ok.n0,h.ok.n1,fun i' l' hl' x hx=> ?_,h.ok.q,h.ok.hl,h.ok.g0⟩
      t1:=h.t1,t2:=h.t2,t4:=h.t4,t5:=h.t5,t6:=h.t6
      lt:=fun k hk=>Nat.lt_of_lt_of_le (h.lt k hk) hm.size },⟨rfl,rfl,rfl⟩,hm.mono fun k _ q=>by subst q;exact⟨by rw[hg];omega,by rw[hg];omega⟩,fun _ _=>rfl⟩
 ·replace hl':(K.B.set i (l.set j s))[i']? =some l':=hl'
  rw[List.getElem?_set] at hl'
  by_cases e:i=i'
  ·subst e;have hv2:a.rows[i]? =some v':=hv';rw[hv] at hv2;cases hv2;rw[if_pos rfl] at hl'
   split at hl'
   ·cases hl';have:=SlV.setCell hin j (by omega) (.string s);rw[List.length_set,List.map_set];exact this
   ·cases hl'
  ·rw[if_neg e] at hl';exact(h.inner i' v' l' hv' hl').mod hm fun k hk=>ne k (by rw[h.t6 i' v' k hv' hk];omega)
 ·replace hl':(K.B.set i (l.set j s))[i']? =some l':=hl'
  rw[List.getElem?_set] at hl'
  by_cases e:i=i'
  ·subst e;rw[if_pos rfl] at hl'
   split at hl'
   ·cases hl';rcases List.mem_or_eq_of_mem_set hx with q|rfl
    ·exact h.ok.bs i l hl x q
    ·exact hs
   ·cases hl'
  ·rw[if_neg e] at hl';exact h.ok.bs i' l' hl' x hx
end KStep
theorem con_gOf(g:Option Gr):Gp.con g=(gOf g).m.con:=by cases g<;>rfl
theorem port_gOf(g:Option Gr)(p:Int):Gp.hasPort g p=decide (p∈(gOf g).m.ports):=by cases g with|none=>simp[Gp.hasPort,gOf]|some G=>rfl
theorem block_gOf(g:Option Gr)(id n:Int):Gp.hasBlock g id n=match Gp.blocksOf (gOf g).m.ext id with|none=>false|some k=>decide (n<k):=by cases g<;>rfl
theorem gr_cells{w:World}{gb:Nat}{g:Gr}{ev pv:Value}(h:w.heap[gb]? =some (.cells (grC g ev pv) 293 (0,0))):w.cell? ⟨gb,0,none⟩=some (.int .u32 g.m.pages)∧w.cell? ⟨gb,1,none⟩=some ev∧w.cell? ⟨gb,2,none⟩=some pv∧w.cell? ⟨gb,3,none⟩=some (.bool g.m.con)∧w.cell? ⟨gb,4,none⟩=some (.int .u32 g.pg)∧w.cell? ⟨gb,5,none⟩=some (.int .u32 g.took)∧∀i,w.frozen? ⟨gb,i,none⟩=false:=by
 refine⟨?_, ?_, ?_, ?_, ?_, ?_,fun i=> ?_⟩
 ·unfold World.cell?;rw[h];rfl
 ·unfold World.cell?;rw[h];rfl
 ·unfold World.cell?;rw[h];rfl
 ·unfold World.cell?;rw[h];rfl
 ·unfold World.cell?;rw[h];rfl
 ·unfold World.cell?;rw[h];rfl
 ·unfold World.frozen?;rw[h];simp
theorem cells_ty{c c':Array Value}{t t':TypeId}{f f':Nat×Nat}(h:(some (Obj.cells c t f):Option Obj)=some (.cells c' t' f')):t=t':=by injection h with h;injection h
theorem SlV.gr{w w':World}{gb:Nat}{c:Array Value}(hg:w.heap[gb]? =some (.cells c 293 (0,0)))(hm:Mod (fun k=>k=gb) w w'){ty:TypeId}{s n:Nat}{v:Value}{xs:List Value}(hsl:SlV w ty s v n xs)(hty:293≠ty):SlV w' ty s v n xs:=by
 refine⟨hsl.1, ?_⟩;rcases hsl.2 with g|⟨g,off,cap,cur,rfl,hgg,rest⟩
 ·exact .inl g
 ·exact .inr ⟨g,off,cap,cur,rfl,(hm.block _ (lQ hgg) (fun e=>by rw[e,hg] at hgg;cases hgg;exact hty rfl)).trans hgg,rest⟩
theorem Cps.setTook{w:World}{a:CAt}{hp:Int}{G:Int→Option Gr}(h:Cps w a hp G){n:Int}{g:Gr}(hn:G n=some g)(t:Int)(t0:0≤t)(t1:t≤g.m.pages):Cps (w.setCell ⟨a.gb n,5,none⟩ (.int .u32 t)) a hp (Gp.upd G n (some { g with took:=t }))∧Mod (fun k=>(G n).isSome=true∧k=a.gb n) w (w.setCell ⟨a.gb n,5,none⟩ (.int .u32 t)):=by
 have hni:(G n).isSome=true:=by rw[hn];rfl
 obtain⟨hg,hm⟩:=h.grant n g hn;obtain⟨D,d,ho,hv,hs⟩:=h.map;have hmod:Mod (fun k=>k=a.gb n) w (w.setCell ⟨a.gb n,5,none⟩ (.int .u32 t)):=Mod.setCell (F:=fun i=>i=a.gb n) (Mod.refl _ _) ⟨a.gb n,5,none⟩ (.inl rfl) _;have b1:=heap_setCell_same w (a.gb n) 5 _ _ (.int .u32 t) hg;have n1:a.cb≠a.gb n:=fun e=>by
  have:=h.head;rw[e,hg] at this;exact absurd (cells_ty this) (by decide)
 have n2:a.mb≠a.gb n:=fun e=>by
  obtain⟨es,clock,hb,_⟩:=ho;rw[e,hg] at hb;cases hb
 have hsm:∀k,(Gp.upd G n (some { g with took:=t }) k).isSome=(G k).isSome:=fun k=>by
  unfold Gp.upd
  split
  ·rename_i e;rw[e,hn];rfl
  ·rfl
 refine⟨⟨(hmod.block _ (lQ h.head) n1).trans h.head,⟨D,d,own_of_block ho (hmod.block _ ho.lt n2),fun x zd=>by rw[hv,hsm],by rw[hs,Gp.cnt_upd (by rw[hn];rfl)]⟩,fun m G' hG'=> ?_,fun m=> ?_,fun m hm=>h.dom m (by rw[←hsm];exact hm),fun m k h1 h2=>h.inj m k (by rw[←hsm];exact h1) (by rw[←hsm];exact h2),by rw[Gp.sum_upd (by rw[hn];rfl)];exact h.fit⟩,hmod.mono fun k _ e=>⟨hni,e⟩⟩
 ·by_cases e:m=n
  ·subst e;rw[Gp.upd_at] at hG';cases hG';exact⟨b1,hm.e.gr hg hmod (by decide),hm.p.gr hg hmod (by decide)⟩
  ·rw[Gp.upd_ne _ _ e] at hG';obtain⟨q1,q2⟩:=h.grant m G' hG';exact⟨(hmod.block _ (lQ q1) fun q=>e (h.inj m n (by rw[hG'];rfl) hni q)).trans q1,q2.e.gr hg hmod (by decide),q2.p.gr hg hmod (by decide)⟩
 ·by_cases e:m=n
  ·subst e;rw[Gp.upd_at];intro G' hG';cases hG';exact⟨(h.ok m g hn).m,t0,t1,(h.ok m g hn).q0⟩
  ·rw[Gp.upd_ne _ _ e];exact h.ok m
theorem wrap32{x:Int}(h0:0≤x)(h1:x≤4294967295):IntKind.u32.wrap x=x:=by rw[IntKind.wrap_u32];omega
namespace Ca
section
variable {w:World} {a:CAt} {hp:Int} {G:Int→Option Gr} {n:Int}
theorem console(h:Cps w a hp G)(hn:I64 n):Calls Tryz.prog 241 #[.pointer (some ⟨a.cb,0,none⟩),.int .i64 n] w fun e w'=>e=.returned (.bool (Gp.con (G n)))∧Below w.heap.size w w':=by
 have HC:=Lh (con_gOf (G n));have H:=Lh (of h hn);clear h hn;go_enter func241,ntmps241;go_wp2_with fail;refine H.out.mono ?_;rintro e w1 ⟨gb,ev,pv,rfl,hb,hg,_⟩;have HB:=Lh hb;obtain⟨g0,g1,g2,g3,g4,g5,_⟩:=gr_cells hg;clear hb hg;go_wp2;go_ret;exact⟨by rw[HC.out];rfl,HB.out⟩
def takeP(w:World)(a:CAt)(hp:Int)(G:Int→Option Gr)(n:Int)(w':World):Prop:=Cps w' a hp (Gp.upd G n (Gp.take (G n)))∧Mod (fun k=>(G n).isSome=true∧k=a.gb n) w w'
theorem take(h:Cps w a hp G)(hn:I64 n):Calls Tryz.prog 229 #[.pointer (some ⟨a.cb,0,none⟩),.int .i64 n] w fun e w'=>e=.returned (.int .i64 (Gp.takeE (G n)))∧takeP w a hp G n w':=by
 cases hg:G n with
 |none=>
  have HF:Hid (∀w',Below w.heap.size w w'→takeP w a hp G n w'):=Lh fun w' hb=>⟨by rw[hg];show Cps w' a hp (Gp.upd G n none);rw[←hg,Gp.upd_same];exact h.below hb,Mod.of_below hb _⟩
  have H:=Lh (of h hn);rw[hg] at H;clear h hn hg;go_enter func229,ntmps229;go_wp2_with fail;refine H.out.mono ?_;rintro e w1 ⟨gb,ev,pv,rfl,hb,hg,_⟩;have HB:=Lh hb;clear hb hg;go_wp2;go_ret;exact⟨rfl,HF.out _ HB.out⟩
 |some g=>
  have hok:=h.ok n g hg;obtain⟨g0,g1,g2,g3,g4,g5,gf⟩:=gr_cells (h.grant n g hg).1;have H:=Lh (of_some h hn hg);have t0:=hok.t0;have t1:=hok.t1;have p1:=hok.m.p1;have HGi:Hid (G n=some g):=Lh hg;clear hg hn
  by_cases q:g.m.pages≤g.took
  ·have hq:decide (g.took≥g.m.pages)=true:=decide_eq_true q;have HE:Hid (Gp.takeE (some g)=4∧Gp.take (some g)=some g):=Lh ⟨by show(if _ then _ else _)=_;rw[if_pos q],by show(if _ then _ else _)=_;rw[if_pos q]⟩;have Hh:Hid (∀V,Below w.heap.size w V→takeP w a hp G n V):=Lh fun V hV=>⟨by rw[HGi.out,HE.out.2,←HGi.out,Gp.upd_same];exact h.below hV,Mod.of_below hV _⟩
   clear h hok;go_enter func229,ntmps229;go_wp2_with fail;refine H.out.mono ?_;rintro e w1 ⟨rfl,rfl⟩;go_wp2;go_region
   all_goals
    go_wp2;go_ret;exact⟨by rw[HE.out.1];rfl,Hh.out _ (by first|exact Below.refl _ _|exact Br.drew)⟩
  ·have hq:decide (g.took≥g.m.pages)=false:=decide_eq_false q;have HE:Hid (Gp.takeE (some g)=0∧Gp.take (some g)=some { g with took:=g.took+1 }):=Lh ⟨by show(if _ then _ else _)=_;rw[if_neg q],by show(if _ then _ else _)=_;rw[if_neg q]⟩;have HS:Hid (∀V,Below w.heap.size w V→takeP w a hp G n (V.setCell ⟨a.gb n,5,none⟩ (.int .u32 (g.took+1)))):=Lh fun V hV=>by
    obtain⟨q1,q2⟩:=(h.below hV).setTook HGi.out (g.took+1) (by omega) (by omega);exact⟨by rw[HGi.out,HE.out.2];exact q1,(Mod.of_below hV _).same q2⟩
   have HW:IntKind.u32.wrap (g.took+1)=g.took+1:=wrap32 (by omega) (by omega);clear h hok;go_enter func229,ntmps229;go_wp2_with fail;refine H.out.mono ?_;rintro e w1 ⟨rfl,rfl⟩;go_wp2;go_region
   all_goals
    go_wp2;go_ret;exact⟨by rw[HE.out.1];rfl,by first|exact HS.out _ Br|exact⟨(HS.out _ Br).1.below Br.drew,(HS.out _ Br).2.drew⟩|exact HS.out _ Br.drew⟩
def giveP(w:World)(a:CAt)(hp:Int)(G:Int→Option Gr)(n:Int)(w':World):Prop:=Cps w' a hp (Gp.upd G n (Gp.give (G n)))∧Mod (fun k=>(G n).isSome=true∧k=a.gb n) w w'
theorem give(h:Cps w a hp G)(hn:I64 n):Calls Tryz.prog 232 #[.pointer (some ⟨a.cb,0,none⟩),.int .i64 n] w fun e w'=>e=.returned (.int .i64 (Gp.giveE (G n)))∧giveP w a hp G n w':=by
 cases hg:G n with
 |none=>
  have HF:Hid (∀w',Below w.heap.size w w'→giveP w a hp G n w'):=Lh fun w' hb=>⟨by rw[hg];show Cps w' a hp (Gp.upd G n none);rw[←hg,Gp.upd_same];exact h.below hb,Mod.of_below hb _⟩
  have H:=Lh (of h hn);rw[hg] at H;clear h hn hg;go_enter func232,ntmps232;go_wp2_with fail;refine H.out.mono ?_;rintro e w1 ⟨gb,ev,pv,rfl,hb,hg,_⟩;have HB:=Lh hb;clear hb hg;go_wp2;go_ret;exact⟨rfl,HF.out _ HB.out⟩
 |some g=>
  have hok:=h.ok n g hg;obtain⟨g0,g1,g2,g3,g4,g5,gf⟩:=gr_cells (h.grant n g hg).1;have H:=Lh (of_some h hn hg);have t0:=hok.t0;have t1:=hok.t1;have p1:=hok.m.p1;have HGi:Hid (G n=some g):=Lh hg;clear hg hn
  by_cases q:g.took=0
  ·have hq:(g.took == 0)=true:=beq_iff_eq.2 q;have HE:Hid (Gp.giveE (some g)=2∧Gp.give (some g)=some g):=Lh ⟨by show(if _ then _ else _)=_;rw[if_pos q],by show(if _ then _ else _)=_;rw[if_pos q]⟩;have Hh:Hid (∀V,Below w.heap.size w V→giveP w a hp G n V):=Lh fun V hV=>⟨by rw[HGi.out,HE.out.2,←HGi.out,Gp.upd_same];exact h.below hV,Mod.of_below hV _⟩
   clear h hok q;go_enter func232,ntmps232;go_wp2_with fail;refine H.out.mono ?_;rintro e w1 ⟨rfl,rfl⟩;go_wp2;go_ret;exact⟨by rw[HE.out.1];rfl,Hh.out _ Br⟩
  ·have hq:(g.took == 0)=false:=beq_eq_false_iff_ne.2 q;have HE:Hid (Gp.giveE (some g)=0∧Gp.give (some g)=some { g with took:=g.took - 1 }):=Lh ⟨by show(if _ then _ else _)=_;rw[if_neg q],by show(if _ then _ else _)=_;rw[if_neg q]⟩;have HS:Hid (giveP w a hp G n (w.setCell ⟨a.gb n,5,none⟩ (.int .u32 (g.took - 1)))):=Lh (by
    obtain⟨q1,q2⟩:=h.setTook HGi.out (g.took - 1) (by omega) (by omega);exact⟨by rw[HGi.out,HE.out.2];exact q1,q2⟩)
   have HW:IntKind.u32.wrap (g.took - 1)=g.took - 1:=wrap32 (by omega) (by omega);clear h hok;go_enter func232,ntmps232;go_wp2_with fail;refine H.out.mono ?_;rintro e w1 ⟨rfl,rfl⟩;go_wp2;go_ret;exact⟨by rw[HE.out.1];rfl,HS.out⟩
def ixRel(w:World)(xs:List Int)(p:Int)(vi:Value)(wr:World):Prop:=∃i:Nat,i≤xs.length∧vi=.int .i64 i∧(∀k:Nat,k<i→xs[k]? ≠some p)∧wr=w
theorem contains{pv:Value}{xs:List Int}(h:SlV w 22 1 pv xs.length (xs.map (Value.int .u16)))(p:Int):
  Calls Tryz.prog 185 #[pv,.int .u16 p] w fun e w'=>e=.returned (.bool (decide (p∈xs)))∧w=w':=by
 have hix:Calls Tryz.prog 247 #[pv,.int .u16 p] w fun e w'=>(∃i:Int,e=.returned (.int .i64 i)∧ -1≤i∧i≤9223372036854775807∧decide (i≥0)=decide (p∈xs))∧w=w':=by
  have hcap:xs.length≤9223372036854775807:=by
   rcases h.2 with⟨h0,_⟩|⟨g,off,cap,cur,_,_,h1,h2,_⟩
   ·omega
   ·unfold maxLen at h2;omega
  obtain⟨ao,ac,rfl⟩:=h.form;have hcell:∀i:Nat,i<xs.length→∃g off v,ao=some ⟨g,off,none⟩∧xs[i]? =some v∧w.cell? ⟨g,off+i,none⟩=some (.int .u16 v):=fun i hi=>by
   rcases h.2 with⟨h0,_⟩|⟨g,off,cap,cur,hv,hg,_⟩
   ·omega
   ·simp only[Value.slice.injEq] at hv;obtain⟨rfl,_,rfl⟩:=hv;refine⟨g,off,_,rfl,Zg hi, ?_⟩;rw[h.cell i (by omega),List.getElem?_map,Zg hi];rfl
  have HC:=Lh hcell;have HN:Hid (∀i:Int,xs.length≤i→i≤9223372036854775807→True):=Lh fun _ _ _=>trivial
  clear h hcell;go_enter func247,ntmps247;go_wp2;go_loopw [5,8] (fun _ vi wr=>ixRel w xs p vi wr) (fun _ vi _=>xs.length - (intOf vi).toNat)
  case atStart=>exact⟨0,by omega,by go_num,fun k hk=>absurd hk (Nat.not_lt_zero _),rfl⟩
  case round=>
   obtain⟨i,hi,rfl,hno,rfl⟩:=hrel;have HNo:=Lh hno;clear hno
   by_cases hin:i<xs.length
   ·obtain⟨g,off,v,rfl,hv,hc⟩:=HC.out i hin;have HV:=Lh hv;clear hv
    by_cases hx:p=v
    ·have hxe:(p == v)=true:=beq_iff_eq.2 hx;have HM:Hid (decide ((i:Int)≥0)=decide (p∈xs)):=Lh (by
      rw[decide_eq_true (by omega),decide_eq_true];rw[hx];exact List.mem_of_getElem? HV.out)
     clear hx;go_wp2;go_ret;exact⟨⟨i,rfl,by omega,by omega,HM.out⟩,rfl⟩
    ·have hxe:(p == v)=false:=beq_eq_false_iff_ne.2 hx;have HX:=Lh hx;clear hx;go_wp2;refine⟨⟨i+1,by omega,by go_num,fun k hk=> ?_,rfl⟩,by simp[intOf];omega⟩;rcases Nat.lt_or_ge k i with q|q
     ·exact HNo.out k q
     ·obtain rfl:k=i:=by omega
      intro e;rw[HV.out] at e;exact HX.out (Option.some.inj e).symm
   ·have HM:Hid (decide ((-1:Int)≥0)=decide (p∈xs)):=Lh (by
     rw[decide_eq_false (by omega),decide_eq_false];intro hm;obtain⟨k,hk⟩:=List.getElem?_of_mem hm;exact HNo.out k (by have:=(List.getElem?_eq_some_iff.1 hk).1;omega) hk)
    go_wp2;go_ret;exact⟨⟨-1,rfl,by omega,by omega,HM.out⟩,rfl⟩
 have H:=Lh hix;clear hix h;go_enter func185,ntmps185;go_wp2_with fail;refine H.out.mono ?_;rintro e w1 ⟨⟨i,rfl,i0,i1,hd⟩,rfl⟩;have HD:=Lh hd;clear hd;go_wp2;go_ret;exact⟨by rw[HD.out];rfl,rfl⟩
end
end Ca
theorem two_of{w:World}{b:Nat}{t:TypeId}{x y:Value}(h:w.heap[b]? =some (.cells #[x,y] t (0,0))):w.cell? ⟨b,0,none⟩=some x∧w.cell? ⟨b,1,none⟩=some y∧∀i,w.frozen? ⟨b,i,none⟩=false:=by
 refine⟨?_, ?_,fun i=> ?_⟩
 ·unfold World.cell?;rw[h];rfl
 ·unfold World.cell?;rw[h];rfl
 ·unfold World.frozen?;rw[h];simp
theorem set2_blk{V:World}{b:Nat}{t:TypeId}{a0 a1:Value}(h0:V.heap[b]? =some (.cells #[a0,a1] t (0,0)))(x y:Value):((V.setCell ⟨b,0,none⟩ x).setCell ⟨b,1,none⟩ y).heap[b]? =some (.cells #[x,y] t (0,0)):=by
 have b1:=heap_setCell_same V b 0 _ _ x h0;exact heap_setCell_same _ b 1 _ _ y b1
theorem set2_mod(V:World)(b:Nat)(x y:Value):Mod (fun k=>k=b) V ((V.setCell ⟨b,0,none⟩ x).setCell ⟨b,1,none⟩ y):=
 Mod.setCell (F:=fun i=>i=b) (Mod.setCell (F:=fun i=>i=b) (Mod.refl _ _) ⟨b,0,none⟩ (.inl rfl) _) ⟨b,1,none⟩ (.inl rfl) _
namespace Ca
section
variable {w:World} {a:CAt} {hp:Int} {G:Int→Option Gr} {n:Int}
theorem port(h:Cps w a hp G)(hn:I64 n)(p:Int):Calls Tryz.prog 238 #[.pointer (some ⟨a.cb,0,none⟩),.int .i64 n,.int .u16 p] w fun e w'=>e=.returned (.bool (Gp.hasPort (G n) p))∧Below w.heap.size w w':=by
 have HC:=Lh (port_gOf (G n) p);have H:=Lh (of h hn);clear h hn;go_enter func238,ntmps238;go_wp2_with fail;refine H.out.mono ?_;rintro e w1 ⟨gb,ev,pv,rfl,hb,hg,hm⟩;have HB:=Lh hb;obtain⟨g0,g1,g2,g3,g4,g5,_⟩:=gr_cells hg;have HM:=Lh hm;clear hb hg hm;go_wp2_with fail;refine(contains HM.out.p p).mono ?_;rintro e w2 ⟨rfl,rfl⟩;go_wp2;go_ret;exact⟨by rw[HC.out];rfl,HB.out⟩
def exRel(w:World)(rb:Nat)(l:List (Int×Int))(id:Int)(vi:Value)(wr:World):Prop:=
 ∃i:Nat,i≤l.length∧vi=.int .i64 i∧(∀(k:Nat) (x:Int×Int),k<i→l[k]? =some x→x.1≠id)∧Below w.heap.size w wr∧wr.heap[rb]? =some (.cells #[.int .u32 0,.int .u32 0] 290 (0,0))
def ExtPost(w:World)(l:List (Int×Int))(id:Int)(e:Ending)(w':World):Prop:=
 (∃i n:Int,e=.returned (.tuple #[.agg #[.int .u32 i,.int .u32 n],.bool (Gp.blocksOf l id).isSome])∧∀k,Gp.blocksOf l id=some k→n=k)∧Below w.heap.size w w'
theorem blocksOf_at{l:List (Int×Int)}{id:Int}{i:Nat}{x:Int×Int}(hx:l[i]? =some x)(he:x.1=id)(hno:∀(k:Nat) (x:Int×Int),k<i→l[k]? =some x→x.1≠id):Gp.blocksOf l id=some x.2:=by
 unfold Gp.blocksOf;have:l.find? (fun x=>x.1 == id)=some x:=by
  rw[List.find?_eq_some_iff_getElem];obtain⟨hi,hxx⟩:=List.getElem?_eq_some_iff.1 hx;refine⟨by simp[he],i,hi,hxx,fun j hj=> ?_⟩;have:=hno j _ hj (Zg (by omega));simp[this]
 rw[this];rfl
theorem blocksOf_none{l:List (Int×Int)}{id:Int}(hno:∀(k:Nat) (x:Int×Int),k<l.length→l[k]? =some x→x.1≠id):Gp.blocksOf l id=none:=by
 unfold Gp.blocksOf;rw[List.find?_eq_none.2]
 ·rfl
 ·intro x hx;obtain⟨k,hk⟩:=List.getElem?_of_mem hx;simp[hno k x (List.getElem?_eq_some_iff.1 hk).1 hk]
theorem extent{m:Mn}{ev pv:Value}(h:MnAt w ev pv m)(id:Int):Calls Tryz.prog 250 #[.agg (m.cells ev pv),.int .u32 id] w (ExtPost w m.ext id):=by
 have HFin:Hid (∀(i n:Int) (b:Bool) w',b=(Gp.blocksOf m.ext id).isSome→(∀k,Gp.blocksOf m.ext id=some k→n=k)→Below w.heap.size w w'→ExtPost w m.ext id (.returned (.tuple #[.agg #[.int .u32 i,.int .u32 n],.bool b])) w'):=Lh fun i n b w' hb hk hw=>⟨⟨i,n,by rw[hb],hk⟩,hw⟩
 generalize ExtPost w m.ext id=PQ at*;obtain⟨ao,ac,hev⟩:=h.e.form;have hcap:m.ext.length≤9223372036854775807:=by
  rcases h.e.2 with⟨h0,_⟩|⟨g,off,cap,cur,_,_,h1,h2,_⟩
  ·omega
  ·unfold maxLen at h2;omega
 rw[hev] at h;have hcell:∀V,Below w.heap.size w V→∀i:Nat,i<m.ext.length→∃g off x,ao=some ⟨g,off,none⟩∧m.ext[i]? =some x∧V.cell? ⟨g,off+i*2,none⟩=some (.int .u32 x.1)∧V.cell? ⟨g,off+i*2+1,none⟩=some (.int .u32 x.2):=fun V hV i hi=>by
  have hE:=h.e.below hV;rcases hE.2 with⟨h0,_⟩|⟨g,off,cap,cur,hv,hg,_⟩
  ·omega
  ·simp only[Value.slice.injEq] at hv;obtain⟨rfl,_,rfl⟩:=hv;have hx:=extC_at m.ext i _ (Zg hi);refine⟨g,off,_,rfl,Zg hi, ?_, ?_⟩
   ·rw[hE.cell (i*2) (by omega)];exact hx.1
   ·rw[Nat.add_assoc,hE.cell (i*2+1) (by omega)];exact hx.2
 have HC:=Lh hcell;unfold Mn.cells;rw[hev];clear h hcell hev;have hb1:Below w.heap.size w ((w.alloc (.cells #[.int .u32 m.pages,.slice ao m.ext.length ac,pv,.bool m.con] 109)).alloc (.cells #[.int .u32 0,.int .u32 0] 290)):=(Ba _).alloc (by simp) _;have hrb:=heap_alloc_new (w.alloc (.cells #[.int .u32 m.pages,.slice ao m.ext.length ac,pv,.bool m.con] 109)) (.cells #[.int .u32 0,.int .u32 0] 290);have HSt:Hid (exRel w (w.alloc (.cells #[.int .u32 m.pages,.slice ao m.ext.length ac,pv,.bool m.con] 109)).heap.size m.ext id (.int .i64 0) ((w.alloc (.cells #[.int .u32 m.pages,.slice ao m.ext.length ac,pv,.bool m.con] 109)).alloc (.cells #[.int .u32 0,.int .u32 0] 290))):=Lh ⟨0,Nat.zero_le _,rfl,fun k x hk=>absurd hk (Nat.not_lt_zero _),hb1,hrb⟩;have hrz:(w.alloc (.cells #[.int .u32 m.pages,.slice ao m.ext.length ac,pv,.bool m.con] 109)).heap.size=w.heap.size+1:=by simp
 have hrw:w.heap.size≤w.heap.size+1:=by omega
 rw[hrz] at HSt;clear hb1 hrb hrz;go_enter func250,ntmps250;go_wp2;obtain⟨rb,hrbe⟩:∃r,w.heap.size+1=r:=⟨_,rfl⟩;rw[hrbe] at HSt hrw⊢;clear hrbe;go_loopw [7,11] (fun _ vi wr=>exRel w rb m.ext id vi wr) (fun _ vi _=>m.ext.length - (intOf vi).toNat)
 case atStart=>exact HSt.out
 case round=>
  clear HSt;obtain⟨i,hi,rfl,hno,hbw,hrb⟩:=hrel;have HNo:=Lh hno;have HB:=Lh hbw;have HR:=Lh hrb;have Hz:Hid (w.heap.size≤rb):=Lh hrw
  by_cases hin:i<m.ext.length
  ·obtain⟨g,off,x,rfl,hx,hc0,hc1⟩:=HC.out wr hbw i hin;have HX:=Lh hx;clear hno hbw hrb hx HC;have hrl:rb<wr.heap.size:=lQ HR.out;have hra:∀o,(wr.alloc o).heap[rb]? =some (.cells #[.int .u32 0,.int .u32 0] 290 (0,0)):=fun o=>(Below.heap_alloc _ _ _ hrl).trans HR.out
   have hal:∀o,Below w.heap.size w (wr.alloc o):=fun o=>HB.out.alloc HB.out.size _
   have HAl:=Lh hal;have HRa:=Lh hra;have r0:=fun o=>(two_of (hra o)).1
   have r1:=fun o=>(two_of (hra o)).2.1
   have rf:=fun o=>(two_of (hra o)).2.2
   clear hra hal hrl
   by_cases hxe:x.1=id
   ·have hd:(x.1 == id)=true:=beq_iff_eq.2 hxe;have HBl:=Lh (blocksOf_at HX.out hxe HNo.out);have HF1:Hid (∀o,PQ (.returned (.tuple #[.agg #[.int .u32 id,.int .u32 x.2],.bool true])) (((wr.alloc o).setCell ⟨rb,0,none⟩ (.int .u32 id)).setCell ⟨rb,1,none⟩ (.int .u32 x.2))):=Lh fun o=>HFin.out id x.2 true _ (by rw[HBl.out];rfl) (fun k hk=>by rw[HBl.out] at hk;exact Option.some.inj hk) (Mod.below (F:=fun k=>k=rb) (HAl.out o) (set2_mod _ _ _ _) (HAl.out o).size fun k _ e=>by rw[e];exact Hz.out)
    have HT:=Lh fun o=>two_of (set2_blk (HRa.out o) (.int .u32 id) (.int .u32 x.2))
    go_wp2;have t0:=fun o=>(HT.out o).1
    have t1:=fun o=>(HT.out o).2.1
    refine bodyPost_ret (v:=.tuple #[.agg #[.int .u32 id,.int .u32 x.2],.bool true]) (by simp[results,Tryz.results250,go_sem, *]) rfl ?_;exact HF1.out _
   ·have hd:(x.1 == id)=false:=beq_eq_false_iff_ne.2 hxe;have HXe:=Lh hxe;go_wp2;refine⟨⟨i+1,by omega,by go_num,fun k y hk hy=> ?_,HAl.out _,HRa.out _⟩,by simp[intOf];omega⟩;rcases Nat.lt_or_ge k i with q|q
    ·exact HNo.out k y q hy
    ·obtain rfl:k=i:=by omega
     rw[HX.out] at hy;cases hy;exact HXe.out
  ·have HBl:=Lh (blocksOf_none (l:=m.ext) (id:=id) fun k x hk hx=>HNo.out k x (by omega) hx);obtain⟨r0,r1,rf⟩:=two_of HR.out;have HF1:Hid (PQ (.returned (.tuple #[.agg #[.int .u32 0,.int .u32 0],.bool false])) ((wr.setCell ⟨rb,0,none⟩ (.int .u32 0)).setCell ⟨rb,1,none⟩ (.int .u32 0))):=Lh (HFin.out 0 0 false _ (by rw[HBl.out];rfl) (fun k hk=>by rw[HBl.out] at hk;cases hk) (Mod.below (F:=fun k=>k=rb) HB.out (set2_mod _ _ _ _) HB.out.size fun k _ e=>by rw[e];exact Hz.out));have HT:=Lh (two_of (set2_blk HR.out (.int .u32 0) (.int .u32 0)));clear hno hbw hrb HC;go_wp2;have t0:=HT.out.1;have t1:=HT.out.2.1;refine bodyPost_ret (v:=.tuple #[.agg #[.int .u32 0,.int .u32 0],.bool false]) (by simp[results,Tryz.results250,go_sem, *]) rfl ?_;exact HF1.out
theorem block(h:Cps w a hp G){en:Int}(hn:I64 en)(id n:Int):Calls Tryz.prog 233 #[.pointer (some ⟨a.cb,0,none⟩),.int .i64 en,.int .u32 id,.int .u32 n] w fun e w'=>e=.returned (.bool (Gp.hasBlock (G en) id n))∧Below w.heap.size w w':=by
 have HC:=Lh (block_gOf (G en) id n);have H:=Lh (of h hn);clear h hn;go_enter func233,ntmps233;go_wp2_with fail;refine H.out.mono ?_;rintro e w1 ⟨gb,ev,pv,rfl,hb,hg,hm⟩;have HB:=Lh hb;obtain⟨g0,g1,g2,g3,g4,g5,_⟩:=gr_cells hg;have HX:=Lh (extent hm id);unfold Mn.cells at HX;clear hb hg hm;go_wp2_with fail;refine HX.out.mono ?_;rintro e w2 ⟨⟨i,k,rfl,hk⟩,hb2⟩;have HB2:=Lh (bQ HB.out hb2);have HAl:Hid (∀o,Below w.heap.size w (w2.alloc o)):=Lh fun o=>HB2.out.alloc HB2.out.size _
 cases hbo:Gp.blocksOf (gOf (G en)).m.ext id with
 |none=>
  have HV:Hid (Gp.hasBlock (G en) id n=false):=Lh (by rw[HC.out,hbo]);clear hk hb2 hbo HX HC H;go_wp2;go_ret;exact⟨by rw[HV.out];rfl,HAl.out _⟩
 |some z=>
  obtain rfl:=hk z hbo;have HV:Hid (Gp.hasBlock (G en) id n=decide (n<k)):=Lh (by rw[HC.out,hbo]);clear hk hb2 hbo HX HC H;go_wp2;go_ret;exact⟨by rw[HV.out];rfl,HAl.out _⟩
end
end Ca
namespace Gp
def badX(x:Int×Int):Bool:=decide (16≤x.1)||decide (x.2<1)||decide (1024<x.2)
def risesB{X:Type}(f:X→X→Bool):List X→Bool
 |a::b::l=>f a b&&risesB f (b::l)
 |_=>true
theorem risesB_iff{X:Type}(f:X→X→Bool):∀l:List X,risesB f l=true↔∀(k:Nat) (x y:X),l[k]? =some x→l[k+1]? =some y→f x y=true
 | []=>⟨fun _ k x y h=>by simp at h,fun _=>rfl⟩
 | [a]=>⟨fun _ k x y _ h=>by simp at h,fun _=>rfl⟩
 |a::b::l=>by
  unfold risesB;rw[Bool.and_eq_true,risesB_iff f (b::l)]
  constructor
  ·rintro⟨h1,h2⟩ k x y hx hy;cases k with
   |zero=>simp at hx hy;subst hx;subst hy;exact h1
   |succ k=>exact h2 k x y (by simpa using hx) (by simpa using hy)
  ·intro h;exact⟨h 0 a b rfl rfl,fun k x y hx hy=>h (k+1) x y (by simpa using hx) (by simpa using hy)⟩
def mayM(m:Mn):Bool:= !(m.ext.any badX)&&risesB (fun a b=>decide (a.1<b.1)) m.ext&&risesB (fun a b=>decide (a<b)) m.ports&& !decide ((0:Int)∈m.ports)&&decide (m.ports.length≤16)&&decide (m.pages≤1024)
end Gp
theorem ext_cells{w:World}{ao:Option Addr}{ac:Nat}{l:List (Int×Int)}(h:SlV w 290 2 (.slice ao l.length ac) l.length (extC l)){i:Nat}{x:Int×Int}(hx:l[i]? =some x):∃g off,ao=some ⟨g,off,none⟩∧w.cell? ⟨g,off+i*2,none⟩=some (.int .u32 x.1)∧w.cell? ⟨g,off+i*2+1,none⟩=some (.int .u32 x.2):=by
 have hi:=(List.getElem?_eq_some_iff.1 hx).1;rcases h.2 with⟨h0,_⟩|⟨g,off,cap,cur,hv,hg,_⟩
 ·omega
 ·simp only[Value.slice.injEq] at hv;obtain⟨rfl,_,rfl⟩:=hv;have hx:=extC_at l i _ hx;refine⟨g,off,rfl, ?_, ?_⟩
  ·rw[h.cell (i*2) (by omega)];exact hx.1
  ·rw[Nat.add_assoc,h.cell (i*2+1) (by omega)];exact hx.2
theorem u16_cell{w:World}{ao:Option Addr}{ac:Nat}{l:List Int}(h:SlV w 22 1 (.slice ao l.length ac) l.length (l.map (Value.int .u16))){i:Nat}{x:Int}(hx:l[i]? =some x):∃g off,ao=some ⟨g,off,none⟩∧w.cell? ⟨g,off+i,none⟩=some (.int .u16 x):=by
 have hi:=(List.getElem?_eq_some_iff.1 hx).1;rcases h.2 with⟨h0,_⟩|⟨g,off,cap,cur,hv,hg,_⟩
 ·omega
 ·simp only[Value.slice.injEq] at hv;obtain⟨rfl,_,rfl⟩:=hv;refine⟨g,off,rfl, ?_⟩;rw[h.cell i (by omega),List.getElem?_map,hx];rfl
theorem cQ{w w':World}(hb:Below w.heap.size w w'){b i:Nat}{v:Value}(h:w.cell? ⟨b,i,none⟩=some v):w'.cell? ⟨b,i,none⟩=some v:=by
 have hl:b<w.heap.size:=by
  unfold World.cell? at h;cases hg:w.heap[b]? with
  |none=>rw[hg] at h;cases h
  |some _=>exact lQ hg
 exact(World.cell?_of_block (w:=w) (hb.block _ hl)).trans h
theorem slv_len{w:World}{e:TypeId}{s n:Nat}{v:Value}{xs:List Value}(h:SlV w e s v n xs):n≤maxLen:=by
 rcases h.2 with⟨h0,_⟩|⟨g,off,cap,cur,_,_,h1,h2,_⟩
 ·unfold maxLen;omega
 ·omega
namespace Dm
section
variable {w:World}
theorem c1(x:Int×Int)(w:World):Calls Tryz.prog 180 #[.agg #[.int .u32 x.1,.int .u32 x.2]] w fun e w'=>e=.returned (.bool (Gp.badX x))∧Below w.heap.size w w':=by
 have HB:Hid (∀o,Below w.heap.size w (w.alloc o)):=Lh fun o=>Ba _
 have HX:Hid (Gp.badX x=(decide (16≤x.1)||decide (x.2<1)||decide (1024<x.2))):=Lh rfl
 by_cases a:16≤x.1
 ·go_enter func180,ntmps180;go_wp2;go_ret;exact⟨by rw[HX.out];simp[a],HB.out _⟩
 by_cases b:x.2<1
 ·go_enter func180,ntmps180;go_wp2;go_ret;exact⟨by rw[HX.out];simp[a,b]<;>omega,HB.out _⟩
 ·go_enter func180,ntmps180;go_wp2;go_ret;exact⟨by rw[HX.out];simp[a,b]<;>omega,HB.out _⟩
theorem c2(x y:Int×Int)(w:World):Calls Tryz.prog 182 #[.agg #[.int .u32 x.1,.int .u32 x.2],.agg #[.int .u32 y.1,.int .u32 y.2]] w fun e w'=>e=.returned (.bool (decide (x.1<y.1)))∧Below w.heap.size w w':=by
 have HB:Hid (∀o p,Below w.heap.size w ((w.alloc o).alloc p)):=Lh fun o p=>(Ba _).alloc (by simp) _
 go_enter func182,ntmps182;go_wp2;go_ret;exact⟨rfl,HB.out _ _⟩
theorem c3(x y:Int)(w:World):Calls Tryz.prog 184 #[.int .u16 x,.int .u16 y] w fun e w'=>e=.returned (.bool (decide (x<y)))∧w=w':=by
 go_enter func184,ntmps184;go_wp2;go_ret;exact⟨rfl,rfl⟩
def cfRel(w:World)(l:List (Int×Int))(vi:Value)(wr:World):Prop:=∃i:Nat,i≤l.length∧vi=.int .i64 i∧(∀(k:Nat) (x:Int×Int),k<i→l[k]? =some x→Gp.badX x=false)∧Below w.heap.size w wr
theorem anyBad{ev:Value}{l:List (Int×Int)}(h:SlV w 290 2 ev l.length (extC l)):Calls Tryz.prog 179 #[ev,.func (.func 180) #[] #[]] w fun e w'=>e=.returned (.bool (l.any Gp.badX))∧Below w.heap.size w w':=by
 have hix:Calls Tryz.prog 246 #[ev,.func (.func 180) #[] #[]] w fun e w'=>(∃i:Int,e=.returned (.int .i64 i)∧ -1≤i∧i≤9223372036854775807∧decide (i≥0)=l.any Gp.badX)∧Below w.heap.size w w':=by
  have hcap:=slv_len h;unfold maxLen at hcap;obtain⟨ao,ac,rfl⟩:=h.form;have HC:=Lh fun V (hV:Below w.heap.size w V)=>h.below hV
  have HB0:=Lh (Below.refl w.heap.size w);clear h;go_enter func246,ntmps246;go_wp2;go_loopw [5,8] (fun _ vi wr=>cfRel w l vi wr) (fun _ vi _=>l.length - (intOf vi).toNat)
  case atStart=>exact⟨0,by omega,by go_num,fun k _ hk=>absurd hk (Nat.not_lt_zero _),HB0.out⟩
  case round=>
   obtain⟨i,hi,rfl,hno,hbw⟩:=hrel;have HNo:=Lh hno;have HB:=Lh hbw;clear hno
   by_cases hin:i<l.length
   ·obtain⟨g,off,rfl,hc0,hc1⟩:=ext_cells (HC.out wr hbw) (Zg hin);obtain⟨x,hx⟩:∃x,l[i]=x:=⟨_,rfl⟩;rw[hx] at hc0 hc1;have HX:Hid (l[i]? =some x):=Lh (by rw[Zg hin,hx]);clear HC hbw hx;cases hbx:Gp.badX x with
    |true=>
     have HM:Hid (decide ((i:Int)≥0)=l.any Gp.badX):=Lh (by
      rw[decide_eq_true (by omega),List.any_eq_true.2];exact⟨x,List.mem_of_getElem? HX.out,hbx⟩)
     have HQ:=Lh (c1 x wr);rw[hbx] at HQ;clear hbx;go_wp2_with fail;refine HQ.out.mono ?_;rintro e w2 ⟨rfl,hb2⟩;have HB2:=Lh (bQ HB.out hb2);clear hb2;go_wp2;go_ret;exact⟨⟨i,rfl,by omega,by omega,HM.out⟩,HB2.out⟩
    |false=>
     have HQ:=Lh (c1 x wr);rw[hbx] at HQ;have HBx:=Lh hbx;clear hbx;go_wp2_with fail;refine HQ.out.mono ?_;rintro e w2 ⟨rfl,hb2⟩;have HB2:=Lh (bQ HB.out hb2);clear hb2;go_wp2;refine⟨⟨i+1,by omega,by go_num,fun k y hk hy=> ?_,HB2.out⟩,by simp[intOf];omega⟩;rcases Nat.lt_or_ge k i with q|q
     ·exact HNo.out k y q hy
     ·obtain rfl:k=i:=by omega
      rw[HX.out] at hy;cases hy;exact HBx.out
   ·have HM:Hid (decide ((-1:Int)≥0)=l.any Gp.badX):=Lh (by
     rw[decide_eq_false (by omega)]
     symm
     rw[List.any_eq_false];intro x hx;obtain⟨k,hk⟩:=List.getElem?_of_mem hx;rw[HNo.out k x (by have:=(List.getElem?_eq_some_iff.1 hk).1;omega) hk]
     simp)
    clear HC hbw;go_wp2;go_ret;exact⟨⟨-1,rfl,by omega,by omega,HM.out⟩,HB.out⟩
 have H:=Lh hix;clear hix h;go_enter func179,ntmps179;go_wp2_with fail;refine H.out.mono ?_;rintro e w1 ⟨⟨i,rfl,i0,i1,hd⟩,hb⟩;have HD:=Lh hd;have HB:=Lh hb;clear hd hb;go_wp2;go_ret;exact⟨by rw[HD.out];rfl,HB.out⟩
def rsRel{X:Type}(w:World)(l:List X)(f:X→X→Bool)(vi:Value)(wr:World):Prop:=∃i:Nat,i≤l.length - 1∧vi=.int .i64 i∧(∀(k:Nat) (x y:X),k<i→l[k]? =some x→l[k+1]? =some y→f x y=true)∧Below w.heap.size w wr
theorem rises_true{X:Type}{l:List X}{f:X→X→Bool}{i:Nat}(hi:l.length - 1≤i)(h:∀(k:Nat) (x y:X),k<i→l[k]? =some x→l[k+1]? =some y→f x y=true):Gp.risesB f l=true:=
 (Gp.risesB_iff f l).2 fun k x y hx hy=>h k x y (by have:=(List.getElem?_eq_some_iff.1 hy).1;omega) hx hy
theorem rises_false{X:Type}{l:List X}{f:X→X→Bool}{i:Nat}{x y:X}(hx:l[i]? =some x)(hy:l[i+1]? =some y)(h:f x y=false):Gp.risesB f l=false:=by
 rw[Bool.eq_false_iff];intro g;have:=(Gp.risesB_iff f l).1 g i x y hx hy;rw[h] at this;cases this
theorem rises16{pv:Value}{l:List Int}(h:SlV w 22 1 pv l.length (l.map (Value.int .u16))):Calls Tryz.prog 183 #[pv,.func (.func 184) #[] #[]] w fun e w'=>e=.returned (.bool (Gp.risesB (fun a b=>decide (a<b)) l))∧Below w.heap.size w w':=by
 have hcap:=slv_len h;unfold maxLen at hcap;obtain⟨ao,ac,rfl⟩:=h.form;have HC:=Lh fun V (hV:Below w.heap.size w V)=>h.below hV
 have HB0:=Lh (Below.refl w.heap.size w);clear h;go_enter func183,ntmps183;go_wp2;go_loopw [5,9] (fun _ vi wr=>rsRel w l (fun a b=>decide (a<b)) vi wr) (fun _ vi _=>l.length - (intOf vi).toNat)
 case atStart=>exact⟨0,by omega,by go_num,fun k _ _ hk=>absurd hk (Nat.not_lt_zero _),HB0.out⟩
 case round=>
  obtain⟨i,hi,rfl,hno,hbw⟩:=hrel;have HNo:=Lh hno;have HB:=Lh hbw;clear hno
  by_cases hin:i+1<l.length
  ·obtain⟨g,off,rfl,hc0⟩:=u16_cell (HC.out wr hbw) (Zg (show i<l.length by omega));obtain⟨g',off',he,hc1⟩:=u16_cell (HC.out wr hbw) (Zg hin);simp only[Option.some.injEq,Addr.mk.injEq,and_true] at he;obtain⟨rfl,rfl⟩:=he;obtain⟨x,hx⟩:∃x,l[i]=x:=⟨_,rfl⟩;obtain⟨y,hy⟩:∃y,l[i+1]=y:=⟨_,rfl⟩;rw[hx] at hc0;rw[hy] at hc1;have HX:Hid (l[i]? =some x∧l[i+1]? =some y):=Lh ⟨by rw[Zg (show i<l.length by omega),hx],by rw[Zg hin,hy]⟩;have HQ:=Lh (c3 x y);have i0:(0:Int)≤i:=by omega
   have i1:(i:Int)≤l.length:=by omega
   have i2:(i:Int)<l.length:=by omega
   have iw:IntKind.i64.wrap ((i:Int)+1)=(i:Int)+1:=by rw[IntKind.wrap_i64];omega
   have j0:(0:Int)≤(i:Int)+1:=by omega
   have j2:(i:Int)+1<l.length:=by omega
   have jn:((i:Int)+1).toNat=i+1:=by omega
   clear HC hbw hx hy;obtain⟨b,hb⟩:∃b,decide (x<y)=b:=⟨_,rfl⟩;have HD:=Lh hb;rw[hb] at HQ;clear hb;go_wp2;go_region_held3 (fun w'=>w'.cell? ⟨g,off+i,none⟩=some (.int .u16 x)∧w'.cell? ⟨g,off+(i+1),none⟩=some (.int .u16 y))
    (first|exact⟨hc0,hc1⟩)
    (first
     |(
       go_at_call 184;refine(HQ.out _).mono ?_;rintro e x1 ⟨rfl,rfl⟩))
   all_goals
    cases b with
    |true=>
     go_wp2;refine⟨⟨i+1,by omega,by go_num,fun k a c hk ha hc=> ?_,by first|exact HB.out|exact HB.out.drew⟩,by simp[intOf];omega⟩;rcases Nat.lt_or_ge k i with q|q
     ·exact HNo.out k a c q ha hc
     ·obtain rfl:k=i:=by omega
      rw[HX.out.1] at ha;rw[HX.out.2] at hc;cases ha;cases hc;exact HD.out
    |false=>
     have HM:=Lh (rises_false (f:=fun a b=>decide (a<b)) HX.out.1 HX.out.2 HD.out);go_wp2;go_ret;exact⟨by rw[HM.out];rfl,by first|exact HB.out|exact HB.out.drew⟩
  ·have HM:=Lh (rises_true (l:=l) (f:=fun a b=>decide (a<b)) (i:=i) (by omega) HNo.out);have i2:¬(i:Int)<(l.length:Int) - 1:=by omega
   clear HC hbw;go_wp2;go_ret;exact⟨by rw[HM.out];rfl,HB.out⟩
theorem risesX{pv:Value}{l:List (Int×Int)}(h:SlV w 290 2 pv l.length (extC l)):Calls Tryz.prog 181 #[pv,.func (.func 182) #[] #[]] w fun e w'=>e=.returned (.bool (Gp.risesB (fun a b:Int×Int=>decide (a.1<b.1)) l))∧Below w.heap.size w w':=by
 have hcap:=slv_len h;unfold maxLen at hcap;obtain⟨ao,ac,rfl⟩:=h.form;have HC:=Lh fun V (hV:Below w.heap.size w V)=>h.below hV
 have HB0:=Lh (Below.refl w.heap.size w);clear h;go_enter func181,ntmps181;go_wp2;go_loopw [5,9] (fun _ vi wr=>rsRel w l (fun a b:Int×Int=>decide (a.1<b.1)) vi wr) (fun _ vi _=>l.length - (intOf vi).toNat)
 case atStart=>exact⟨0,by omega,by go_num,fun k _ _ hk=>absurd hk (Nat.not_lt_zero _),HB0.out⟩
 case round=>
  obtain⟨i,hi,rfl,hno,hbw⟩:=hrel;have HNo:=Lh hno;have HB:=Lh hbw;clear hno
  by_cases hin:i+1<l.length
  ·obtain⟨g,off,rfl,hc0,hd0⟩:=ext_cells (HC.out wr hbw) (Zg (show i<l.length by omega));obtain⟨g',off',he,hc1,hd1⟩:=ext_cells (HC.out wr hbw) (Zg hin);simp only[Option.some.injEq,Addr.mk.injEq,and_true] at he;obtain⟨rfl,rfl⟩:=he;obtain⟨x,hx⟩:∃x,l[i]=x:=⟨_,rfl⟩;obtain⟨y,hy⟩:∃y,l[i+1]=y:=⟨_,rfl⟩;rw[hx] at hc0 hd0;rw[hy] at hc1 hd1;have HX:Hid (l[i]? =some x∧l[i+1]? =some y):=Lh ⟨by rw[Zg (show i<l.length by omega),hx],by rw[Zg hin,hy]⟩;have HQ:=Lh (c2 x y);have i0:(0:Int)≤i:=by omega
   have i1:(i:Int)≤l.length:=by omega
   have i2:(i:Int)<l.length:=by omega
   have iw:IntKind.i64.wrap ((i:Int)+1)=(i:Int)+1:=by rw[IntKind.wrap_i64];omega
   have j0:(0:Int)≤(i:Int)+1:=by omega
   have j2:(i:Int)+1<l.length:=by omega
   have jn:((i:Int)+1).toNat=i+1:=by omega
   clear HC hbw hx hy;obtain⟨b,hb⟩:∃b,decide (x.1<y.1)=b:=⟨_,rfl⟩;have HD:=Lh hb;rw[hb] at HQ;clear hb;go_wp2;go_region_held3 (fun w'=>w'.cell? ⟨g,off+i*2,none⟩=some (.int .u32 x.1)∧w'.cell? ⟨g,off+i*2+1,none⟩=some (.int .u32 x.2)∧w'.cell? ⟨g,off+(i+1)*2,none⟩=some (.int .u32 y.1)∧w'.cell? ⟨g,off+(i+1)*2+1,none⟩=some (.int .u32 y.2))
    (first|exact⟨hc0,hd0,hc1,hd1⟩|exact⟨cQ hx1 hc0,cQ hx1 hd0,cQ hx1 hc1,cQ hx1 hd1⟩)
    (first
     |(
       go_at_call 182;refine(HQ.out _).mono ?_;rintro e x1 ⟨rfl,hx1⟩;have hb1:Below w.heap.size w x1:=by first|exact bQ HB.out hx1|exact bQ HB.out.drew hx1))
   all_goals
    cases b with
    |true=>
     go_wp2;refine⟨⟨i+1,by omega,by go_num,fun k a c hk ha hc=> ?_,by first|exact hb1|exact hb1.drew⟩,by simp[intOf];omega⟩;rcases Nat.lt_or_ge k i with q|q
     ·exact HNo.out k a c q ha hc
     ·obtain rfl:k=i:=by omega
      rw[HX.out.1] at ha;rw[HX.out.2] at hc;cases ha;cases hc;exact HD.out
    |false=>
     have HM:=Lh (rises_false (f:=fun a b:Int×Int=>decide (a.1<b.1)) HX.out.1 HX.out.2 HD.out);go_wp2;go_ret;exact⟨by rw[HM.out];rfl,by first|exact hb1|exact hb1.drew⟩
  ·have HM:=Lh (rises_true (l:=l) (f:=fun a b:Int×Int=>decide (a.1<b.1)) (i:=i) (by omega) HNo.out);have i2:¬(i:Int)<(l.length:Int) - 1:=by omega
   clear HC hbw;go_wp2;go_ret;exact⟨by rw[HM.out];rfl,HB.out⟩
end
end Dm
end Go.Proofs.YtnpicaigdfnmfaaGreat
