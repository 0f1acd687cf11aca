/- ReadA, RdP, Rd22, HvyA, Law22, Both22, EnvG, Set22 in one text. -/
import Derived.Deep.Slices
import Derived.Deep.Fields
import Derived.ChangeSame
import Derived.SizedLaws
import Derived.ChangeArms
import Derived.Below
import Derived.OpenShut
import Derived.Test.YtjjdjpdmgaipeaaGreatCpRefW
import Derived.Test.YtjjdjpdmgaipeaaGreatCpR19C
import Derived.Test.YtjjdjpdmgaipeaaGreatCpKdoG
import Derived.Test.YtjjdjpdmgaipeaaGreatCpR22L
import Derived.Test.YtjjdjpdmgaipeaaGreatCpKnewG
import Derived.BigQuiet
import Derived.OwnWalk
import Derived.Test.YtjjdjpdmgaipeaaGreatCpCor
import Derived.Test.YtjjdjpdmgaipeaaGreatCpRspF
import Derived.Deep.RegionHeld3
import Derived.Laws.StructEq
import Derived.StillTailTactics
import Derived.Test.YtjjdjpdmgaipeaaGreatCpZa
set_option linter.unusedVariables false
set_option linter.unusedSimpArgs false
set_option maxRecDepth 100000
set_option maxHeartbeats 16000000
open Go.Proofs.Tryz
namespace Go.Proofs.YtjjdjpdmgaipeaaGreat.Rd
open Go.ChangeShapes Go.WideShapes Go.Deep
section
variable {H:Type} {enc:TypeId×Value→H} {P:Program} {w:World} {base:Nat} {spare:Nat→Bool} {held:Bool}
def Wt(P:Program)(t:TypeId)(d:DataW H):Prop:=∀n,n∈d.weights P t→n≤reachBytes
theorem wt_of{ts:List TypeId}{ds:List (DataW H)}(h:(DataW.weightsEach P ts ds).all (·≤reachBytes)=true){j:Nat}{t:TypeId}{d:DataW H}(ht:ts[j]? =some t)(hd:ds[j]? =some d):Wt P t d:=by
 intro n hn;have:=List.all_eq_true.1 h n (DataW.weights_mem_each ht hd n hn)
 simpa using this
theorem wt_str{t:TypeId}{l:List UInt8}(h:Wt P t (.lit (.string l):DataW H)):l.length<140737488355328:=
 Nat.lt_of_le_of_lt (h l.length (by simp[DataW.weights])) (by decide)
theorem wt_field{t:TypeId}{fs:Array Field}(ht:P.underlying t=some (.struct fs)){parts:List (DataW H)}(h:Wt P t (.agg parts)){j:Nat}{f:Field}{d:DataW H}(hf:fs[j]? =some f)(hd:parts[j]? =some d):Wt P f.type d:=by
 intro n hn;refine h n ?_;simp only[DataW.weights,ht];exact DataW.weights_mem_each (by simpa using (show(fs.toList.map (·.type))[j]? =some f.type by simp[hf])) hd n hn
theorem mem_weightsAll{e:TypeId}{d:DataW H}{n:Nat}:∀ {l:List (DataW H)},d∈l→n∈d.weights P e→n∈DataW.weightsAll P e l
 |x::r,hd,hn=>by
  simp only[DataW.weightsAll,List.mem_append];rcases List.mem_cons.1 hd with rfl|h
  ·exact .inl hn
  ·exact .inr (mem_weightsAll h hn)
theorem wt_elem{t e:TypeId}(ht:P.underlying t=some (.slice e)){elems sp:List (DataW H)}(h:Wt P t (.slice elems sp)){d:DataW H}(hd:d∈elems):Wt P e d:=by
 intro n hn;refine h n ?_;simp only[DataW.weights,ht,List.mem_cons,List.mem_append];exact .inr (.inl (mem_weightsAll hd hn))
theorem wt_len{t e:TypeId}(ht:P.underlying t=some (.slice e)){elems sp:List (DataW H)}(h:Wt P t (.slice elems sp)):elems.length*P.bytesOf e<140737488355328:=by
 have:=h ((elems.length+sp.length)*P.bytesOf e) (by simp[DataW.weights,ht]);have h2:elems.length*P.bytesOf e≤(elems.length+sp.length)*P.bytesOf e:=Nat.mul_le_mul_right _ (by omega);exact Nat.lt_of_le_of_lt (Nat.le_trans h2 this) (by decide)
variable {t:TypeId} {fuel:Nat} {v:Value} {y:DataW H×List MemPlace}
theorem rd_int{k:IntKind}(ht:P.underlying t=some (.int k))(h:DataW.trod enc P w base spare held fuel t [v]=some y):∃n,v=.int k n∧(Lit.int k n).wf=true:=by
 obtain⟨n,hc,_,hw⟩:=DataW.trod_int ht h;simp at hc;exact⟨n,hc,hw⟩
theorem rd_bool(ht:P.underlying t=some .bool)(h:DataW.trod enc P w base spare held fuel t [v]=some y):∃b,v=.bool b:=by
 obtain⟨n,hc,_⟩:=DataW.trod_bool ht h;simp at hc;exact⟨n,hc⟩
theorem rd_str(ht:P.underlying t=some .string)(h:DataW.trod enc P w base spare held fuel t [v]=some y)(hw:Wt P t y.1):∃s:ByteArray,v=.string s∧s.size<140737488355328:=by
 obtain⟨s,hc,rfl,_⟩:=DataW.trod_string ht h;simp at hc;have:=wt_str hw;rw[Array.length_toList] at this;exact⟨s,hc,this⟩
theorem rd_struct{fs:Array Field}(ht:P.underlying t=some (.struct fs))(hone:oneCellFields P fs=true)(hC:P.cellsOf t=fs.size){cs:List Value}(h:DataW.trod enc P w base spare held fuel t cs=some y)(hw:Wt P t y.1):
  cs.length=fs.size∧∀(j:Nat) (f:Field),fs[j]? =some f→∃(v:Value) (z:DataW H×List MemPlace) (n:Nat),cs[j]? =some v∧DataW.trod enc P w base spare held n f.type [v]=some z∧Wt P f.type z.1:=by
 obtain⟨xs,n,_,rfl,hlen,hxl,hf⟩:=DataW.trod_struct ht h;rw[hC] at hlen;refine⟨hlen,fun j f hj=> ?_⟩;obtain⟨ho,hk⟩:=hone_of hone j f hj;have hjl:j<fs.size:=(Array.getElem?_eq_some_iff.1 hj).1;have h1:=hf j f hj;rw[ho,hk] at h1;have hone':(cs.drop j).take 1=[cs[j]'(by omega)]:=by
  rw[List.drop_eq_getElem_cons (by omega)];rfl
 rw[hone'] at h1;have hys:xs[j]? =some (xs[j]'(by omega)):=Zg (by omega);exact⟨_,_,n,Zg (by omega),h1.trans hys,wt_field ht hw hj (by rw[List.getElem?_map,hys];rfl)⟩
theorem list_choose{X:Type}(n:Nat)(Q:Nat→X→Prop)(h:∀i,i<n→∃x,Q i x):∃xs:List X,xs.length=n∧∀i x,xs[i]? =some x→Q i x:=by
 induction n with
 |zero=>exact⟨[],rfl,fun i x hx=>by simp at hx⟩
 |succ n ih=>
  obtain⟨xs,hl,hx⟩:=ih fun i hi=>h i (by omega)
  obtain⟨x,hq⟩:=h n (by omega);refine⟨xs++[x],by simp[hl],fun i y hy=> ?_⟩
  by_cases hi:i<n
  ·exact hx i y (by rwa [List.getElem?_append_left (by omega)] at hy)
  ·rw[List.getElem?_append_right (by omega)] at hy;have:i - xs.length=0:=by
    rcases Nat.eq_zero_or_pos (i - xs.length) with g|g
    ·exact g
    ·rw[List.getElem?_eq_none (by simp;omega)] at hy;cases hy
   rw[this] at hy;simp at hy;obtain rfl:i=n:=by omega
   exact hy▸hq
def Sl{X:Type}(w:World)(C:Nat)(Q:(Nat→Option Value)→X→Prop)(a:Option Addr)(cap:Nat)(xs:List X):Prop:=
 xs.length≤cap∧cap≤maxLen∧(xs=[]∨∃b off,a=some ⟨b,off,none⟩∧∀i x,xs[i]? =some x→Q (fun j=>w.cell? ⟨b,off+i*C+j,none⟩) x)∧(a=none→cap=0)
theorem rd_slice{e:TypeId}(ht:P.underlying t=some (.slice e))(C:Nat)(hC:P.cellsOf e=C)(hC0:0<C){X:Type}(Q:(Nat→Option Value)→X→Prop)
  (hQ:∀(cs:List Value) (n:Nat) (z:DataW H×List MemPlace) (g:Nat→Option Value),DataW.trod enc P w base spare held n e cs=some z→Wt P e z.1→cs.length=C→(∀j,j<C→g j=cs[j]?)→∃x,Q g x)
  (h:DataW.trod enc P w base spare held fuel t [v]=some y) (hw:Wt P t y.1):
  ∃(a:Option Addr) (cap:Nat) (xs:List X),v=.slice a xs.length cap∧Sl w C Q a cap xs∧xs.length*P.bytesOf e<140737488355328:=by
 rcases open_slice ht h with⟨hc,_⟩|⟨a,len,cap,m,n,D,Pl,hcs,hb,hl,hm,hmm,rfl,hi⟩
 ·simp at hc;exact⟨none,0,[],hc,⟨Nat.le_refl _,Nat.zero_le _,.inl rfl,fun _=>rfl⟩,by simp⟩
 ·simp at hcs;have hml:len≤m:=by rw[hmm];split<;>omega
  obtain⟨b,off,spot⟩:=a;have hsp:0<len→spot=none:=by
   intro h0;obtain⟨cs',h1,h2⟩:=hi 0 (by omega);rw[hC] at h1;obtain⟨_,hcl,hat⟩:=World.cells?_some h1;have:=hat 0 hC0;have hz:cs'[0]? =some (cs'[0]'(by omega)):=Zg (by omega);rw[hz] at this;cases spot with
   |none=>rfl
   |some s=>simp[Addr.add,World.cell?] at this;split at this<;>simp at this
  obtain⟨xs,hxl,hx⟩:=list_choose len (fun i x=>Q (fun j=>w.cell? ⟨b,off+i*C+j,none⟩) x) (fun i hi'=>by
   obtain⟨cs',h1,h2⟩:=hi i (by omega);rw[hC] at h1;obtain⟨_,hcl,hat⟩:=World.cells?_some h1;refine hQ cs' n _ _ h2 (wt_elem ht hw (List.mem_map.2 ⟨i,List.mem_range.2 hi',rfl⟩)) hcl fun j hj=> ?_
   have hs:=hsp (by omega);subst hs;rw[←hat j hj]
   congr 1
   unfold Addr.add
   by_cases e1:i*C=0
   ·by_cases e2:j=0<;>simp[e1,e2]
   ·by_cases e2:j=0<;>simp[e1,e2,Nat.add_assoc])
  have hlen:len=xs.length:=hxl.symm;have hwl:=wt_len ht hw;rw[List.length_map,List.length_range] at hwl;rw[hlen] at hcs hwl hl;refine⟨_,cap,xs,hcs,⟨hl,hm, ?_,fun h=>by cases h⟩,hwl⟩;cases xs with
  |nil=>exact .inl rfl
  |cons x r=>
   have hs:=hsp (by rw[hlen];simp);subst hs;exact .inr ⟨b,off,rfl,hx⟩
end
end Go.Proofs.YtjjdjpdmgaipeaaGreat.Rd
namespace Go.Proofs.YtjjdjpdmgaipeaaGreat.Cp
open Go.RowKit
structure St.pre(w:World)(x:St):Prop where
 rrow:RowN .u32 w x.ra x.rn x.rf
 rbd:∀i,i<x.rn→0≤x.rf i∧x.rf i≤4294967295
 rlen:x.rn≤9223372036854775807
 p0:0≤x.pc
 p1:x.pc≤4294967295
 prow:RowN .u8 w x.pa x.pn x.pf
 pbd:∀i,i<x.pn→0≤x.pf i∧x.pf i≤255
 a0:0≤x.at'
 a1:x.at'≤65535
 crow:Code w x.ca x.cn x.cf
 cbd:∀i,i<x.cn→(x.cf i).ok
 w0:0≤x.wh
 w1:x.wh≤65535
def insQ(g:Nat→Option Value)(x:Ins):Prop:=(g 0=some (.int .u8 x.op)∧g 1=some (.int .u8 x.d)∧g 2=some (.int .u8 x.a)∧g 3=some (.int .u8 x.b)∧g 4=some (.int .u32 x.imm))∧x.ok
theorem bounds_u8'{n:Int}(h:(Lit.int .u8 n).wf=true):0≤n∧n≤255:=by
 simp[Lit.wf,IntKind.min,IntKind.max,IntKind.signed,IntKind.bits] at h;omega
theorem bounds_u16'{n:Int}(h:(Lit.int .u16 n).wf=true):0≤n∧n≤65535:=by
 simp[Lit.wf,IntKind.min,IntKind.max,IntKind.signed,IntKind.bits] at h;omega
theorem ins_read{H:Type}{enc:TypeId×Value→H}{w:World}{base:Nat}{spare:Nat→Bool}{held:Bool}(cs:List Value)(n:Nat)(z:DataW H×List MemPlace)(g:Nat→Option Value)
  (h:DataW.trod enc Tryz.prog w base spare held n 213 cs=some z) (hw:Rd.Wt Tryz.prog 213 z.1) (hl:cs.length=5) (hg:∀j,j<5→g j=cs[j]?):∃x:Ins,insQ g x:=by
 obtain⟨_,hs⟩:=Rd.rd_struct Tryz.underlying213 (by kernel_rfl) (by kernel_rfl) h hw;obtain⟨v0,z0,n0,e0,t0,q0⟩:=hs 0 _ rfl;obtain⟨x0,rfl,w0⟩:=Rd.rd_int Tryz.underlying5 t0;obtain⟨v1,z1,n1,e1,t1,q1⟩:=hs 1 _ rfl;obtain⟨x1,rfl,w1⟩:=Rd.rd_int Tryz.underlying5 t1;obtain⟨v2,z2,n2,e2,t2,q2⟩:=hs 2 _ rfl;obtain⟨x2,rfl,w2⟩:=Rd.rd_int Tryz.underlying5 t2;obtain⟨v3,z3,n3,e3,t3,q3⟩:=hs 3 _ rfl;obtain⟨x3,rfl,w3⟩:=Rd.rd_int Tryz.underlying5 t3;obtain⟨v4,z4,n4,e4,t4,q4⟩:=hs 4 _ rfl;obtain⟨x4,rfl,w4⟩:=Rd.rd_int Tryz.underlying22 t4;have b0:=bounds_u8' w0;have b1:=bounds_u8' w1;have b2:=bounds_u8' w2;have b3:=bounds_u8' w3;have b4:=bounds_u32 w4;exact⟨⟨x0,x1,x2,x3,x4⟩,⟨(hg 0 (by omega)).trans e0,(hg 1 (by omega)).trans e1,(hg 2 (by omega)).trans e2,(hg 3 (by omega)).trans e3,(hg 4 (by omega)).trans e4⟩,⟨b0.1,b0.2,b1.1,b1.2,b2.1,b2.2,b3.1,b3.2,b4.1,b4.2⟩⟩
def numQ(k:IntKind)(g:Nat→Option Value)(x:Int):Prop:=g 0=some (.int k x)∧(Lit.int k x).wf=true
theorem num_read{H:Type}{enc:TypeId×Value→H}{w:World}{base:Nat}{spare:Nat→Bool}{held:Bool}{k:IntKind}{t:TypeId}(ht:Tryz.prog.underlying t=some (.int k))(cs:List Value)(n:Nat)(z:DataW H×List MemPlace)(g:Nat→Option Value)
  (h:DataW.trod enc Tryz.prog w base spare held n t cs=some z) (hw:Rd.Wt Tryz.prog t z.1) (hl:cs.length=1) (hg:∀j,j<1→g j=cs[j]?):∃x:Int,numQ k g x:=by
 match cs,hl with
 | [v],_=>
  obtain⟨x,rfl,wx⟩:=Rd.rd_int ht h;exact⟨x,hg 0 (by omega),wx⟩
theorem sl_num{k:IntKind}{w:World}{a:Option Addr}{cap:Nat}{xs:List Int}(h:Rd.Sl w 1 (numQ k) a cap xs):RowN k w a xs.length (fun i=>xs.getD i 0)∧∀i,i<xs.length→(Lit.int k (xs.getD i 0)).wf=true:=by
 obtain⟨_,_,h,_⟩:=h;rcases h with rfl|⟨b,off,rfl,h⟩
 ·exact⟨fun g=>absurd g (by simp),fun i hi=>absurd hi (by simp)⟩
 ·have hg:∀i,i<xs.length→xs[i]? =some (xs.getD i 0):=fun i hi=>by rw[List.getD,Zg hi];rfl
  have hc:∀i,i<xs.length→w.cell? ⟨b,off+i,none⟩=some (.int k (xs.getD i 0)):=fun i hi=>by
   have:=(h i _ (hg i hi)).1
   simpa using this
  refine⟨fun hn=>⟨b,off,rfl, ?_,hc⟩,fun i hi=>(h i _ (hg i hi)).2⟩;have:=hc 0 hn;unfold World.cell? at this;cases hq:w.heap[b]? with
  |none=>rw[hq] at this;cases this
  |some _=>exact lQ hq
theorem sl_ins{w:World}{a:Option Addr}{cap:Nat}{xs:List Ins}(h:Rd.Sl w 5 insQ a cap xs):Code w a xs.length (fun i=>xs.getD i Ins.nix)∧∀i,i<xs.length→(xs.getD i Ins.nix).ok:=by
 obtain⟨_,_,h,_⟩:=h;rcases h with rfl|⟨b,off,rfl,h⟩
 ·exact⟨fun g=>absurd g (by simp),fun i hi=>absurd hi (by simp)⟩
 ·have hg:∀i,i<xs.length→xs[i]? =some (xs.getD i Ins.nix):=fun i hi=>by rw[List.getD,Zg hi];rfl
  refine⟨fun _=>⟨b,off,rfl,fun i hi=> ?_⟩,fun i hi=>(h i _ (hg i hi)).2⟩;obtain⟨⟨c0,c1,c2,c3,c4⟩,_⟩:=h i _ (hg i hi);exact⟨c0,c1,c2,c3,c4⟩
theorem state_read{H:Type}{enc:TypeId×Value→H}{w:World}{base:Nat}{spare:Nat→Bool}{held:Bool}(cs:List Value)(n:Nat)(z:DataW H×List MemPlace)
  (h:DataW.trod enc Tryz.prog w base spare held n 34 cs=some z) (hw:Rd.Wt Tryz.prog 34 z.1) (hl:cs.length=7):∃x:St,cs=x.cells.toList∧x.pre w:=by
 obtain⟨_,hs⟩:=Rd.rd_struct Tryz.underlying34 (by kernel_rfl) (by kernel_rfl) h hw;obtain⟨v0,z0,n0,e0,t0,q0⟩:=hs 0 _ rfl;obtain⟨a0,cap0,x0,rfl,s0,l0⟩:=Rd.rd_slice Tryz.underlying23 1 (by kernel_rfl) (by omega) (numQ .u32) (fun cs n z g=>num_read Tryz.underlying22 cs n z g) t0 q0;obtain⟨v1,z1,n1,e1,t1,q1⟩:=hs 1 _ rfl;obtain⟨x1,rfl,w1⟩:=Rd.rd_int Tryz.underlying22 t1;obtain⟨v2,z2,n2,e2,t2,q2⟩:=hs 2 _ rfl;obtain⟨a2,cap2,x2,rfl,s2,l2⟩:=Rd.rd_slice Tryz.underlying30 1 (by kernel_rfl) (by omega) (numQ .u8) (fun cs n z g=>num_read Tryz.underlying5 cs n z g) t2 q2;obtain⟨v3,z3,n3,e3,t3,q3⟩:=hs 3 _ rfl;obtain⟨x3,rfl,w3⟩:=Rd.rd_int Tryz.underlying31 t3;obtain⟨v4,z4,n4,e4,t4,q4⟩:=hs 4 _ rfl;obtain⟨a4,cap4,x4,rfl,s4,l4⟩:=Rd.rd_slice Tryz.underlying32 5 (by kernel_rfl) (by omega) insQ (fun cs n z g=>ins_read cs n z g) t4 q4;obtain⟨v5,z5,n5,e5,t5,q5⟩:=hs 5 _ rfl;obtain⟨x5,rfl,w5⟩:=Rd.rd_int Tryz.underlying31 t5;obtain⟨v6,z6,n6,e6,t6,q6⟩:=hs 6 _ rfl;obtain⟨x6,rfl,w6⟩:=Rd.rd_str Tryz.underlying9 t6 q6;have r0:=sl_num s0;have r2:=sl_num s2;have r4:=sl_ins s4;have b1:=bounds_u32 w1;have b3:=bounds_u16' w3;have b5:=bounds_u16' w5;have hlen:x0.length≤9223372036854775807:=by have h1:=s0.1;have h2:=s0.2.1;unfold maxLen at h2;omega
 refine⟨⟨a0,x0.length,cap0,fun i=>x0.getD i 0,x1,a2,x2.length,cap2,fun i=>x2.getD i 0,x3,a4,x4.length,cap4,fun i=>x4.getD i Ins.nix,x5,x6⟩, ?_,⟨r0.1,fun i hi=>bounds_u32 (r0.2 i hi),hlen,b1.1,b1.2,r2.1,fun i hi=>bounds_u8' (r2.2 i hi),b3.1,b3.2,r4.1,r4.2,b5.1,b5.2⟩⟩;refine List.ext_getElem? fun j=> ?_
 match j with
 |0=>exact e0
 |1=>exact e1
 |2=>exact e2
 |3=>exact e3
 |4=>exact e4
 |5=>exact e5
 |6=>exact e6
 |j+7=>rw[List.getElem?_eq_none (by omega),List.getElem?_eq_none (by simp[St.cells])]
end Go.Proofs.YtjjdjpdmgaipeaaGreat.Cp
namespace Go.Proofs.YtjjdjpdmgaipeaaGreat.Rd
open Go.ChangeShapes Go.WideShapes Go.Deep
section
variable {H:Type} {enc:TypeId×Value→H} {P:Program} {w:World} {base:Nat} {spare:Nat→Bool} {held:Bool}
variable {t:TypeId} {fuel:Nat} {v:Value} {y:DataW H×List MemPlace}
theorem rd_part{fs:Array Field}(ht:P.underlying t=some (.struct fs)){cs:List Value}(h:DataW.trod enc P w base spare held fuel t cs=some y)(hw:Wt P t y.1)(j:Nat)(f:Field)(hj:fs[j]? =some f):
  ∃(z:DataW H×List MemPlace) (n:Nat),DataW.trod enc P w base spare held n f.type ((cs.drop f.offset).take (P.cellsOf f.type))=some z∧Wt P f.type z.1:=by
 obtain⟨xs,n,_,rfl,hlen,hxl,hf⟩:=DataW.trod_struct ht h;have hjl:j<fs.size:=(Array.getElem?_eq_some_iff.1 hj).1;have hys:xs[j]? =some (xs[j]'(by omega)):=Zg (by omega);exact⟨_,n,(hf j f hj).trans hys,wt_field ht hw hj (by rw[List.getElem?_map,hys];rfl)⟩
theorem rd_four{e:TypeId}{k:IntKind}(ht:P.underlying t=some (.array 4 e))(he:P.underlying e=some (.int k))(hC:P.cellsOf e=1)(hC4:P.cellsOf t=4){cs:List Value}(h:DataW.trod enc P w base spare held fuel t cs=some y):
  ∃c:Nat→Int,cs=[.int k (c 0),.int k (c 1),.int k (c 2),.int k (c 3)]∧∀i,i<4→(Lit.int k (c i)).wf=true:=by
 obtain⟨xs,m,_,_,hlen,hxl,hf⟩:=DataW.trod_array ht h;rw[hC4] at hlen;have hone:∀i,i<4→∃x,cs[i]? =some (.int k x)∧(Lit.int k x).wf=true:=fun i hi=>by
  have h1:=hf i hi;rw[hC,Nat.mul_one] at h1;have h2:(cs.drop i).take 1=[cs[i]'(by omega)]:=by
   rw[List.drop_eq_getElem_cons (by omega)];rfl
  rw[h2,Zg (by omega)] at h1;obtain⟨x,hx,hw⟩:=rd_int he h1;exact⟨x,by rw[Zg (by omega),hx],hw⟩
 obtain⟨x0,e0,w0⟩:=hone 0 (by omega);obtain⟨x1,e1,w1⟩:=hone 1 (by omega);obtain⟨x2,e2,w2⟩:=hone 2 (by omega);obtain⟨x3,e3,w3⟩:=hone 3 (by omega);refine⟨fun i=>if i=0 then x0 else if i=1 then x1 else if i=2 then x2 else x3,List.ext_getElem? fun j=> ?_,fun i hi=> ?_⟩
 ·match j with
  |0=>exact e0
  |1=>exact e1
  |2=>exact e2
  |3=>exact e3
  |j+4=>rw[List.getElem?_eq_none (by omega),List.getElem?_eq_none (by simp)]
 ·match i,hi with
  |0,_=>exact w0
  |1,_=>exact w1
  |2,_=>exact w2
  |3,_=>exact w3
end
end Go.Proofs.YtjjdjpdmgaipeaaGreat.Rd
namespace Go.Proofs.YtjjdjpdmgaipeaaGreat.In
open Go.RowKit
structure MnI where
 m:Mn
 ea:Option Addr
 ecap:Nat
 pa:Option Addr
 pcap:Nat
def MnI.ev(x:MnI):Value:=.slice x.ea x.m.ext.length x.ecap
def MnI.pv(x:MnI):Value:=.slice x.pa x.m.ports.length x.pcap
structure MnI.pre(w:World)(x:MnI):Prop where
 i:MnIn w x.ev x.pv x.m
 ok:x.m.ok
theorem MnI.pre.below{w w':World}{x:MnI}(h:x.pre w)(hb:Below w.heap.size w w'):x.pre w':=⟨h.i.below hb,h.ok⟩
def extQ(g:Nat→Option Value)(x:Int×Int):Prop:=(g 0=some (.int .u32 x.1)∧g 1=some (.int .u32 x.2))∧(0≤x.1∧x.1≤4294967295)∧0≤x.2∧x.2≤4294967295
theorem ext_read{H:Type}{enc:TypeId×Value→H}{w:World}{base:Nat}{spare:Nat→Bool}{held:Bool}(cs:List Value)(n:Nat)(z:DataW H×List MemPlace)(g:Nat→Option Value)
  (h:DataW.trod enc Tryz.prog w base spare held n 273 cs=some z) (hw:Rd.Wt Tryz.prog 273 z.1) (hl:cs.length=2) (hg:∀j,j<2→g j=cs[j]?):∃x:Int×Int,extQ g x:=by
 obtain⟨_,hs⟩:=Rd.rd_struct Tryz.underlying273 (by kernel_rfl) (by kernel_rfl) h hw;obtain⟨v0,z0,n0,e0,t0,q0⟩:=hs 0 _ rfl;obtain⟨x0,rfl,w0⟩:=Rd.rd_int Tryz.underlying22 t0;obtain⟨v1,z1,n1,e1,t1,q1⟩:=hs 1 _ rfl;obtain⟨x1,rfl,w1⟩:=Rd.rd_int Tryz.underlying22 t1;exact⟨(x0,x1),⟨(hg 0 (by omega)).trans e0,(hg 1 (by omega)).trans e1⟩,bounds_u32 w0,bounds_u32 w1⟩
theorem sl_rw{w:World}{a:Option Addr}{cap s:Nat}{X:Type}{Q:(Nat→Option Value)→X→Prop}{xs:List X}{C:X→List Value}(hC:∀x,(C x).length=s)(hs:0<s)(hQ:∀g x,Q g x→∀j u,(C x)[j]? =some u→g j=some u)(h:Rd.Sl w s Q a cap xs):RwV w s (.slice a xs.length cap) xs.length (xs.flatMap C):=by
 obtain⟨h1,h2,h3,_⟩:=h;have hlen:∀l:List X,(l.flatMap C).length=l.length*s:=fun l=>by
  induction l with
  |nil=>simp
  |cons x l ih=>rw[List.flatMap_cons,List.length_append,ih,hC,List.length_cons,Nat.add_mul];omega
 have hat:∀(l:List X) (j:Nat),(l.flatMap C)[j]? =(l[j / s]?).bind fun x=>(C x)[j % s]? :=fun l=>by
  induction l with
  |nil=>intro j;simp
  |cons x l ih=>
   intro j;rw[List.flatMap_cons]
   by_cases q:j<s
   ·rw[List.getElem?_append_left (by rw[hC];exact q),Nat.div_eq_of_lt q,Nat.mod_eq_of_lt q];rfl
   ·rw[List.getElem?_append_right (by rw[hC];omega),hC,ih (j - s)];have e1:j / s=(j - s) / s+1:=by
     have:=Nat.add_div_right (j - s) hs;rw[show j - s+s=j by omega] at this;exact this
    have e2:j % s=(j - s) % s:=by
     have:=Nat.add_mod_right (j - s) s;rw[show j - s+s=j by omega] at this;exact this
    rw[e1,e2,List.getElem?_cons_succ]
 refine⟨hlen xs,⟨a,cap,rfl,fun j u hu=> ?_⟩,Nat.le_trans h1 h2⟩;rcases h3 with rfl|⟨b,off,rfl,h⟩
 ·simp at hu
 ·rw[hat] at hu;cases hx:xs[j / s]? with
  |none=>rw[hx] at hu;cases hu
  |some x=>
   rw[hx] at hu;have:=hQ _ _ (h _ _ hx) _ _ hu;refine⟨b,off,rfl, ?_⟩;rw[←this];have e:off+j / s*s+j % s=off+j:=by
    have:=Nat.div_add_mod j s;rw[Nat.mul_comm] at this;generalize j / s*s=p at*;omega
   first|rw[e]|(rw[show off+j / s*s+j % s=off+j from e])
theorem man_read{H:Type}{enc:TypeId×Value→H}{w:World}{base:Nat}{spare:Nat→Bool}{held:Bool}(cs:List Value)(n:Nat)(z:DataW H×List MemPlace)
  (h:DataW.trod enc Tryz.prog w base spare held n 29 cs=some z) (hw:Rd.Wt Tryz.prog 29 z.1) (hl:cs.length=4):∃x:MnI,cs=(x.m.cells x.ev x.pv).toList∧x.pre w:=by
 obtain⟨_,hs⟩:=Rd.rd_struct Tryz.underlying29 (by kernel_rfl) (by kernel_rfl) h hw;obtain⟨v0,z0,n0,e0,t0,q0⟩:=hs 0 _ rfl;obtain⟨x0,rfl,w0⟩:=Rd.rd_int Tryz.underlying22 t0;obtain⟨v1,z1,n1,e1,t1,q1⟩:=hs 1 _ rfl;obtain⟨a1,cap1,x1,rfl,s1,l1⟩:=Rd.rd_slice Tryz.underlying26 2 (by kernel_rfl) (by omega) extQ (fun cs n z g=>ext_read cs n z g) t1 q1;obtain⟨v2,z2,n2,e2,t2,q2⟩:=hs 2 _ rfl;obtain⟨a2,cap2,x2,rfl,s2,l2⟩:=Rd.rd_slice Tryz.underlying27 1 (by kernel_rfl) (by omega) (Cp.numQ .u16) (fun cs n z g=>Cp.num_read Tryz.underlying31 cs n z g) t2 q2;obtain⟨v3,z3,n3,e3,t3,q3⟩:=hs 3 _ rfl;obtain⟨x3,rfl⟩:=Rd.rd_bool Tryz.underlying4 t3;have b0:=bounds_u32 w0;have r1:=sl_rw (s:=2) (C:=fun x:Int×Int=>[.int .u32 x.1,.int .u32 x.2]) (fun x=>rfl) (by omega) (fun g x hq j u hu=>by
  obtain⟨⟨q0,q1⟩,_⟩:=hq
  match j with
  |0=>simp at hu;subst hu;exact q0
  |1=>simp at hu;subst hu;exact q1
  |j+2=>simp at hu) s1
 have r2:=sl_rw (s:=1) (C:=fun x:Int=>[Value.int .u16 x]) (fun x=>rfl) (by omega) (fun g x hq j u hu=>by
  obtain⟨q0,_⟩:=hq
  match j with
  |0=>simp at hu;subst hu;exact q0
  |j+1=>simp at hu) s2
 have hmem:∀ {X:Type} {C:Nat} {Q:(Nat→Option Value)→X→Prop} {a:Option Addr} {cap:Nat} {xs:List X},Rd.Sl w C Q a cap xs→∀x,x∈xs→∃g,Q g x:=fun hsl x hx=>by
  obtain⟨i,hi⟩:=List.getElem?_of_mem hx;rcases hsl.2.2.1 with rfl|⟨b,off,_,hq⟩
  ·cases hx
  ·exact⟨_,hq i x hi⟩
 refine⟨⟨⟨x0,x1,x2,x3⟩,a1,cap1,a2,cap2⟩, ?_,⟨⟨?_, ?_⟩,⟨b0.1,b0.2,fun x hx=> ?_,fun x hx=> ?_⟩⟩⟩
 ·refine List.ext_getElem? fun j=> ?_
  match j with
  |0=>exact e0
  |1=>exact e1
  |2=>exact e2
  |3=>exact e3
  |j+4=>rw[List.getElem?_eq_none (by omega),List.getElem?_eq_none (by simp[Mn.cells])]
 ·exact r1
 ·have e:∀l:List Int,l.flatMap (fun x:Int=>[Value.int .u16 x])=l.map (Value.int .u16):=fun l=>by
   induction l with
   |nil=>rfl
   |cons x l ih=>rw[List.flatMap_cons,ih];rfl
  rw[←e x2];exact r2
 ·obtain⟨g,_,q1,q2⟩:=hmem s1 x hx;exact⟨q1.1,q1.2,q2.1,q2.2⟩
 ·obtain⟨g,_,q1⟩:=hmem s2 x hx;have:=Cp.bounds_u16' q1;omega
structure HdI where
 p:Int
 a:Option Addr
 cap:Nat
 l:List Int
def HdI.v(h:HdI):Value:=.slice h.a h.l.length h.cap
structure HdI.pre(w:World)(h:HdI):Prop where
 p0:0≤h.p
 p1:h.p≤4294967295
 w:Rs.Words w h.a h.l
 bd:∀x,x∈h.l→0≤x∧x≤4294967295
theorem hard_read{H:Type}{enc:TypeId×Value→H}{w:World}{base:Nat}{spare:Nat→Bool}{held:Bool}(cs:List Value)(n:Nat)(z:DataW H×List MemPlace)
  (h:DataW.trod enc Tryz.prog w base spare held n 25 cs=some z) (hw:Rd.Wt Tryz.prog 25 z.1) (hl:cs.length=2):∃x:HdI,cs=[.int .u32 x.p,x.v]∧x.pre w:=by
 obtain⟨_,hs⟩:=Rd.rd_struct Tryz.underlying25 (by kernel_rfl) (by kernel_rfl) h hw;obtain⟨v0,z0,n0,e0,t0,q0⟩:=hs 0 _ rfl;obtain⟨x0,rfl,w0⟩:=Rd.rd_int Tryz.underlying22 t0;obtain⟨v1,z1,n1,e1,t1,q1⟩:=hs 1 _ rfl;obtain⟨a1,cap1,x1,rfl,s1,l1⟩:=Rd.rd_slice Tryz.underlying23 1 (by kernel_rfl) (by omega) (Cp.numQ .u32) (fun cs n z g=>Cp.num_read Tryz.underlying22 cs n z g) t1 q1;have b0:=bounds_u32 w0;refine⟨⟨x0,a1,cap1,x1⟩, ?_,⟨b0.1,b0.2,⟨fun i hi=> ?_, ?_⟩,fun x hx=> ?_⟩⟩
 ·refine List.ext_getElem? fun j=> ?_
  match j with
  |0=>exact e0
  |1=>exact e1
  |j+2=>rw[List.getElem?_eq_none (by omega),List.getElem?_eq_none (by simp)]
 ·rcases s1.2.2.1 with rfl|⟨b,off,rfl,hq⟩
  ·exact absurd hi (by simp)
  ·have:=(hq i _ (Zg hi)).1;refine⟨b,off,rfl, ?_⟩
   simpa using this
 ·have h1:=s1.1;have h2:=s1.2.1;unfold maxLen at h2
  first|(show x1.length≤_;omega)|omega
 ·obtain⟨i,hi⟩:=List.getElem?_of_mem hx;rcases s1.2.2.1 with rfl|⟨b,off,_,hq⟩
  ·cases hx
  ·exact bounds_u32 (hq i x hi).2
end Go.Proofs.YtjjdjpdmgaipeaaGreat.In
namespace Go.Proofs.YtjjdjpdmgaipeaaGreat.In
open Go.RowKit
def strQ(g:Nat→Option Value)(s:ByteArray):Prop:=g 0=some (.string s)∧s.size<140737488355328
theorem str_read{H:Type}{enc:TypeId×Value→H}{w:World}{base:Nat}{spare:Nat→Bool}{held:Bool}(cs:List Value)(n:Nat)(z:DataW H×List MemPlace)(g:Nat→Option Value)
  (h:DataW.trod enc Tryz.prog w base spare held n 9 cs=some z) (hw:Rd.Wt Tryz.prog 9 z.1) (hl:cs.length=1) (hg:∀j,j<1→g j=cs[j]?):∃s:ByteArray,strQ g s:=by
 match cs,hl with
 | [v],_=>
  obtain⟨s,rfl,ws⟩:=Rd.rd_str Tryz.underlying9 h hw;exact⟨s,hg 0 (by omega),ws⟩
structure Txs(w:World)(a:Option Addr)(l:List ByteArray):Prop where
 cell:∀i (h:i<l.length),∃g o,a=some ⟨g,o,none⟩∧w.cell? ⟨g,o+i,none⟩=some (.string l[i])
 sz:∀s,s∈l→s.size<140737488355328
 len:l.length≤9223372036854775807
theorem cell_lt{w:World}{b i:Nat}{v:Value}(h:w.cell? ⟨b,i,none⟩=some v):b<w.heap.size:=by
 unfold World.cell? at h;cases hg:w.heap[b]? with
 |none=>rw[hg] at h;cases h
 |some _=>exact lQ hg
theorem Txs.below{w w':World}{a:Option Addr}{l:List ByteArray}(h:Txs w a l)(hb:Below w.heap.size w w'):Txs w' a l:=
 ⟨fun i hi=>by
  obtain⟨g,o,e,hc⟩:=h.cell i hi;exact⟨g,o,e,(hb.cell (p:=⟨g,_,none⟩) (cell_lt hc)).trans hc⟩,h.sz,h.len⟩
theorem sl_txs{w:World}{a:Option Addr}{cap:Nat}{xs:List ByteArray}(h:Rd.Sl w 1 strQ a cap xs):Txs w a xs:=by
 refine⟨fun i hi=> ?_,fun s hs=> ?_,by have h1:=h.1;have h2:=h.2.1;unfold maxLen at h2;omega⟩
 ·rcases h.2.2.1 with rfl|⟨b,off,rfl,hq⟩
  ·exact absurd hi (by simp)
  ·have:=(hq i _ (Zg hi)).1;refine⟨b,off,rfl, ?_⟩
   simpa using this
 ·obtain⟨i,hi⟩:=List.getElem?_of_mem hs;rcases h.2.2.1 with rfl|⟨b,off,_,hq⟩
  ·cases hs
  ·exact(hq i s hi).2
structure ClI where
 dn:Int
 nm:Int
 c:Nat→Int
 fr:ByteArray
structure ClI.ok(x:ClI):Prop where
 d: -9223372036854775808≤x.dn∧x.dn≤9223372036854775807
 n:0≤x.nm∧x.nm≤4294967295
 c:∀i,i<4→0≤x.c i∧x.c i≤4294967295
 f:x.fr.size<140737488355328
def clQ(g:Nat→Option Value)(x:ClI):Prop:=(∀j,j<7→g j=(callC x.dn x.nm x.c x.fr)[j]?)∧x.ok
theorem call_read{H:Type}{enc:TypeId×Value→H}{w:World}{base:Nat}{spare:Nat→Bool}{held:Bool}(cs:List Value)(n:Nat)(z:DataW H×List MemPlace)(g:Nat→Option Value)
  (h:DataW.trod enc Tryz.prog w base spare held n 51 cs=some z) (hw:Rd.Wt Tryz.prog 51 z.1) (hl:cs.length=7) (hg:∀j,j<7→g j=cs[j]?):∃x:ClI,clQ g x:=by
 match cs,hl with
 | [c0,c1,c2,c3,c4,c5,c6],_=>
  have hs:=Rd.rd_part Tryz.underlying51 h hw;obtain⟨z0,n0,t0,q0⟩:=hs 0 _ rfl;obtain⟨z1,n1,t1,q1⟩:=hs 1 _ rfl;obtain⟨z2,n2,t2,q2⟩:=hs 2 _ rfl;obtain⟨z3,n3,t3,q3⟩:=hs 3 _ rfl;have t0:DataW.trod enc Tryz.prog w base spare held n0 3 (([c0,c1,c2,c3,c4,c5,c6].drop 0).take (Tryz.prog.cellsOf 3))=some z0:=t0;rw[show Tryz.prog.cellsOf 3=1 from by kernel_rfl] at t0;have t1:DataW.trod enc Tryz.prog w base spare held n1 22 (([c0,c1,c2,c3,c4,c5,c6].drop 1).take (Tryz.prog.cellsOf 22))=some z1:=t1;rw[show Tryz.prog.cellsOf 22=1 from by kernel_rfl] at t1;have t2:DataW.trod enc Tryz.prog w base spare held n2 49 (([c0,c1,c2,c3,c4,c5,c6].drop 2).take (Tryz.prog.cellsOf 49))=some z2:=t2;rw[show Tryz.prog.cellsOf 49=4 from by kernel_rfl] at t2;have t3:DataW.trod enc Tryz.prog w base spare held n3 9 (([c0,c1,c2,c3,c4,c5,c6].drop 6).take (Tryz.prog.cellsOf 9))=some z3:=t3;rw[show Tryz.prog.cellsOf 9=1 from by kernel_rfl] at t3;have q3:Rd.Wt Tryz.prog 9 z3.1:=q3;obtain⟨x0,rfl,w0⟩:=Rd.rd_int Tryz.underlying3 (v:=c0) t0;obtain⟨x1,rfl,w1⟩:=Rd.rd_int Tryz.underlying22 (v:=c1) t1;obtain⟨c,hc,wc⟩:=Rd.rd_four (cs:=[c2,c3,c4,c5]) Tryz.underlying49 Tryz.underlying22 (by kernel_rfl) (by kernel_rfl) t2;obtain⟨x3,rfl,w3⟩:=Rd.rd_str Tryz.underlying9 (v:=c6) t3 q3;simp only[List.cons.injEq,and_true] at hc;obtain⟨rfl,rfl,rfl,rfl⟩:=hc;refine⟨⟨x0,x1,c,x3⟩,fun j hj=>(hg j hj).trans ?_,⟨bounds_i64 w0,bounds_u32 w1,fun i hi=>bounds_u32 (wc i hi),w3⟩⟩
  match j,hj with
  |0,_=>rfl
  |1,_=>rfl
  |2,_=>rfl
  |3,_=>rfl
  |4,_=>rfl
  |5,_=>rfl
  |6,_=>rfl
structure Cls(w:World)(a:Option Addr)(l:List ClI):Prop where
 cell:∀i (h:i<l.length),∃g o,a=some ⟨g,o,none⟩∧∀j,j<7→w.cell? ⟨g,o+i*7+j,none⟩=(callC l[i].dn l[i].nm l[i].c l[i].fr)[j]?
 ok:∀i (h:i<l.length),l[i].ok
 len:l.length≤9223372036854775807
theorem Cls.below{w w':World}{a:Option Addr}{l:List ClI}(h:Cls w a l)(hb:Below w.heap.size w w'):Cls w' a l:=
 ⟨fun i hi=>by
  obtain⟨g,o,e,hc⟩:=h.cell i hi;exact⟨g,o,e,fun j hj=>(hb.cell (p:=⟨g,_,none⟩) (cell_lt (by rw[hc 0 (by omega)];rfl))).trans (hc j hj)⟩,h.ok,h.len⟩
theorem sl_cls{w:World}{a:Option Addr}{cap:Nat}{xs:List ClI}(h:Rd.Sl w 7 clQ a cap xs):Cls w a xs:=by
 refine⟨fun i hi=> ?_,fun i hi=> ?_,by have h1:=h.1;have h2:=h.2.1;unfold maxLen at h2;omega⟩
 ·rcases h.2.2.1 with rfl|⟨b,off,rfl,hq⟩
  ·exact absurd hi (by simp)
  ·exact⟨b,off,rfl,(hq i _ (Zg hi)).1⟩
 ·rcases h.2.2.1 with rfl|⟨b,off,rfl,hq⟩
  ·exact absurd hi (by simp)
  ·exact(hq i _ (Zg hi)).2
structure WdI where
 h:HdI
 m:MnI
 x:Cp.St
 ba:Option Addr
 bcap:Nat
 bl:List ByteArray
def WdI.cells(d:WdI):Array Value:= #[.int .u32 d.h.p,d.h.v,.int .u32 d.m.m.pages,d.m.ev,d.m.pv,.bool d.m.m.con,.slice d.x.ra d.x.rn d.x.rcap,.int .u32 d.x.pc,.slice d.x.pa d.x.pn d.x.pcap,.int .u16 d.x.at',.slice d.x.ca d.x.cn d.x.ccap,.int .u16 d.x.wh,.string d.x.text,.slice d.ba d.bl.length d.bcap]
structure WdI.pre(w:World)(d:WdI):Prop where
 h:d.h.pre w
 m:d.m.pre w
 x:d.x.pre w
 b:Txs w d.ba d.bl
theorem world_read{H:Type}{enc:TypeId×Value→H}{w:World}{base:Nat}{spare:Nat→Bool}{held:Bool}(cs:List Value)(n:Nat)(z:DataW H×List MemPlace)
  (h:DataW.trod enc Tryz.prog w base spare held n 37 cs=some z) (hw:Rd.Wt Tryz.prog 37 z.1) (hl:cs.length=14):∃d:WdI,cs=d.cells.toList∧d.pre w:=by
 match cs,hl with
 | [c0,c1,c2,c3,c4,c5,c6,c7,c8,c9,c10,c11,c12,c13],_=>
  have hs:=Rd.rd_part Tryz.underlying37 h hw;obtain⟨z0,n0,t0,q0⟩:=hs 0 _ rfl;obtain⟨z1,n1,t1,q1⟩:=hs 1 _ rfl;obtain⟨z2,n2,t2,q2⟩:=hs 2 _ rfl;obtain⟨z3,n3,t3,q3⟩:=hs 3 _ rfl;have t0:DataW.trod enc Tryz.prog w base spare held n0 25 (([c0,c1,c2,c3,c4,c5,c6,c7,c8,c9,c10,c11,c12,c13].drop 0).take (Tryz.prog.cellsOf 25))=some z0:=t0;rw[show Tryz.prog.cellsOf 25=2 from by kernel_rfl] at t0;have q0:Rd.Wt Tryz.prog 25 z0.1:=q0;have t1:DataW.trod enc Tryz.prog w base spare held n1 29 (([c0,c1,c2,c3,c4,c5,c6,c7,c8,c9,c10,c11,c12,c13].drop 2).take (Tryz.prog.cellsOf 29))=some z1:=t1;rw[show Tryz.prog.cellsOf 29=4 from by kernel_rfl] at t1;have q1:Rd.Wt Tryz.prog 29 z1.1:=q1;have t2:DataW.trod enc Tryz.prog w base spare held n2 34 (([c0,c1,c2,c3,c4,c5,c6,c7,c8,c9,c10,c11,c12,c13].drop 6).take (Tryz.prog.cellsOf 34))=some z2:=t2;rw[show Tryz.prog.cellsOf 34=7 from by kernel_rfl] at t2;have q2:Rd.Wt Tryz.prog 34 z2.1:=q2;have t3:DataW.trod enc Tryz.prog w base spare held n3 35 (([c0,c1,c2,c3,c4,c5,c6,c7,c8,c9,c10,c11,c12,c13].drop 13).take (Tryz.prog.cellsOf 35))=some z3:=t3;rw[show Tryz.prog.cellsOf 35=1 from by kernel_rfl] at t3;have q3:Rd.Wt Tryz.prog 35 z3.1:=q3;obtain⟨hd,hh,ph⟩:=hard_read [c0,c1] n0 z0 t0 q0 rfl;obtain⟨m,hm,pm⟩:=man_read [c2,c3,c4,c5] n1 z1 t1 q1 rfl;obtain⟨x,hx,px⟩:=Cp.state_read [c6,c7,c8,c9,c10,c11,c12] n2 z2 t2 q2 rfl;obtain⟨ba,bcap,bl,rfl,sb,lb⟩:=Rd.rd_slice (v:=c13) Tryz.underlying35 1 (by kernel_rfl) (by omega) strQ (fun cs n z g=>str_read cs n z g) t3 q3;refine⟨⟨hd,m,x,ba,bcap,bl⟩, ?_,⟨ph,pm,px,sl_txs sb⟩⟩
  show [c0,c1]++[c2,c3,c4,c5]++[c6,c7,c8,c9,c10,c11,c12]++[_]=_
  rw[hh,hm,hx];rfl
end Go.Proofs.YtjjdjpdmgaipeaaGreat.In
namespace Go.Proofs.YtjjdjpdmgaipeaaGreat
open Go.RowKit Word
namespace Cp
def heavyV(x:St):Bool:=decide ((40:Int)<x.rn)||decide ((16:Int)<x.pn)||decide ((200:Int)<x.cn)||decide ((2048:Int)<x.text.size)
theorem heavy06(w:World)(x:St):Calls Tryz.prog 65 #[.agg x.cells] w fun e w'=>e=.returned (.bool (heavyV x))∧Below w.heap.size w w':=by
 have hb:Below w.heap.size w (w.alloc (.cells x.cells 34)):=Ba _;obtain⟨b0,b1,b2,b3,b4,b5,b6⟩:=(⟨heap_alloc_new w _⟩:StBox (w.alloc (.cells x.cells 34)) w.heap.size x).cells;have HB:=Lh hb;have HE:Hid (heavyV x=(decide ((40:Int)<x.rn)||decide ((16:Int)<x.pn)||decide ((200:Int)<x.cn)||decide ((2048:Int)<x.text.size))):=Lh rfl;generalize heavyV x=E at*;unfold St.cells at*;cases h1:decide ((40:Int)<x.rn)<;>cases h2:decide ((16:Int)<x.pn)<;>cases h3:decide ((200:Int)<x.cn)<;>cases h4:decide ((2048:Int)<x.text.size)
 all_goals
  go_enter func65,ntmps65;go_wp2;go_ret;exact⟨by rw[HE.out,h1,h2,h3,h4];rfl,HB.out⟩
end Cp
open Go.RowKit
namespace Rk
theorem grant{w:World}{b:RkAt}{K:Kn}(h:Rkl w b K)(hl:K.hx.length≤16){n pg:Int}(p0:0≤pg){m:Mn}{ev pv:Value}(hm:MnIn w ev pv m)(hok:m.ok):
  Calls Tryz.prog 73 #[.pointer (some ⟨b.c.rb,0,none⟩),.int .i64 n,.agg (m.cells ev pv),.int .u32 pg] w fun e w'=>
   (Ca.grantE K.hp K.hx K.g n m pg≠0∧e=.returned (.int .i64 (Ca.grantE K.hp K.hx K.g n m pg))∧Below w.heap.size w w')∨
   (Ca.grantE K.hp K.hx K.g n m pg=0∧e=.returned (.int .i64 0)∧∃b',RkStep w w' b K b' {K with g:=Gp.upd K.g n (some ⟨m,pg,0⟩)}):=by
 refine(Rc.grant h.caps h.hx hl p0 hm hok).mono ?_;rintro e w' (g|⟨g1,g2,c,g3,g4,g5,g6,g7,g8⟩)
 ·exact .inl g
 ·refine .inr ⟨g1,g2,_,RkStep.setCaps h g3 g4 g5 (fun k hk=> ?_) (g8.mono fun k _ e=>.inl (.inl e))⟩;rcases hk with(z|z)|z
  ·exact .inl (.inl (.inl (by rw[z,g4])))
  ·exact .inr (g7 k z)
  ·exact(g6 k z).imp .inr id
end Rk
namespace L22
open In
structure Light(d:WdI)(l:List ClI):Prop where
 e:d.h.l.length≤20
 me:d.m.m.ext.length≤40
 mp:d.m.m.ports.length≤40
 x:Cp.heavyV d.x=false
 bl:d.bl.length≤60
 ll:l.length≤100
 f:∀i (h:i<l.length),l[i].fr.size≤300
structure WBox(w:World)(b:Nat)(d:WdI):Prop where
 blk:w.heap[b]? =some (.cells d.cells 37 (0,0))
theorem WBox.below{w w':World}{b:Nat}{d:WdI}(h:WBox w b d)(hb:Below w.heap.size w w'):WBox w' b d:=⟨(hb.block _ (lQ h.blk)).trans h.blk⟩
theorem WBox.cell{w:World}{b:Nat}{d:WdI}(h:WBox w b d)(i:Nat)(v:Value)(hi:d.cells[i]? =some v):w.cell? ⟨b,i,none⟩=some v:=by
 unfold World.cell?;rw[h.blk];exact hi
theorem large(w:World)(x:MnI):Calls Tryz.prog 64 #[.agg #[.int .u32 x.m.pages,.slice x.ea x.m.ext.length x.ecap,.slice x.pa x.m.ports.length x.pcap,.bool x.m.con]] w fun e w'=>e=.returned (.bool (decide (40<x.m.ext.length)||decide (40<x.m.ports.length)))∧Below w.heap.size w w':=by
 have HB:=Lh ((Below.refl w.heap.size w).alloc (Nat.le_refl _) (.cells #[.int .u32 x.m.pages,.slice x.ea x.m.ext.length x.ecap,.slice x.pa x.m.ports.length x.pcap,.bool x.m.con] 29));generalize x.m.ext.length=na at*;generalize x.m.ports.length=nb at*
 by_cases h1:40<na
 ·have e1:((40:Int)<na):=by omega
  go_enter func64,ntmps64;go_wp2;go_ret;exact⟨by simp[h1],HB.out⟩
 ·have e1:¬((40:Int)<na):=by omega
  by_cases h2:40<nb
  ·have e2:((40:Int)<nb):=by omega
   go_enter func64,ntmps64;go_wp2;go_ret;exact⟨by simp[h2],HB.out⟩
  ·have e2:¬((40:Int)<nb):=by omega
   go_enter func64,ntmps64;go_wp2;go_ret;exact⟨by simp[h1,h2],HB.out⟩
def h1Rel(w1:World)(n:Nat)(vn vi:Value)(wr:World):Prop:=∃(i:Nat) (s:Int),i≤n∧i≤40∧vi=.int .i64 i∧vn=.int .u32 s∧0≤s∧s≤1000*i∧wr=w1
def h2Rel(w1:World)(l:List ClI)(vi:Value)(wr:World):Prop:=∃i:Nat,i≤l.length∧i≤200∧vi=.int .i64 i∧(∀k (h:k<l.length),k<i→l[k].fr.size≤300)∧wr=w1
theorem heavy(w:World)(d:WdI)(hd:d.pre w)(la:Option Addr)(lcap:Nat)(l:List ClI)(hl:Cls w la l):
  Calls Tryz.prog 8 #[.agg d.cells,.slice la l.length lcap] w fun e w'=>∃b,e=.returned (.bool b)∧(b=false→Light d l)∧Below w.heap.size w w':=by
 have hb:Below w.heap.size w (w.alloc (.cells d.cells 37)):=Ba _;have hbx:WBox (w.alloc (.cells d.cells 37)) w.heap.size d:=⟨heap_alloc_new w _⟩;have HBx:=Lh hbx;have HB:=Lh hb;have HL:=Lh (hl.below hb);have HW:=Lh (Ca.words_below hd.h.w hb);have HBd:=Lh hd.h.bd;have HPost:Hid (∀b w',(b=false→Light d l)→Below w.heap.size w w'→∃b',Ending.returned (.bool b)=.returned (.bool b')∧(b'=false→Light d l)∧Below w.heap.size w w'):=Lh fun b w' h1 h2=>⟨b,rfl,h1,h2⟩
 have HLg:=Lh fun V=>large V d.m
 have HHv:=Lh fun V=>Cp.heavy06 V d.x
 have HLt:Hid (d.h.l.length≤20→d.m.m.ext.length≤40→d.m.m.ports.length≤40→Cp.heavyV d.x=false→d.bl.length≤60→l.length≤100→(∀i (h:i<l.length),l[i].fr.size≤300)→Light d l):=Lh fun a b c d' e f g=>⟨a,b,c,d',e,f,g⟩
 generalize hP:(fun(e:Ending) (w':World)=>∃b,e=.returned (.bool b)∧(b=false→Light d l)∧Below w.heap.size w w')=PQ at*;have HP:Hid (∀b w',(b=false→Light d l)→Below w.heap.size w w'→PQ (.returned (.bool b)) w'):=Lh fun b w' h1 h2=>by rw[←hP];exact⟨b,rfl,h1,h2⟩
 clear hP HPost hb hl hd;have c1:=hbx.cell 1 _ rfl;have c2:=hbx.cell 2 _ rfl;have c3:=hbx.cell 3 _ rfl;have c4:=hbx.cell 4 _ rfl;have c5:=hbx.cell 5 _ rfl;have c6:=hbx.cell 6 _ rfl;have c7:=hbx.cell 7 _ rfl;have c8:=hbx.cell 8 _ rfl;have c9:=hbx.cell 9 _ rfl;have c10:=hbx.cell 10 _ rfl;have c11:=hbx.cell 11 _ rfl;have c12:=hbx.cell 12 _ rfl;have c13:=hbx.cell 13 _ rfl;unfold HdI.v at c1;unfold MnI.ev at c3;unfold MnI.pv at c4;unfold Cp.St.cells at HHv;clear hbx;obtain⟨w1,hw1⟩:∃w1,w.alloc (.cells d.cells 37)=w1:=⟨_,rfl⟩;unfold WdI.cells HdI.v MnI.ev MnI.pv at*;rw[hw1] at HBx HB HL HW c1 c2 c3 c4 c5 c6 c7 c8 c9 c10 c11 c12 c13;go_enter func8,ntmps8;go_wp2;try rw[hw1]
 clear hw1;obtain⟨bx,hbxe⟩:∃bx,w.heap.size=bx:=⟨_,rfl⟩;rw[hbxe] at c1 c2 c3 c4 c5 c6 c7 c8 c9 c10 c11 c12 c13⊢;go_loopw [5,6] (fun vn vi wr=>h1Rel w1 d.h.l.length vn vi wr) (fun _ vi _=>40 - (intOf vi).toNat)
 case atStart=>exact⟨0,0,Nat.zero_le _,Nat.zero_le _,rfl,rfl,Int.le_refl 0,by omega,rfl⟩
 case round=>
  obtain⟨i,s,hi,hi40,rfl,rfl,s0,s1,rfl⟩:=hrel;generalize wr=wr0 at*
  by_cases hin:i<d.h.l.length
  ·have ii:(i:Int)<d.h.l.length:=by omega
   by_cases hi4:i<40
   ·have i4:(i:Int)<40:=by omega
    obtain⟨g,o,ea,hc⟩:=HW.out.cell i hin;have hbd:=HBd.out _ (List.getElem_mem hin);generalize d.h.l[i]=x at*;rw[ea] at c1
    by_cases hx:(1000:Int)<x
    ·have hw:IntKind.u32.wrap (s+1000)=s+1000:=wrap32 (by omega) (by omega);go_wp2;exact⟨⟨i+1,s+1000,by omega,by omega,by go_num,rfl,by omega,by omega,rfl⟩,by simp[intOf];omega⟩
    ·have hw:IntKind.u32.wrap (s+x)=s+x:=wrap32 (by omega) (by omega);go_wp2;exact⟨⟨i+1,s+x,by omega,by omega,by go_num,rfl,by omega,by omega,rfl⟩,by simp[intOf];omega⟩
   ·have i4:¬(i:Int)<40:=by omega
    go_wp2;go_loopw [7] (fun vi wr=>h2Rel wr0 l vi wr) (fun vi _=>200 - (intOf vi).toNat)
    case atStart=>exact⟨0,Nat.zero_le _,Nat.zero_le _,rfl,fun k h hk=>absurd hk (Nat.not_lt_zero _),rfl⟩
    case round=>
     obtain⟨j,hj,hj2,rfl,hf,rfl⟩:=hrel;generalize wr=wr0 at*;have HF:=Lh hf;clear hf
     by_cases jn:j<l.length
     ·have jn':(j:Int)<l.length:=by omega
      by_cases j2:j<200
      ·have j2':(j:Int)<200:=by omega
       obtain⟨g,o,ea,hc⟩:=HL.out.cell j jn;have hsz:=(HL.out.ok j jn).f;have HZ:Hid (∀z,l[j].fr=z→True):=Lh fun _ _=>trivial
       obtain⟨t,ht⟩:∃t,l[j].fr=t:=⟨_,rfl⟩;have HT:=Lh ht;have hc6:wr0.cell? ⟨g,o+j*7+6,none⟩=some (.string l[j].fr):=hc 6 (by omega);rw[ht] at hc6 hsz;clear ht hc;subst ea
       by_cases q:300<t.size
       ·have q':(300:Int)<t.size:=by omega
        have HBn:=Lh HB.out;go_wp2
        first|exact HP.out true _ (fun g=>(nomatch g)) HBn.out|(go_ret;exact HP.out true _ (fun g=>(nomatch g)) HBn.out)
       ·have q':¬(300:Int)<t.size:=by omega
        have Hq:Hid (t.size≤300):=Lh (by omega);clear q;go_wp2;refine⟨⟨j+1,by omega,by omega,by go_num,fun k h hk=> ?_,rfl⟩,by simp[intOf];omega⟩;rcases Nat.lt_or_ge k j with z|z
        ·exact HF.out k h z
        ·obtain rfl:k=j:=by omega
         rw[HT.out];exact Hq.out
      ·have j2':¬(j:Int)<200:=by omega
       have HTrue:=Lh trivial
       by_cases q1:20<d.h.l.length
       ·have q1':(20:Int)<d.h.l.length:=by omega
        have HBn:=Lh HB.out;go_wp2
        first|exact HP.out true _ (fun g=>(nomatch g)) HBn.out|(go_ret;exact HP.out true _ (fun g=>(nomatch g)) HBn.out)
       exact absurd hin (by omega)
     ·have jn':¬(j:Int)<l.length:=by omega
      by_cases q1:20<d.h.l.length
      ·have q1':(20:Int)<d.h.l.length:=by omega
       have HBn:=Lh HB.out;go_wp2
       first|exact HP.out true _ (fun g=>(nomatch g)) HBn.out|(go_ret;exact HP.out true _ (fun g=>(nomatch g)) HBn.out)
      exact absurd hin (by omega)
  ·have ii:¬(i:Int)<d.h.l.length:=by omega
   go_wp2;go_loopw [7] (fun vi wr=>h2Rel wr0 l vi wr) (fun vi _=>200 - (intOf vi).toNat)
   case atStart=>exact⟨0,Nat.zero_le _,Nat.zero_le _,rfl,fun k h hk=>absurd hk (Nat.not_lt_zero _),rfl⟩
   case round=>
    obtain⟨j,hj,hj2,rfl,hf,rfl⟩:=hrel;generalize wr=wr0 at*;have HF:=Lh hf;clear hf;rcases(by omega:(j<l.length∧j<200)∨(j<l.length∧¬j<200)∨¬j<l.length) with⟨jn,j2⟩|⟨jn,j2⟩|jn
    ·have jn':(j:Int)<l.length:=by omega
     have j2':(j:Int)<200:=by omega
     obtain⟨g,o,ea,hc⟩:=HL.out.cell j jn;have hsz:=(HL.out.ok j jn).f;have HZ:Hid (∀z,l[j].fr=z→True):=Lh fun _ _=>trivial
     obtain⟨t,ht⟩:∃t,l[j].fr=t:=⟨_,rfl⟩;have HT:=Lh ht;have hc6:wr0.cell? ⟨g,o+j*7+6,none⟩=some (.string l[j].fr):=hc 6 (by omega);rw[ht] at hc6 hsz;clear ht hc;subst ea
     by_cases q:300<t.size
     ·have q':(300:Int)<t.size:=by omega
      have HBn:=Lh HB.out;go_wp2
      first|exact HP.out true _ (fun g=>(nomatch g)) HBn.out|(go_ret;exact HP.out true _ (fun g=>(nomatch g)) HBn.out)
     ·have q':¬(300:Int)<t.size:=by omega
      have Hq:Hid (t.size≤300):=Lh (by omega);clear q;go_wp2;refine⟨⟨j+1,by omega,by omega,by go_num,fun k h hk=> ?_,rfl⟩,by simp[intOf];omega⟩;rcases Nat.lt_or_ge k j with z|z
      ·exact HF.out k h z
      ·obtain rfl:k=j:=by omega
       rw[HT.out];exact Hq.out
    have jn':(j:Int)<l.length:=by omega
    have j2':¬(j:Int)<200:=by omega
    rotate_left
    have jn':¬(j:Int)<l.length:=by omega
    all_goals
     by_cases q1:20<d.h.l.length
     ·have q1':(20:Int)<d.h.l.length:=by omega
      have HBn:=Lh HB.out;go_wp2
      first|exact HP.out true _ (fun g=>(nomatch g)) HBn.out|(go_ret;exact HP.out true _ (fun g=>(nomatch g)) HBn.out)
     have q1':¬(20:Int)<d.h.l.length:=by omega
     have Q1:Hid (d.h.l.length≤20):=Lh (by omega)
     by_cases q2:60<s
     ·have HBn:=Lh HB.out;go_wp2
      first|exact HP.out true _ (fun g=>(nomatch g)) HBn.out|(go_ret;exact HP.out true _ (fun g=>(nomatch g)) HBn.out)
     go_wp2_with fail;refine(HLg.out _).mono ?_;rintro e w2 ⟨rfl,hb2⟩;have HB2:=Lh (bQ HB.out hb2);have e1:=cQ hb2 c6;have e2:=cQ hb2 c7;have e3:=cQ hb2 c8;have e4:=cQ hb2 c9;have e5:=cQ hb2 c10;have e6:=cQ hb2 c11;have e7:=cQ hb2 c12;have e8:=cQ hb2 c13;clear hb2 c1 c2 c3 c4 c5 c6 c7 c8 c9 c10 c11 c12 c13;obtain⟨bL,hbL⟩:∃bL,(decide (40<d.m.m.ext.length)||decide (40<d.m.m.ports.length))=bL:=⟨_,rfl⟩;rw[hbL];have HbL:=Lh hbL;clear hbL;cases bL with
     |true=>
      have HBn:=Lh HB2.out;go_wp2
      first|exact HP.out true _ (fun g=>(nomatch g)) HBn.out|(go_ret;exact HP.out true _ (fun g=>(nomatch g)) HBn.out)
     |false=>
      go_wp2_with fail;refine(HHv.out _).mono ?_;rintro e w3 ⟨rfl,hb3⟩;have HB3:=Lh (bQ HB2.out hb3);have f8:=cQ hb3 e8;clear hb3 e1 e2 e3 e4 e5 e6 e7 e8;obtain⟨bH,hbH⟩:∃bH,Cp.heavyV d.x=bH:=⟨_,rfl⟩;rw[hbH];have HbH:=Lh hbH;clear hbH;have HBn:=Lh HB3.out;cases bH with
      |true=>
       go_wp2
       first|exact HP.out true _ (fun g=>(nomatch g)) HBn.out|(go_ret;exact HP.out true _ (fun g=>(nomatch g)) HBn.out)
      |false=>
       by_cases q3:60<d.bl.length
       ·have q3':(60:Int)<d.bl.length:=by omega
        go_wp2
        first|exact HP.out true _ (fun g=>(nomatch g)) HBn.out|(go_ret;exact HP.out true _ (fun g=>(nomatch g)) HBn.out)
       have q3':¬(60:Int)<d.bl.length:=by omega
       have Q3:Hid (d.bl.length≤60):=Lh (by omega)
       by_cases q4:100<l.length
       ·have q4':(100:Int)<l.length:=by omega
        go_wp2
        first|exact HP.out true _ (fun g=>(nomatch g)) HBn.out|(go_ret;exact HP.out true _ (fun g=>(nomatch g)) HBn.out)
       try exact absurd jn (by omega)
       all_goals
        have q4':¬(100:Int)<l.length:=by omega
        have HLi:=Lh (HLt.out Q1.out (by have:=HbL.out;simp at this;omega) (by have:=HbL.out;simp at this;omega) HbH.out Q3.out (by omega) (fun k h=>HF.out k h (by omega)));clear q1 q3 q4;go_wp2
        first|exact HP.out _ _ (fun _=>HLi.out) HBn.out|(go_ret;exact HP.out _ _ (fun _=>HLi.out) HBn.out)
end L22
namespace L22
open In
structure Fresh(d:WdI)(K:Kn):Prop where
 hp:K.hp=d.h.p
 hx:K.hx=d.h.l
 g:K.g=fun _=>none
 N:K.N=Ni.newS
 B:∀i j,(Kn.block K.B i j).isSome=(Kn.block (Kn.new d.h.p d.h.l).B i j).isSome
theorem Fresh.new(d:WdI):Fresh d (Kn.new d.h.p d.h.l):=⟨rfl,rfl,rfl,rfl,fun _ _=>rfl⟩
theorem Fresh.set{d:WdI}{K:Kn}(h:Fresh d K)(id n:Int)(s:ByteArray):Fresh d (K.setBlock id n s):=by
 have e:(K.setBlock id n s).hp=K.hp∧(K.setBlock id n s).hx=K.hx∧(K.setBlock id n s).g=K.g∧(K.setBlock id n s).N=K.N:=by
  unfold Kn.setBlock
  split<;>exact⟨rfl,rfl,rfl,rfl⟩
 exact⟨e.1.trans h.hp,e.2.1.trans h.hx,e.2.2.1.trans h.g,e.2.2.2.trans h.N,fun i j=>(Wi.set_some K id n s i j).trans (h.B i j)⟩
def asked(d:WdI)(K:Kn):Kn:=if Ca.grantE K.hp K.hx K.g 1 d.m.m 0=0 then {K with g:=Gp.upd K.g 1 (some ⟨d.m.m,0,0⟩)} else K
def BothP(w:World)(d:WdI)(e:Ending)(w':World):Prop:=
 (Ca.hardOk d.h.p d.h.l=true∧∃a b K,e=.returned (.tuple #[.pointer (some ⟨a.kb,0,none⟩),.pointer (some ⟨b.kb,0,none⟩),.bool true])∧KPair w w' a (asked d K) b (asked d K)∧Fresh d K)∨
 (Ca.hardOk d.h.p d.h.l=false∧e=.returned (.tuple #[.pointer none,.pointer none,.bool true])∧Below w.heap.size w w')
def boRel(w1:World)(d:WdI)(bx kb rb:Nat)(wr:World):Prop:=∃a b K,KPair w1 wr a K b K∧a.kb=kb∧b.kb=rb∧Fresh d K
def boO(w1:World)(d:WdI)(bx kb rb:Nat)(vi:Value)(wr:World):Prop:=∃i:Nat,i≤d.bl.length∧vi=.int .i64 i∧boRel w1 d bx kb rb wr
def boI(w1:World)(d:WdI)(bx kb rb:Nat)(vi:Value)(wr:World):Prop:=∃i:Nat,i≤d.h.l.length∧vi=.int .u32 i∧boRel w1 d bx kb rb wr
theorem setE_or(K:Kn)(id n:Int)(s:ByteArray)(hs:s.size=64):Kn.setE K.B id n s=if(Kn.block K.B id n).isSome=true then 0 else 2:=by
 unfold Kn.setE;cases h:Kn.block K.B id n with
 |none=>simp
 |some t=>simp[hs]
theorem setBlock_none(K:Kn)(id n:Int)(s:ByteArray)(hs:s.size=64)(h:(Kn.block K.B id n).isSome=false):K.setBlock id n s=K:=by
 unfold Kn.setBlock;rw[setE_or K id n s hs,h];rfl
theorem pair{w1 w2 w3 w4:World}{a:KAt}{b:RkAt}{K:Kn}{la:Option Addr}{cap:Nat}{xs:List Int}(hwd:Rs.Words w1 la xs)(hk:Knl w2 a K)(ha:∀k,a.tag k≠0→w1.heap.size≤k)(b12:Below w1.heap.size w1 w2)(b23:Below w2.heap.size w2 w3)
  (hb:Rkl w4 b K) (ht:∀k,b.tag k≠0→w3.heap.size≤k∨b.tag k=5∧xs.length≠0∧(Value.slice la xs.length cap).ownBlock=some k) (b34:Below w3.heap.size w3 w4):KPair w1 w4 a K b K:=by
 have z1:=b12.size;have z2:=b23.size;refine⟨hk.below (bQ b23 b34),hb,fun k hk'=> ?_,bQ (bQ b12 b23) b34,ha,fun k hk'=> ?_⟩
 ·refine Decidable.byContradiction fun z=> ?_
  have h1:=ha k hk';have h2:=hk.lt k hk';rcases ht k z with g|⟨_,g1,g2⟩
  ·omega
  ·obtain⟨g,o,e,hc⟩:=hwd.cell 0 (by omega);subst e;have g2:some g=some k:=g2;cases g2;have:=cell_lt hc;omega
 ·rcases ht k hk'.1 with g|g
  ·omega
  ·exact absurd g.1 hk'.2
theorem both(w:World)(d:WdI)(hd:d.pre w)(hbl:d.bl.length≤60)(hme:d.m.m.ext.length≤40)(hmp:d.m.m.ports.length≤40):Calls Tryz.prog 10 #[.agg d.cells] w (BothP w d):=by
 have hb:Below w.heap.size w (w.alloc (.cells d.cells 37)):=Ba _;have hbx:WBox (w.alloc (.cells d.cells 37)) w.heap.size d:=⟨heap_alloc_new w _⟩;have HBx:=Lh hbx;have HB:=Lh hb;have HWd:=Lh (Ca.words_below hd.h.w hb);have HBd:=Lh hd.h.bd;have HP0:=Lh hd.h.p0;have HM:=Lh (hd.m.below hb);have HTx:=Lh (hd.b.below hb);have HBl:=Lh hbl;have HMl:=Lh (And.intro hme hmp);obtain⟨w1,hw1⟩:∃w1,w.alloc (.cells d.cells 37)=w1:=⟨_,rfl⟩;obtain⟨bx,hbxe⟩:∃bx,w.heap.size=bx:=⟨_,rfl⟩;rw[hw1] at HBx HB HWd HM HTx;rw[hbxe] at HBx;have HFin1:Hid (∀V a b K,Ca.hardOk d.h.p d.h.l=true→KPair w1 V a (asked d K) b (asked d K)→Fresh d K→BothP w d (.returned (.tuple #[.pointer (some ⟨a.kb,0,none⟩),.pointer (some ⟨b.kb,0,none⟩),.bool true])) V):=Lh fun V a b K h0 h1 h2=>.inl ⟨h0,a,b,K,rfl,h1.weaken HB.out,h2⟩
 have HFin2:Hid (∀V,Ca.hardOk d.h.p d.h.l=false→Below w1.heap.size w1 V→BothP w d (.returned (.tuple #[.pointer none,.pointer none,.bool true])) V):=Lh fun V h1 h2=>.inr ⟨h1,rfl,bQ HB.out h2⟩
 generalize BothP w d=PQ at*;clear hb hbx hd hbl hme hmp;have HC:Hid (∀W,Below w1.heap.size w1 W→W.cell? ⟨bx,0,none⟩=some (.int .u32 d.h.p)∧W.cell? ⟨bx,1,none⟩=some (.slice d.h.a d.h.l.length d.h.cap)∧W.cell? ⟨bx,2,none⟩=some (.int .u32 d.m.m.pages)∧W.cell? ⟨bx,3,none⟩=some (.slice d.m.ea d.m.m.ext.length d.m.ecap)∧W.cell? ⟨bx,4,none⟩=some (.slice d.m.pa d.m.m.ports.length d.m.pcap)∧W.cell? ⟨bx,5,none⟩=some (.bool d.m.m.con)∧W.cell? ⟨bx,13,none⟩=some (.slice d.ba d.bl.length d.bcap)):=Lh fun W hW=>by
  have h:=HBx.out.below hW;exact⟨h.cell 0 _ rfl,h.cell 1 _ rfl,h.cell 2 _ rfl,h.cell 3 _ rfl,h.cell 4 _ rfl,h.cell 5 _ rfl,h.cell 13 _ rfl⟩
 unfold WdI.cells HdI.v MnI.ev MnI.pv at hw1⊢;obtain⟨ba,hba⟩:∃x,d.ba=x:=⟨_,rfl⟩;rw[hba] at hw1 HTx HC⊢;clear hba;obtain⟨c0,c1,c2,c3,c4,c5,c13⟩:=HC.out w1 Br;go_enter func10,ntmps10;cases hok:Ca.hardOk d.h.p d.h.l with
 |false=>
  go_wp2_with fail;try rw[hw1]
  try rw[hbxe]
  clear hw1 hbxe;refine(Kl.new_bad HWd.out HBd.out HP0.out hok).mono ?_;rintro e w2 ⟨rfl,hb2⟩;obtain⟨c0,c1,c2,c3,c4,c5,c13⟩:=HC.out w2 hb2;have HB2:=Lh hb2;clear hb2;go_wp2_with fail;refine(R19.may (Ca.words_below HWd.out HB2.out) HBd.out HP0.out).mono ?_;rintro e w3 ⟨rfl,hb3⟩;rw[hok];have HE:=Lh (HFin2.out w3 hok (bQ HB2.out hb3));clear hb3 c0 c1 c2 c3 c4 c5 c13 HFin1 HFin2;go_wp2
  first|exact HE.out|(go_ret;exact HE.out)|(go_ret3;exact HE.out)
 |true=>
  go_wp2_with fail;try rw[hw1]
  try rw[hbxe]
  clear hw1 hbxe;refine(Kl.new HWd.out HBd.out HP0.out hok).mono ?_;rintro e w2 ⟨a,rfl,hk2,ha2,hb2⟩;obtain⟨c0,c1,c2,c3,c4,c5,c13⟩:=HC.out w2 hb2;have HB2:=Lh hb2;have HA:=Lh ha2;have HK2:=Lh hk2;clear hb2 ha2 hk2;go_wp2_with fail;refine(R19.may (Ca.words_below HWd.out HB2.out) HBd.out HP0.out).mono ?_;rintro e w3 ⟨rfl,hb3⟩;rw[hok];have HB3:=Lh hb3;have HK3:=Lh (HK2.out.below hb3);obtain⟨c0,c1,c2,c3,c4,c5,c13⟩:=HC.out w3 (bQ HB2.out hb3);clear hb3;go_wp2_with fail;refine(Kl.caps HK3.out).mono ?_;rintro e w4 ⟨rfl,rfl⟩;go_wp2_with fail;refine(Kl.nic HK3.out).mono ?_;rintro e w4 ⟨rfl,rfl⟩;go_wp2_with fail;refine(Rk.new (Ca.words_below HWd.out (bQ HB2.out HB3.out)) HBd.out HP0.out hok).mono ?_;rintro e w4 ⟨b,rfl,hr4,hhv,ht4,hb4⟩;have hpr:=pair (cap:=d.h.cap) HWd.out HK2.out HA.out HB2.out HB3.out hr4 (fun k hk=>(ht4 k hk).imp id fun z=>z) hb4;obtain⟨kb,hkb⟩:∃x,a.kb=x:=⟨_,rfl⟩;obtain⟨rb,hrb⟩:∃x,b.kb=x:=⟨_,rfl⟩;have HR0:Hid (boRel w1 d bx kb rb w4):=Lh ⟨a,b,_,hpr,hkb,hrb,Fresh.new d⟩;obtain⟨c0,c1,c2,c3,c4,c5,c13⟩:=HC.out w4 hpr.bel;rw[hkb,hrb];clear hpr hkb hrb hr4 hhv ht4 hb4 HK3 HB3 HK2 HA HB2 HP0;go_wp2;clear c0 c1 c2 c3 c4 c5 c13;go_loopw [8,9,10,11] (fun vi _ _ _ wr=>boO w1 d bx kb rb vi wr) (fun vi _ _ _ _=>d.bl.length - (intOf vi).toNat)
  case atStart=>exact⟨0,Nat.zero_le _,rfl,HR0.out⟩
  case round=>
   clear HR0;obtain⟨i,hi,rfl,a,b,K,hpr,hkb,hrb,hfr⟩:=hrel;obtain⟨c0,c1,c2,c3,c4,c5,c13⟩:=HC.out wr hpr.bel;have HPr:=Lh hpr;have HKb:=Lh hkb;have HRb:=Lh hrb;have HFr:=Lh hfr;clear hpr hkb hrb hfr
   by_cases hin:i<d.bl.length
   ·have ii:(i:Int)<d.bl.length:=by omega
    have HR1:Hid (boI w1 d bx kb rb (.int .u32 0) wr):=Lh ⟨0,Nat.zero_le _,rfl,a,b,K,HPr.out,HKb.out,HRb.out,HFr.out⟩;go_wp2;clear c0 c1 c2 c3 c4 c5 c13 HPr HKb HRb HFr;generalize wr=wo at*;go_loopw [9,10,11] (fun vi _ _ wr=>boI w1 d bx kb rb vi wr) (fun vi _ _ _=>d.h.l.length - (intOf vi).toNat)
    case atStart=>exact HR1.out
    case round=>
     clear HR1;obtain⟨j,hj,rfl,a,b,K,hpr,hkb,hrb,hfr⟩:=hrel;obtain⟨c0,c1,c2,c3,c4,c5,c13⟩:=HC.out wr hpr.bel;have HPr:=Lh hpr;have HKb:=Lh hkb;have HRb:=Lh hrb;have HFr:=Lh hfr;have hl16:d.h.l.length≤16:=by
      unfold Ca.hardOk at hok;simp only[Bool.and_eq_true,decide_eq_true_eq] at hok;exact hok.1.2
     have wl:IntKind.u32.wrap (d.h.l.length:Int)=d.h.l.length:=wrap32 (by omega) (by omega);clear hpr hkb hrb hfr
     by_cases hjn:j<d.h.l.length
     ·have jj:(j:Int)<d.h.l.length:=by omega
      have hb60:=HBl.out;obtain⟨q,hq⟩:∃q,i / 2=q:=⟨_,rfl⟩;have q60:q≤60:=by omega
      have dq:Int.tdiv (i:Int) 2=q:=by rw[Int.tdiv_eq_ediv_of_nonneg (by omega)];omega
      have wq:IntKind.u32.wrap (q:Int)=q:=wrap32 (by omega) (by omega);have wqi:IntKind.i64.wrap (q:Int)=q:=by rw[IntKind.wrap_i64];omega
      have wj:IntKind.u32.wrap ((j:Int)+1)=j+1:=wrap32 (by omega) (by omega);obtain⟨g,o,ea,hc⟩:=HTx.out.cell i hin;have hsz:=HTx.out.sz _ (List.getElem_mem hin);have hcell:=fun W (hW:Below w1.heap.size w1 W)=>(hW.cell (p:=⟨g,_,none⟩) (cell_lt hc)).trans hc
      have HCe:=Lh hcell;have ce:=hcell wr HPr.out.bel;generalize d.bl[i]=s at*;have HSz:=Lh hsz;subst ea;clear hc hcell hsz hq;go_wp2_with fail;refine(Bk.block _ s HSz.out).mono ?_;rintro e w5 ⟨rfl,hb5⟩;have HP5:=Lh (HPr.out.below hb5);have hset:=Kl.setBlock HP5.out.p (j:Int) (q:Int) (Bk.text s) (by omega) (by omega) (by omega) (by omega) (by rw[Bk.text_size];decide);rw[HKb.out] at hset;have HSet:=Lh hset;obtain⟨c0,c1,c2,c3,c4,c5,c13⟩:=HC.out w5 HP5.out.bel;have ce:=HCe.out w5 HP5.out.bel;clear hset hb5 HPr;go_wp2_with fail;refine HSet.out.mono ?_;rintro e w6 ⟨rfl,hs6⟩;have HP6:=Lh (HP5.out.prog hs6);have hk6:=hs6.same.1;clear HSet;have hhas:=Rk.has HP6.out.d (id:=j) (n:=q) (by omega) (by omega) (by omega) (by omega);rw[HRb.out] at hhas;have HHas:=Lh hhas;obtain⟨c0,c1,c2,c3,c4,c5,c13⟩:=HC.out w6 HP6.out.bel;have ce:=HCe.out w6 HP6.out.bel;have HK6:=Lh (hk6.trans HKb.out);clear hhas hk6 hs6 HP5;rw[setE_or K j q _ (Bk.text_size s)];cases hbk:Kn.block K.B j q with
      |none=>
       have hno:(Kn.block K.B j q).isSome=false:=by rw[hbk];rfl
       have fin:boI w1 d bx kb rb (.int .u32 ((j:Int)+1)) w6:=by
        have:=HP6.out;rw[setBlock_none K j q _ (Bk.text_size s) hno] at this;exact⟨j+1,hjn,by simp,_,_,_,this,HK6.out,HRb.out,HFr.out⟩
       have Fin:=Lh fin;rw[hbk] at HHas;clear fin hno hbk HP6 HFr;go_wp2_with fail;refine HHas.out.mono ?_;rintro e w7 ⟨rfl,rfl⟩;go_wp2;exact⟨Fin.out,by simp[intOf];omega⟩
      |some t=>
       have Hbk:=Lh hbk;rw[hbk] at HHas;clear hbk;go_wp2_with fail;refine HHas.out.mono ?_;rintro e w7 ⟨rfl,rfl⟩;go_wp2_with fail;refine(Bk.block _ s HSz.out).mono ?_;rintro e w7 ⟨rfl,hb7⟩;have HP7:=Lh (HP6.out.below hb7);have hset:=Rk.setBlock HP7.out.d Hbk.out (Bk.text s) (Bk.text_size s);rw[HRb.out] at hset;have HSet:=Lh hset;clear hset hb7 HP6 c0 c1 c2 c3 c4 c5 c13 ce;go_wp2_with fail;refine HSet.out.mono ?_;rintro e w8 ⟨rfl,b',hs8⟩;have fin:boI w1 d bx kb rb (.int .u32 ((j:Int)+1)) w8:=⟨j+1,hjn,by simp,_,_,_,HP7.out.doc hs8,HK6.out,hs8.same.1.trans HRb.out,HFr.out.set _ _ _⟩;have Fin:=Lh fin;clear fin hs8 HSet HP7 HFr Hbk;go_wp2;exact⟨Fin.out,by simp[intOf];omega⟩
     ·obtain rfl:j=d.h.l.length:=by omega
      have jj:¬(d.h.l.length:Int)<d.h.l.length:=by omega
      have iw:IntKind.i64.wrap ((i:Int)+1)=(i:Int)+1:=by have:=HBl.out;rw[IntKind.wrap_i64];omega
      have fin:boO w1 d bx kb rb (.int .i64 ((i:Int)+1)) wr:=⟨i+1,hin,by simp,a,b,K,HPr.out,HKb.out,HRb.out,HFr.out⟩;have Fin:=Lh fin;clear fin HPr HFr;go_wp2;exact⟨Fin.out,by simp[intOf];omega⟩
   ·obtain rfl:i=d.bl.length:=by omega
    have ii:¬(d.bl.length:Int)<d.bl.length:=by omega
    have hl16:d.h.l.length≤16∧d.h.p≤4096:=by
     unfold Ca.hardOk at hok;simp only[Bool.and_eq_true,decide_eq_true_eq] at hok;exact⟨hok.1.2,hok.1.1⟩
    have HL:=Lh hl16;clear hl16;have HKE:Hid (K.hp=d.h.p∧K.hx=d.h.l):=Lh ⟨HFr.out.hp,HFr.out.hx⟩;have HS:Hid (∀W a' b' L L',KPair w1 W a' L b' L'→b'.kb=rb→b'.c.rb=b.c.rb→W.cell? ⟨bx,2,none⟩=some (.int .u32 d.m.m.pages)∧W.cell? ⟨bx,3,none⟩=some (.slice d.m.ea d.m.m.ext.length d.m.ecap)∧W.cell? ⟨bx,4,none⟩=some (.slice d.m.pa d.m.m.ports.length d.m.pcap)∧W.cell? ⟨bx,5,none⟩=some (.bool d.m.m.con)∧W.cell? ⟨rb,0,none⟩=some (.pointer (some ⟨b.c.rb,0,none⟩))∧True):=Lh fun W a' b' L L' k1 k2 k3=>by
     obtain⟨_,_,e2,e3,e4,e5,_⟩:=HC.out W k1.bel;have:=k1.d.cells.1;rw[k2,k3] at this;exact⟨e2,e3,e4,e5,this,trivial⟩
    obtain⟨crb,hcrb⟩:∃x,b.c.rb=x:=⟨_,rfl⟩;rw[hcrb] at HS;have HCr:=Lh hcrb;clear hcrb;go_wp2_with fail;clear c0 c1 c2 c3 c4 c5 c13;refine B (fun W=>W.cell? ⟨bx,2,none⟩=some (.int .u32 d.m.m.pages)∧W.cell? ⟨bx,3,none⟩=some (.slice d.m.ea d.m.m.ext.length d.m.ecap)∧W.cell? ⟨bx,4,none⟩=some (.slice d.m.pa d.m.m.ports.length d.m.pcap)∧W.cell? ⟨bx,5,none⟩=some (.bool d.m.m.con)∧W.cell? ⟨rb,0,none⟩=some (.pointer (some ⟨crb,0,none⟩))∧True) (HS.out _ _ _ _ _ (HPr.out.below Br.drew) HRb.out HCr.out) ?_;intro wd hwd hS;have HPd:Hid (KPair w1 wd a K b K):=Lh (by subst hwd;exact HPr.out.below Br.drew);clear hwd HPr;refine T 0 hS ?_;refine T 2 hS ?_;refine T 3 hS ?_;refine T 6 hS ?_;refine T 7 hS ?_;refine T 8 hS ?_;refine T 9 hS ?_;refine T 10 hS ?_;refine T 11 hS ?_;refine U 1 fun K' hK=> ?_
    have hcaps:=Kl.caps HPd.out.p;rw[HKb.out] at hcaps;have HCp:=Lh hcaps;clear hcaps;go_simp;go_at_call 25;refine HCp.out.mono ?_;rintro e w5 ⟨rfl,rfl⟩;refine V hK hS ?_;clear hK K' hS HCp;have HMi:=Lh (HM.out.below HPd.out.bel);have HCy:Hid (Calls Tryz.prog 72 #[.agg #[.int .u32 d.m.m.pages,.slice d.m.ea d.m.m.ext.length d.m.ecap,.slice d.m.pa d.m.m.ports.length d.m.pcap,.bool d.m.m.con]] wd (R11.CopyPost wd d.m.m)):=Lh (by
     have:=HMl.out;exact R11.copy HMi.out.i (by omega) (by omega))
    refine U 4 fun K' hK=> ?_
    go_simp;go_at_call 72;refine HCy.out.mono ?_;rintro e w6 ⟨ev6,pv6,rfl,hm6,hf6,hb6⟩;have HP6:=Lh (HPd.out.below hb6);have HM6:=Lh hm6;have hS6:=HS.out _ _ _ _ _ HP6.out HRb.out HCr.out;clear hm6 hf6 hb6 HCy HPd;refine V hK hS6 ?_;clear hK K' hS6;have HGr:=Lh (Kl.grant HP6.out.p (by rw[HKE.out.1];exact HL.out.2) (by rw[HKE.out.2];exact HL.out.1) (n:=1) (pg:=0) (Int.le_refl 0) HM6.out HM.out.ok)
    by_cases hg:Ca.grantE K.hp K.hx K.g 1 d.m.m 0=0
    ·have hask:asked d K= {K with g:=Gp.upd K.g 1 (some ⟨d.m.m,0,0⟩)}:=if_pos hg;refine U 5 fun K' hK=> ?_
     go_simp;go_at_call 67;refine HGr.out.mono ?_;rintro e w7 (⟨g1,_⟩|⟨_,rfl,a7,hs7⟩)
     ·exact absurd hg g1
     have HP7:=Lh (HP6.out.prog hs7);have HK7:=Lh (hs7.same.1.trans HKb.out);have hS7:=HS.out _ _ _ _ _ HP7.out HRb.out HCr.out;clear hs7 HP6 HGr;refine V hK hS7 ?_;clear hK K' hS7;have hgr:=Rk.grant HP7.out.d (by rw[HKE.out.2];exact HL.out.1) (n:=1) (pg:=0) (Int.le_refl 0) (HM.out.below HP7.out.bel).i HM.out.ok;rw[HCr.out] at hgr;have HGr:=Lh hgr;clear hgr;refine U 12 fun K' hK=> ?_
     go_simp;go_at_call 73;refine HGr.out.mono ?_;rintro e w8 (⟨g1,_⟩|⟨_,rfl,b8,hs8⟩)
     ·exact absurd hg g1
     have hP8:=HP7.out.doc hs8;have HRb8:=Lh (hs8.same.1.trans HRb.out);have hS8:=HS.out _ _ _ _ _ hP8 HRb8.out (hs8.same.2.1.trans HCr.out);rw[←hask] at hP8;have he:=HFin1.out w8 a7 b8 K hok hP8 HFr.out;rw[HK7.out,HRb8.out] at he;have HE:=Lh he;clear hP8 he hs8 HGr HP7 hask;refine V hK hS8 ?_;clear hK K';refine T 13 hS8 ?_;clear hS8;refine wpAnyH_done (by kernel_rfl) ?_ _;go_wp2
     first|exact HE.out|(go_ret3;exact HE.out)
    ·have hask:asked d K=K:=if_neg hg;obtain⟨y,hy⟩:∃y,Ca.grantE K.hp K.hx K.g 1 d.m.m 0=y:=⟨_,rfl⟩;refine U 5 fun K' hK=> ?_
     go_simp;go_at_call 67;refine HGr.out.mono ?_;rintro e w7 (⟨_,rfl,hb7⟩|⟨g1,_⟩)
     rotate_left
     ·exact absurd g1 hg
     have HP7:=Lh (HP6.out.below hb7);have hS7:=HS.out _ _ _ _ _ HP7.out HRb.out HCr.out;rw[hy];clear hb7 HP6 HGr;refine V hK hS7 ?_;clear hK K' hS7;have hgr:=Rk.grant HP7.out.d (by rw[HKE.out.2];exact HL.out.1) (n:=1) (pg:=0) (Int.le_refl 0) (HM.out.below HP7.out.bel).i HM.out.ok;rw[HCr.out] at hgr;have HGr:=Lh hgr;clear hgr;refine U 12 fun K' hK=> ?_
     go_simp;go_at_call 73;refine HGr.out.mono ?_;rintro e w8 (⟨_,rfl,hb8⟩|⟨g1,_⟩)
     rotate_left
     ·exact absurd g1 hg
     have hP8:=HP7.out.below hb8;have hS8:=HS.out _ _ _ _ _ hP8 HRb.out HCr.out;rw[←hask] at hP8;have he:=HFin1.out w8 a b K hok hP8 HFr.out;rw[HKb.out,HRb.out] at he;have HE:=Lh he;rw[hy];clear hP8 he hb8 HGr HP7 hask hg hy;refine V hK hS8 ?_;clear hK K';refine T 13 hS8 ?_;clear hS8;refine wpAnyH_done (by kernel_rfl) ?_ _;go_wp2
     first|exact HE.out|(go_ret3;exact HE.out)
end L22
open Go.RowKit Word
namespace Cp
def smRel(w:World)(vi:Value)(wr:World):Prop:=∃i:Nat,i≤16∧vi=.int .i64 i∧wr=w
theorem same06{w:World}{cb db:Nat}{r:List Int}{pc:Int}(hc:Cpu 291 w cb r pc)(hd:Cpu 153 w db r pc):
  Calls Tryz.prog 120 #[.pointer (some ⟨cb,0,none⟩),.pointer (some ⟨db,0,none⟩)] w fun e w'=>e=.returned (.bool true)∧Below w.heap.size w w':=by
 have HC:=Lh hc;have HD:=Lh hd;clear hc hd;go_enter func120,ntmps120;go_wp2;go_loopw [5] (fun vi wr=>smRel w vi wr) (fun vi _=>16 - (intOf vi).toNat)
 case atStart=>exact⟨0,by omega,by go_num,rfl⟩
 case round=>
  obtain⟨i,hi,rfl,rfl⟩:=hrel
  by_cases hi2:i<16
  ·have hi3:(i:Int)<16:=by omega
   have hr:=reg_ok HC.out i hi2;have hdc:=HD.out.cellReg i hi2;have HR:=Lh hr;clear hr;generalize rg r (i:Int)=v at*;go_wp2_with (go_at_call 101;(with_reducible refine HR.out.mono ?_);rintro e w2 ⟨rfl,rfl⟩);exact⟨⟨i+1,by omega,by go_num,rfl⟩,by simp[intOf];omega⟩
  ·obtain rfl:i=16:=by omega
   have hp:=HD.out.cellPc;have HPn:Hid (∀n,Calls Tryz.prog 93 #[.pointer (some ⟨cb,0,none⟩)] (wr.drewN n) fun e w'=>e=.returned (.int .u32 pc)∧w'=wr.drewN n):=Lh fun n=>(pc_ok (HC.out.frame (w':=wr.drewN n) rfl)).mono fun e w' ⟨g1,g2⟩=>⟨g1,g2.symm⟩
   go_wp2_with fail;go_quiet ((go_at_call 93;exact Calls.quiet_of_same (HPn.out _)));go_wp2;go_ret;exact⟨rfl,by first|exact below_drewN Br _|exact Br.drew|exact(below_drewN Br _).drew⟩
end Cp
open Go.RowKit Word
namespace Cp
theorem RowN.below{k:IntKind}{w w':World}{a:Option Addr}{n:Nat}{f:Nat→Int}(h:RowN k w a n f)(hb:Below w.heap.size w w'):RowN k w' a n f:=fun hn=>by
 obtain⟨b,off,e,hl,hc⟩:=h hn;exact⟨b,off,e,Nat.lt_of_lt_of_le hl hb.size,fun i hi=>(World.cell?_of_block (w:=w) (hb.block b hl)).trans (hc i hi)⟩
theorem St.pre.toOk{w w':World}{x:St}(h:x.pre w)(hb:Below w.heap.size w w')(hh:heavyV x=false):x.ok w':=by
 unfold heavyV at hh;simp only[Bool.or_eq_false_iff,decide_eq_false_iff_not] at hh;exact⟨h.rrow.below hb,h.rbd,h.rlen,h.p0,h.p1,h.prow.below hb,h.pbd,by omega,h.a0,h.a1,h.crow.below hb,h.cbd,by omega,h.w0,h.w1,by omega⟩
theorem eqState(k n y:Int)(w:World):(binOp .eql 58 (.agg #[.int .u8 k,.int .u32 n,.int .i64 y]) (.agg #[.int .u8 k,.int .u32 n,.int .i64 y])).run Tryz.prog w=.ok (.bool true) w:=by
 simp[go_sem,Tryz.underlying58]
end Cp
open Go.RowKit Word
namespace Cp
theorem sameE{w0 w:World}{a:EAt}{E:En}{b:RAt}{R:List Rp}{F:En}(h:EPair w0 w a E b R F)(hl:En.Like E F):
  Calls Tryz.prog 33 #[.pointer (some ⟨a.eb,0,none⟩),.pointer (some ⟨b.eb,0,none⟩)] w fun e w'=>e=.returned (.bool true)∧Below w.heap.size w w':=by
 have HP:=Lh fun V (hV:Below w.heap.size w V)=>h.below hV
 have HL:=Lh hl;have HOk:=Lh h.env.ok.len;have HOkF:=Lh h.ren.ok.len;have HB0:=Lh (Below.refl w.heap.size w);obtain⟨ao,ac,how⟩:=SlV.form h.ren.ls;have HOw:=Lh how;have hcell:∀V,Below w.heap.size w V→V.cell? ⟨b.eb,0,none⟩=some (.int .i64 E.num)∧V.cell? ⟨b.eb,1,none⟩=some (.pointer (some ⟨b.rb,0,none⟩))∧V.cell? ⟨b.eb,2,none⟩=some (.pointer (some ⟨b.cb,0,none⟩))∧V.cell? ⟨b.eb,3,none⟩=some (.int .u8 E.kind)∧V.cell? ⟨b.eb,4,none⟩=some (.int .u32 E.code)∧V.cell? ⟨b.eb,5,none⟩=some (.int .i64 E.why)∧V.cell? ⟨b.eb,6,none⟩=some (.slice ao E.own.length ac)∧V.cell? ⟨b.eb,7,none⟩=some (.string E.text):=fun V hV=>by
  have hc:=Rv.cells (h.below hV).ren;rw[how,←hl.num,←hl.kind,←hl.code,←hl.why,←hl.text,←hl.own] at hc;exact hc
 have HCl:=Lh hcell;have hcpu:=Ev.cpu h.env;have hspc:=Ev.space h.env;have HCpu:=Lh hcpu;have HSpc:=Lh hspc;have HAp:=Lh h.apart;clear h hl how hcell hcpu hspc;go_enter func33,ntmps33;go_wp2_with fail;refine HCpu.out.mono ?_;rintro e w1 ⟨rfl,rfl⟩;go_wp2_with fail;refine HSpc.out.mono ?_;rintro e w1 ⟨rfl,rfl⟩;go_wp2_with fail;have m:=HCl.out _ (Below.refl _ w);have se:=fun W=>eqState E.kind E.code E.why W
 obtain⟨m0,m1,m2,m3,m4,m5,m6,m7⟩:=m;go_region_held3 (fun w'=>w'.cell? ⟨b.eb,0,none⟩=some (.int .i64 E.num)∧w'.cell? ⟨b.eb,1,none⟩=some (.pointer (some ⟨b.rb,0,none⟩))∧w'.cell? ⟨b.eb,2,none⟩=some (.pointer (some ⟨b.cb,0,none⟩))∧w'.cell? ⟨b.eb,3,none⟩=some (.int .u8 E.kind)∧w'.cell? ⟨b.eb,4,none⟩=some (.int .u32 E.code)∧w'.cell? ⟨b.eb,5,none⟩=some (.int .i64 E.why)∧w'.cell? ⟨b.eb,6,none⟩=some (.slice ao E.own.length ac)∧w'.cell? ⟨b.eb,7,none⟩=some (.string E.text))
  (first
   |exact⟨m0,m1,m2,m3,m4,m5,m6,m7⟩
   |exact HCl.out _ hb2
   |exact HCl.out _ hb3
   |exact HCl.out _ hb4
   |exact HCl.out _ hb5
   |exact HCl.out _ hb6)
  (first
   |(
     go_at_call 119;refine(Ev.num (HP.out _ (by first|exact Below.refl _ _|exact Br.drew)).env).mono ?_;rintro e x1 ⟨rfl,rfl⟩)
   |(
     go_at_call 14;refine(Ev.state (HP.out _ (by first|exact Below.refl _ _|exact Br.drew)).env).mono ?_;rintro e x2 ⟨rfl,hx2⟩;have hb2:Below w.heap.size w x2:=bQ (by first|exact Below.refl _ _|exact Br.drew) hx2)
   |(
     go_at_call 68;refine(Ev.console (HP.out _ hb2).env).mono ?_;rintro e x3 ⟨rfl,rfl⟩)
   |(
     go_at_call 94;refine(Ev.own (HP.out _ hb2).env).mono ?_;rintro e x3 ⟨v3,rfl,hl3,hv3,hx3⟩;have hb3:Below w.heap.size w x3:=bQ hb2 hx3;obtain⟨o3,k3,rfl,hw3⟩:=hl3.words HOk.out;have hls:=(HP.out _ hb3).ren.ls;rw[HOw.out,←HL.out.own] at hls;obtain⟨o4,k4,he4,hw4⟩:=Sl.Lst.words hls HOk.out;simp only[Value.slice.injEq] at he4;obtain⟨rfl,_,rfl⟩:=he4;have HSw:=Lh (Rs.sameWords (ca:=k3) (cb:=ac) hw3 hw4);rw[decide_eq_true rfl] at HSw)
   |(
     go_at_call 102;refine HSw.out.mono ?_;rintro e x4 ⟨rfl,hx4⟩;have hb4:Below w.heap.size w x4:=bQ hb3 hx4)
   |(
     go_at_call 77;refine(Ev.cpu (HP.out _ hb4).env).mono ?_;rintro e x5 ⟨rfl,rfl⟩)
   |(
     go_at_call 120;refine(by have h5:=(HP.out _ hb4).ren.cp;rw[←HL.out.r,←HL.out.pc] at h5;exact same06 (HP.out _ hb4).env.cp h5:Calls Tryz.prog 120 #[.pointer (some ⟨a.cb,0,none⟩),.pointer (some ⟨b.cb,0,none⟩)] x4 _).mono ?_;rintro e x5 ⟨rfl,hx5⟩;have hb5:Below w.heap.size w x5:=bQ hb4 hx5)
   |(
     go_at_call 18;refine(Ev.space (HP.out _ hb5).env).mono ?_;rintro e x6 ⟨rfl,rfl⟩)
   |(
     go_at_call 121;refine(Sp.same (⟨(HP.out _ hb5).env.sp,(HP.out _ hb5).ren.rp,fun k hk g=>HAp.out k (.inr (.inr (.inl hk))) (.inr (.inr (.inl g)))⟩:Pair _ a.sb a.mb E.A b.rb b.lv R) (by rw[(HP.out _ hb5).ren.eq];exact HL.out.A)).mono ?_;rintro e x6 ⟨rfl,hx6⟩;have hb6:Below w.heap.size w x6:=bQ hb5 hx6))
 have HF:=Lh hb6;clear m0 m1 m2 m3 m4 m5 m6 m7 hb2 hb3 hb4 hb5 hx2 hx3 hx4 hx5 hx6 hl3 hv3 hw3 hls hw4 HSw HP HCl se;go_wp2;go_ret;exact⟨rfl,HF.out⟩
end Cp
namespace L22
open In
theorem call_cell{W:World}{bx:Nat}{dn nm:Int}{c:Nat→Int}{fr:ByteArray}(h:W.heap[bx]? =some (.cells (callC dn nm c fr) 51 (0,0))){i:Nat}(hi:i<4):W.cell? ⟨bx,2+i,none⟩=some (.int .u32 (c i)):=by
 unfold World.cell?;rw[h];obtain rfl|rfl|rfl|rfl:i=0∨i=1∨i=2∨i=3:=by omega
 ·rfl
 ·rfl
 ·rfl
 ·rfl
def SetP(w0 w:World)(a:KAt)(K:Kn)(e:EAt)(E:En)(b:RkAt)(L:Kn)(f:RAt)(R:List Rp)(F:En)(c:Nat→Int)(w':World):Prop:=
 Quad w0 w' a K e {E with r:=regs4 E.r c 4} b L f R {F with r:=regs4 F.r c 4}∧Mod (fun k=>e.foot E.A k∨f.foot R k∨w.heap.size≤k) w w'
def stRel(w0 w:World)(bx:Nat)(dn nm:Int)(fr:ByteArray)(a:KAt)(K:Kn)(e:EAt)(E:En)(b:RkAt)(L:Kn)(f:RAt)(R:List Rp)(F:En)(c:Nat→Int)(vi:Value)(wr:World):Prop:=
 ∃i:Nat,i≤4∧vi=.int .i64 i∧Quad w0 wr a K e {E with r:=regs4 E.r c i} b L f R {F with r:=regs4 F.r c i}∧wr.heap[bx]? =some (.cells (callC dn nm c fr) 51 (0,0))∧Mod (fun k=>e.foot E.A k∨f.foot R k∨w.heap.size≤k) w wr
section
variable {w0 w:World} {a:KAt} {K:Kn} {e:EAt} {E:En} {b:RkAt} {L:Kn} {f:RAt} {R:List Rp} {F:En}
theorem set(h:Quad w0 w a K e E b L f R F)(dn nm:Int)(c:Nat→Int)(fr:ByteArray)(hc:∀i,i<4→0≤c i∧c i≤4294967295):
  Calls Tryz.prog 15 #[.pointer (some ⟨e.eb,0,none⟩),.pointer (some ⟨f.cb,0,none⟩),.agg (callC dn nm c fr)] w fun r w'=>r=.returned (.tuple #[])∧SetP w0 w a K e E b L f R F c w':=by
 have hb:Below w.heap.size w (w.alloc (.cells (callC dn nm c fr) 51)):=Ba _;have hblk:=heap_alloc_new w (.cells (callC dn nm c fr) 51);have HR0:Hid (stRel w0 w w.heap.size dn nm fr a K e E b L f R F c (.int .i64 0) (w.alloc (.cells (callC dn nm c fr) 51))):=Lh ⟨0,by omega,rfl,h.below hb,hblk,Mod.of_below hb _⟩;have HC:=Lh hc;have HNe:Hid (¬e.foot E.A w.heap.size∧¬f.foot R w.heap.size):=Lh ⟨fun g=>Nat.lt_irrefl _ (h.p.en.lt _ g),fun g=>Nat.lt_irrefl _ (h.d.en.lt _ g)⟩;clear h hb hc;clear hblk;obtain⟨w1,hw1⟩:∃w1,w.alloc (.cells (callC dn nm c fr) 51)=w1:=⟨_,rfl⟩;rw[hw1] at HR0;unfold callC at hw1⊢;go_enter func15,ntmps15;go_wp2;try rw[hw1]
 clear hw1;obtain⟨bx,hbx⟩:∃bx,w.heap.size=bx:=⟨_,rfl⟩;have HBx:=Lh hbx;rw[hbx] at HR0 HNe⊢;clear hbx;go_loopw [6] (fun vi wr=>stRel w0 w bx dn nm fr a K e E b L f R F c vi wr) (fun vi _=>4 - (intOf vi).toNat)
 case atStart=>exact HR0.out
 case round=>
  clear HR0;obtain⟨i,hi,rfl,hq,hblk,hmd⟩:=hrel;have HQ:=Lh hq;have HBk:=Lh hblk;have HMd:=Lh hmd;clear hq hblk hmd
  by_cases hin:i<4
  ·obtain⟨v0,v1⟩:=HC.out i hin;have hcl:∀W:World,W.heap[bx]? =some (.cells (callC dn nm c fr) 51 (0,0))→W.cell? ⟨bx,2+i,none⟩=some (.int .u32 (c i)):=fun W hW=>call_cell hW hin
   have HCl:=Lh hcl;have hcl1:=hcl wr HBk.out;have hsr:=Cp.setReg_ok (HQ.out.p.en.below Br.drew).cp (i+1) (by omega) (c i) v0 v1;rw[show((i+1:Nat):Int)=(i:Int)+1 by omega] at hsr;have HSR:=Lh hsr;clear hsr hcl;have hi16:(i:Int)<4:=by omega
   have hcpu:=Ev.cpu HQ.out.p.en;generalize hv:c i=v at*;have HvR:=Lh hv;clear hv;go_wp2_with fail;refine wp_region_still_tail 8 (by kernel_rfl) (by kernel_rfl) ?_;simp only[List.take_succ_cons,List.take_zero,List.drop_succ_cons,List.drop_zero]
   repeat still_step
   still_call ((Ev.cpu (HQ.out.p.en.below Br.drew)).mono fun e w' ⟨g1,g2⟩=>⟨g1,g2.symm⟩)
   repeat still_step
   refine wpStill_nil ?_
   change wpList _ _ _ _ _ wr.drew
   have HQd:=Lh (HQ.out.below Br.drew);have HBd:Hid (wr.drew.heap[bx]? =some (.cells (callC dn nm c fr) 51 (0,0))):=Lh HBk.out;have HMD:=Lh (HMd.out.drew);clear HQ HBk HMd hcl1 hcpu;generalize wr.drew=w6 at*;go_wp2_with fail;refine HSR.out.mono ?_;rintro r w7 ⟨rfl,hc7,hm7⟩;have hs7:=EStep.regs HQd.out.p.en hc7 hm7;have hq7:=HQd.out.right hs7 rfl;have hne7:bx≠e.cb:=fun z=>HNe.out.1 (z▸ .inr (.inl rfl))
   have hbk7:=(hm7.block _ (lQ HBd.out) hne7).trans HBd.out;have hmd7:=HMD.out.same (hm7.mono fun k _ z=>.inl (z▸ .inr (.inl rfl)));have HX7:Hid (∀W,Below w7.heap.size w7 W→(W.cell? ⟨bx,2+i,none⟩=some (.int .u32 v)∧True)∧W.cell? ⟨f.cb,i+1,none⟩=some (.int .u32 (Cp.rg (regs4 F.r c i) ((i+1:Nat):Int)))∧W.frozen? ⟨f.cb,i+1,none⟩=false∧stRel w0 w bx dn nm fr a K e E b L f R F c (.int .i64 ((i:Int)+1)) (W.setCell ⟨f.cb,i+1,none⟩ (.int .u32 v))∧((W.setCell ⟨f.cb,i+1,none⟩ (.int .u32 v)).cell? ⟨bx,2+i,none⟩=some (.int .u32 v)∧True)):=Lh fun W hW=>by
    have hq8:=hq7.below hW;have hbk8:=(hW.block _ (lQ hbk7)).trans hbk7;have hdc:=hq8.d.en.cp;have hm8:Mod (fun k=>k=f.cb) W (W.setCell ⟨f.cb,i+1,none⟩ (.int .u32 v)):=Mod.setCell (F:=fun k=>k=f.cb) (Mod.refl _ _) ⟨f.cb,i+1,none⟩ (.inl rfl) _;have h8:=hq8.dright (RvStep.regs hq8.d.en (hdc.setReg (i+1) (by omega) v v0 v1) hm8);have hne8:bx≠f.cb:=fun z=>HNe.out.2 (z▸ .inr (.inl rfl))
    have hbk9:=(hm8.block _ (lQ hbk8) hne8).trans hbk8;have e1:Cp.putG (regs4 E.r c i) ((i:Int)+1) v=regs4 E.r c (i+1):=by rw[←HvR.out];rfl
    have e2:(regs4 F.r c i).set (i+1) v=regs4 F.r c (i+1):=by
     rw[←HvR.out]
     show _=Cp.putG (regs4 F.r c i) ((i:Int)+1) (c i)
     rw[show((i:Int)+1)=((i+1:Nat):Int) by omega,Cp.putG_nat _ _ _ (by omega)]
    refine⟨⟨HCl.out W hbk8,trivial⟩,hdc.cellReg (i+1) (by omega),hdc.thaw (i+1),⟨i+1,by omega,by simp, ?_,hbk9,(hmd7.trans (Mod.of_below hW (fun _=>False)) fun _ _ z=>z.elim).same (hm8.mono fun k _ z=>.inr (.inl (z▸ .inr (.inl rfl))))⟩,⟨HCl.out _ hbk9,trivial⟩⟩;rw[←e1,←e2];exact h8
   clear hbk7 hmd7 hne7 hq7 hs7 hc7 hm7 HSR HQd HBd HMD HCl;have hS:=(HX7.out w7.drew Br.drew).1;go_wp2_with fail;refine B (fun W=>W.cell? ⟨bx,2+i,none⟩=some (.int .u32 v)∧True) hS ?_;intro wd hwd hS;have hX:=HX7.out wd (by subst hwd;exact Br.drew);obtain⟨_,d1,d2,d3,d4⟩:=hX;have HD3:=Lh d3;have HD4:=Lh d4;clear hwd HX7 d3 d4;have i4:(i:Int)+1<16:=by omega
   have i5:(0:Int)≤(i:Int)+1:=by omega
   have iw:IntKind.i64.wrap ((i:Int)+1)=(i:Int)+1:=by rw[IntKind.wrap_i64];omega
   have it:((i:Int)+1).toNat=i+1:=by omega
   refine T 0 hS ?_;refine T 1 hS ?_;refine T 2 hS ?_;refine T 3 hS ?_;refine T 4 hS ?_;refine T 5 hS ?_;refine T 6 hS ?_;refine T 7 hS ?_;refine T 8 hS ?_;refine T 9 hS ?_;clear hS;refine U 10 fun K' hK=> ?_
   go_simp;refine V hK HD4.out ?_;clear hK K';clear d1 d2;refine wpAnyH_done (by kernel_rfl) ?_ _;go_wp2;exact⟨HD3.out,by simp[intOf];omega⟩
  ·obtain rfl:i=4:=by omega
   have hend:SetP w0 w a K e E b L f R F c wr:=⟨HQ.out,HMd.out⟩;have HE:=Lh hend;clear hend HQ HBk HMd;go_wp2
   first
    |exact⟨rfl,HE.out⟩
    |(go_end0;exact⟨rfl,HE.out⟩)
end
end L22
end Go.Proofs.YtjjdjpdmgaipeaaGreat
