/- XoA, XoR, XoD, RcP, R19, R19B, R19C, RwIn in one text. -/
import Derived.Test.YtnpicaigdfnmfaaGreatPnRegT
import Derived.Test.YtnpicaigdfnmfaaGreatPnKdoG
import Derived.Test.YtnpicaigdfnmfaaGreatPnGrantG
import Derived.Test.YtnpicaigdfnmfaaGreatPnSl21
import Derived.Test.YtnpicaigdfnmfaaGreatPnGraG
import Derived.Test.YtnpicaigdfnmfaaGreatPnKnG
import Derived.Test.YtnpicaigdfnmfaaGreatPnZa
set_option linter.unusedVariables false
set_option linter.unusedSimpArgs false
set_option maxRecDepth 100000
set_option maxHeartbeats 16000000
open Go.Proofs.Tryz
namespace Go.Proofs.YtnpicaigdfnmfaaGreat
open Go.RowKit
namespace Ex
def S0:Nat→Slt:=fun _=>⟨false,0,none⟩
def NewP(w:World)(hp:Int)(xs:List Int)(e:Ending)(w':World):Prop:=
 ∃(xb:Nat) (a:KAt),e=.returned (.tuple #[.pointer (some ⟨xb,0,none⟩),.int .i64 0])∧Ex w' xb a.kb S0 (.slice none 0 0)∧Knl w' a (Kn.new hp xs)∧a.tag xb=0∧(∀k,a.tag k≠0→w.heap.size≤k)∧w.heap.size≤xb∧Below w.heap.size w w'
theorem new{w:World}{s:Option Addr}{cap:Nat}{hp:Int}{xs:List Int}(h:Rs.Words w s xs)(hb0:∀x,x∈xs→0≤x∧x≤4294967295)(p0:0≤hp)(hok:Ca.hardOk hp xs=true):Calls Tryz.prog 50 #[.agg #[.int .u32 hp,.slice s xs.length cap]] w (NewP w hp xs):=by
 have HFin:=Lh fun V xb a (h1:Ex V xb a.kb S0 (.slice none 0 0)) (h2:Knl V a (Kn.new hp xs)) (h3:a.tag xb=0) (h4:∀k,a.tag k≠0→w.heap.size≤k) (h5:w.heap.size≤xb) (h6:Below w.heap.size w V)=>(show NewP w hp xs (.returned (.tuple #[.pointer (some ⟨xb,0,none⟩),.int .i64 0])) V from⟨xb,a,rfl,h1,h2,h3,h4,h5,h6⟩)
 generalize NewP w hp xs=PQ at*;have hb:Below w.heap.size w (w.alloc (.cells #[.int .u32 hp,.slice s xs.length cap] 120)):=Ba _;have HB:=Lh hb;have HN:=Lh (Kl.new (cap:=cap) (Ca.words_below h hb) hb0 p0 hok);clear hb p0 h hb0 hok;go_enter func50,ntmps50;go_wp2_with fail;refine HN.out.mono ?_;rintro e w2 ⟨a,rfl,hk,ht,hb2⟩;have HK:=Lh hk;have HT:=Lh ht;have HB2:=Lh (bQ HB.out hb2);clear hk ht hb2;go_wp2;have hal:Below w2.heap.size w2 (w2.alloc (.cells (cells a.kb S0 (.slice none 0 0)) 186)):=Ba _;have hend:=HFin.out _ w2.heap.size a ⟨heap_alloc_new w2 _⟩ (HK.out.below hal) (by
  by_cases q:a.tag w2.heap.size=0
  ·exact q
  ·exact absurd (HK.out.lt _ q) (Nat.lt_irrefl _)) (fun k hk=>Nat.le_trans (by simp) (HT.out k hk)) HB2.out.size (HB2.out.alloc HB2.out.size _)
 exact hend
section
variable {w w':World} {xb kb:Nat} {S:Nat→Slt} {tv:Value}
theorem cellM{F:Nat→Prop}{w w':World}(hm:Mod F w w'){b i:Nat}{v:Value}(h:w.cell? ⟨b,i,none⟩=some v)(hF:¬F b):w'.cell? ⟨b,i,none⟩=some v:=by
 have hl:b<w.heap.size:=by
  unfold World.cell? at h;cases hg:w.heap[b]? with
  |none=>rw[hg] at h;cases h
  |some _=>exact lQ hg
 exact(World.cell?_of_block (w:=w) (hm.block _ hl hF)).trans h
theorem set(h:Ex w xb kb S tv)(i:Nat)(s:Slt)(hi:i<9):Ex (((w.setCell ⟨xb,1+i*3,none⟩ (.bool s.is)).setCell ⟨xb,1+i*3+1,none⟩ (.int .i64 s.pg)).setCell ⟨xb,1+i*3+2,none⟩ (.pointer (s.env.map fun b=>⟨b,0,none⟩))) xb kb (upd S i s) tv:=by
 refine⟨?_⟩;rw[←cells_set kb S tv i s hi];exact heap_setCell_same _ _ _ _ _ _ (heap_setCell_same _ _ _ _ _ _ (heap_setCell_same _ _ _ _ _ _ h.blk))
theorem setEnv(h:Ex w xb kb S tv)(i b:Nat)(hi:i<9):Ex (w.setCell ⟨xb,1+i*3+2,none⟩ (.pointer (some ⟨b,0,none⟩))) xb kb (upd S i { S i with env:=some b }) tv:=by
 refine⟨?_⟩;rw[←cells_env kb S tv i b hi];exact heap_setCell_same _ _ _ _ _ _ h.blk
theorem pages_shape{w:World}{base n:Nat}{v:Value}{cs:List Value}(h:w.ownsRow base 42 1 v n cs):∃a c,v=.slice a n c:=by
 rcases h.2 with⟨rfl,h0⟩|⟨g,cap,cur,rfl,_⟩
 ·exact⟨none,0,by rw[h0]⟩
 ·exact⟨_,_,rfl⟩
theorem many{sb mb:Nat}{A:List Pg}(h:Ex w xb kb S tv)(n:Nat)(n8:n≤8)(hsp:Spc w sb mb A):Calls Tryz.prog 88 #[.pointer (some ⟨xb,0,none⟩),.int .i64 n,.pointer (some ⟨sb,0,none⟩)] w fun e w'=>e=.returned (.bool (decide ((S n).pg<A.length)))∧Below w.heap.size w w':=by
 obtain⟨c0,c1,c2,cf⟩:=h.at' n (by omega);have hd:=(Below.refl w.heap.size w).drew;have HP:=Lh (Pag.pages (hsp.below hd fun k hk=>hsp.lt hk));have HD:=Lh hd;have HC:=Lh c1;obtain⟨bl,hbl⟩:∃b,decide ((S n).pg<(A.length:Int))=b:=⟨_,rfl⟩;have hgt:decide ((A.length:Int)>(S n).pg)=bl:=hbl;rw[hbl];have n9:(n:Int)<9:=by omega
 clear h hsp cf c0 c1 c2 hd hbl;go_enter func88,ntmps88;go_wp2_with fail;refine B (fun V=>V.cell? ⟨xb,1+n*3+1,none⟩=some (.int .i64 (S n).pg)) HC.out fun wd hwd hS=> ?_
 have HWd:=Lh hwd;rw[←hwd] at HP HD;clear hwd;refine T 0 hS ?_;refine T 3 hS ?_;refine T 4 hS ?_;refine T 5 hS ?_;refine T 6 hS ?_;refine T 7 hS ?_;refine T 8 hS ?_;refine T 9 hS ?_;refine U 1 fun K hK=> ?_
 go_simp;go_at_call 137;refine HP.out.mono ?_;rintro e w5 ⟨v,rfl,hv,hb⟩;obtain⟨a,c,rfl⟩:=pages_shape hv;have hS5:=keep hS hb;have HB:=Lh (bQ HD.out hb);clear hv hb;refine V hK hS5 ?_;clear hK K;refine T 2 hS5 ?_;refine T 10 hS5 ?_;refine wpAnyH_done (by kernel_rfl) ?_ _;cases bl with
 |true=>
  go_wp2
  first|exact⟨rfl,HB.out⟩|(go_ret;exact⟨rfl,HB.out⟩)
 |false=>
  go_wp2
  first|exact⟨rfl,HB.out⟩|(go_ret;exact⟨rfl,HB.out⟩)
def StartP(w:World)(xb kb:Nat)(S:Nat→Slt)(tv:Value)(n:Nat)(pc:Int)(A:List Pg)(e:Ending)(w':World):Prop:=
 ∃a C,e=.returned (.int .i64 0)∧Ex w' xb kb (upd S n { S n with env:=some a.eb }) tv∧Env w' a (En.new n pc C)∧cores C=cores A∧(∀k,a.foot C k→w.heap.size≤k)∧Mod (fun k=>k=xb) w w'
theorem start{sb mb:Nat}{A:List Pg}(h:Ex w xb kb S tv)(n:Nat)(n1:1≤n)(n8:n≤8)(hs:(S n).is=true)(hv:(S n).env=none)(hsp:Spc w sb mb A)(hl:(A.length:Int)≤(S n).pg)(pc:Int)(p0:0≤pc)(p1:pc≤4294967295):
  Calls Tryz.prog 46 #[.pointer (some ⟨xb,0,none⟩),.int .i64 n,.pointer (some ⟨sb,0,none⟩),.int .u32 pc] w (StartP w xb kb S tv n pc A):=by
 have HFin:=Lh fun V (h:∃a C,Ex V xb kb (upd S n { S n with env:=some a.eb }) tv∧Env V a (En.new n pc C)∧cores C=cores A∧(∀k,a.foot C k→w.heap.size≤k)∧Mod (fun k=>k=xb) w V)=>(show StartP w xb kb S tv n pc A (.returned (.int .i64 0)) V from by obtain⟨a,C,h⟩:=h;exact⟨a,C,rfl,h⟩)
 generalize StartP w xb kb S tv n pc A=PQ at*;obtain⟨c0,c1,c2,cf⟩:=h.at' n (by omega);rw[hv] at c2;have HX:=Lh h;have HHas:=Lh (h.has n n1 n8);rw[hs] at HHas;have HMany:=Lh (h.many n n8 hsp);rw[show decide ((S n).pg<(A.length:Int))=false from decide_eq_false (by omega)] at HMany;have HNew:=Lh fun V (hV:Below w.heap.size w V)=>Ev.new (hsp.below hV fun k hk=>hsp.lt hk) (n:Int) pc (by omega) (by omega) p0 p1
 have HXl:=Lh (lQ h.blk);have n9:(n:Int)<9:=by omega
 clear h hs hv hsp hl cf c0 c1 p0 p1;go_enter func46,ntmps46;go_wp2_with fail;refine HHas.out.mono ?_;rintro e w1 ⟨rfl,rfl⟩;go_wp2_with fail;refine HMany.out.mono ?_;rintro e w2 ⟨rfl,hb2⟩;have HB2:=Lh hb2;clear hb2 c2;go_wp2_with fail;refine(HNew.out _ HB2.out).mono ?_;rintro e w3 ⟨a,C,rfl,hen,hco,hf,hb3⟩;have HE:=Lh (And.intro hen (And.intro hco hf));have HB3:=Lh (bQ HB2.out hb3);clear hen hco hf hb3;obtain⟨c0,c1,c2,cf⟩:=(HX.out.below HB3.out).at' n (by omega);have cf:=cf (1+n*3+2);go_wp2;have hm:Mod (fun i=>i=xb) w3 (w3.setCell ⟨xb,1+n*3+2,none⟩ (.pointer (some ⟨a.eb,0,none⟩))):=Mod.setCell (F:=fun i=>i=xb) (Mod.refl _ _) ⟨xb,1+n*3+2,none⟩ (.inl rfl) _;have hxl:=HXl.out;have hz2:=HB2.out.size;have hend:=HFin.out _ ⟨a,C,(HX.out.below HB3.out).setEnv n a.eb (by omega),HE.out.1.keep hm (fun k hk e=>by have h2:=HE.out.2.2 k hk;have e:k=xb:=e;omega),HE.out.2.1,(fun k hk=>Nat.le_trans hz2 (HE.out.2.2 k hk)),(Mod.of_below HB3.out _).trans hm fun _ _ g=>.inl g⟩;exact hend
theorem start_full{sb mb:Nat}{A:List Pg}(h:Ex w xb kb S tv)(n:Nat)(n1:1≤n)(n8:n≤8)(hs:(S n).is=true)(hv:(S n).env=none)(hsp:Spc w sb mb A)(hl:(S n).pg<(A.length:Int))(pc:Int):
  Calls Tryz.prog 46 #[.pointer (some ⟨xb,0,none⟩),.int .i64 n,.pointer (some ⟨sb,0,none⟩),.int .u32 pc] w fun e w'=>e=.returned (.int .i64 4)∧Below w.heap.size w w':=by
 obtain⟨c0,c1,c2,cf⟩:=h.at' n (by omega);rw[hv] at c2;have HHas:=Lh (h.has n n1 n8);rw[hs] at HHas;have HMany:=Lh (h.many n n8 hsp);rw[show decide ((S n).pg<(A.length:Int))=true from decide_eq_true hl] at HMany;have n9:(n:Int)<9:=by omega
 clear h hs hv hsp hl cf c0 c1;go_enter func46,ntmps46;go_wp2_with fail;refine HHas.out.mono ?_;rintro e w1 ⟨rfl,rfl⟩;go_wp2_with fail;refine HMany.out.mono ?_;rintro e w2 ⟨rfl,hb2⟩;have HB2:=Lh hb2;clear hb2 c2;go_wp2
 first|exact⟨rfl,HB2.out⟩|(go_ret;exact⟨rfl,HB2.out⟩)
end
end Ex
structure Eve where
 k:Int
 n:Int
 t:ByteArray
 c:Int
def Eve.cells(x:Eve):List Value:=[.int .u8 x.k,.int .i64 x.n,.string x.t,.int .u32 x.c]
def eveC(T:List Eve):List Value:=T.flatMap Eve.cells
theorem eveC_snoc(T:List Eve)(t:Eve):eveC (T++[t])=eveC T++t.cells:=by unfold eveC;rw[List.flatMap_append];simp
def ERow(w:World)(base:Nat)(v:Value)(T:List Eve):Prop:=w.ownsRow base 89 4 v T.length (eveC T)
theorem info_eve:(Tryz.prog.info? 89).map (fun i=>(i.zero,i.size,i.bytes))=some (some (.agg #[.int .u8 0,.int .i64 0,.string ByteArray.empty,.int .u32 0]),4,40):=by kernel_rfl
theorem wpList_app_eve{w:World}{ops:Array Oper}{rest:List Oper}{o:Oper}{a:Act}{Q:Exit→Act→World→Prop}(hgd:o.guard=none)(s x:Operand)
  (ho:o.op=.call { callee:=.builtin .append,args:= #[s,x],argTypes:= #[86,86] }) (base:Nat) (v:Value) (T:List Eve) (hs:a.eval s=v) (h:ERow w base v T) (b:Nat) (t:Eve)
  (hx:a.eval x=.slice (some ⟨b,0,none⟩) 1 1) (hb:w.heap[b]? =some (.cells t.cells.toArray 89 (0,0))) (hl:T.length≤1000000) (hbase:base≤w.heap.size)
  (H:∀g cap w',ERow w' base (.slice (some ⟨g,0,none⟩) (T.length+1) cap) (T++[t])→w.grownBy w' v.ownBlock→(v.ownBlock=some g∨g=w.heap.size)→wpList Tryz.prog ops Q rest (a.put o.dst (.slice (some ⟨g,0,none⟩) (T.length+1) cap)) w'):wpList Tryz.prog ops Q (o::rest) a w:=by
 obtain⟨i0,hi,hz0,hz1,hz2⟩:=info_parts info_eve;refine wpList_append_lies w hgd s x _ ho base 89 i0 (.agg #[.int .u8 0,.int .i64 0,.string ByteArray.empty,.int .u32 0]) 4 40 Tryz.underlying86 hi hz0 hz1 hz2 rfl (by omega) v T.length (eveC T) hs h ⟨b,0,none⟩ 1 1 t.cells hx rfl (World.news_of_block hb) (fun x hx=>by simp[Eve.cells] at hx;rcases hx with rfl|rfl|rfl|rfl<;>rfl) (by omega) (by unfold maxLen;omega) (by omega) hbase _ rfl fun g cap w' h2 h3 h4 h5=>H _ _ _ ?_ h3 h4
 unfold ERow;rw[List.length_append,eveC_snoc];exact h2
namespace Ex
section
variable {w w':World} {xb kb:Nat} {S:Nat→Slt} {tv:Value}
theorem cells_tv(kb:Nat)(S:Nat→Slt)(tv v:Value):(cells kb S tv).setIfInBounds 28 v=cells kb S v:=rfl
theorem tvc(h:Ex w xb kb S tv):w.cell? ⟨xb,28,none⟩=some tv∧w.frozen? ⟨xb,28,none⟩=false:=by
 refine⟨?_, ?_⟩
 ·unfold World.cell?;rw[h.blk];rfl
 ·unfold World.frozen?;rw[h.blk];simp
def TellP(w:World)(xb kb base:Nat)(S:Nat→Slt)(tv:Value)(T:List Eve)(x:Eve)(e:Ending)(w':World):Prop:=
 e=.returned (.tuple #[])∧∃tv',Ex w' xb kb S tv'∧ERow w' base tv' (T++[x])∧Mod (fun k=>k=xb∨tv.ownBlock=some k) w w'∧(tv'.ownBlock=tv.ownBlock∨tv'.ownBlock=some w.heap.size)
theorem tell{base lb:Nat}{T:List Eve}{x:Eve}(h:Ex w xb kb S tv)(hr:ERow w base tv T)(hx:w.heap[lb]? =some (.cells x.cells.toArray 89 (0,0)))(hl:T.length≤1000000)(hbase:base≤w.heap.size)(hxt:tv.ownBlock≠some xb):
  Calls Tryz.prog 68 #[.pointer (some ⟨xb,0,none⟩),.slice (some ⟨lb,0,none⟩) 1 1] w (TellP w xb kb base S tv T x):=by
 generalize hPQ:TellP w xb kb base S tv T x=PQ;have HPQ:=Lh hPQ;obtain⟨c0,c1⟩:=h.tvc;have H:=Lh h;have HR:=Lh hr;have HX:=Lh hx;have HL:=Lh hl;have HBs:=Lh hbase;have HXt:=Lh hxt;clear h hr hx hl hbase hxt hPQ;go_enter func68,ntmps68;go_wp2_with (at_builtin;refine wpList_app_eve (by rfl) _ _ (by rfl) base _ _ (by rfl) HR.out _ x (by rfl) HX.out HL.out HBs.out ?_;intro g cap w5 hr5 hg5 ho5;have hx5:Ex w5 xb kb S tv:=⟨(hg5.block xb (lQ H.out.blk) fun e=>HXt.out e.symm).trans H.out.blk⟩;obtain⟨d0,d1⟩:=hx5.tvc;have HX5:=Lh hx5;clear hx5);have hm6:Mod (fun k=>k=xb) w5 (w5.setCell ⟨xb,28,none⟩ (.slice (some ⟨g,0,none⟩) (T.length+1) cap)):=Mod.setCell (F:=fun k=>k=xb) (Mod.refl _ _) ⟨xb,28,none⟩ (.inl rfl) _;have hgx:g≠xb:=fun e=>by
  rcases ho5 with q|q
  ·exact HXt.out (e▸q)
  ·have:=lQ H.out.blk;omega
 have hend:TellP w xb kb base S tv T x (.returned (.tuple #[])) (w5.setCell ⟨xb,28,none⟩ (.slice (some ⟨g,0,none⟩) (T.length+1) cap)):=by
  refine⟨rfl,_,⟨?_⟩,row_keep hr5 fun k hk=>hm6.block k (World.ownsRow.lt hr5 k hk).2 fun e=> ?_, ?_, ?_⟩
  ·rw[←cells_tv kb S tv];exact heap_setCell_same _ _ _ _ _ _ HX5.out.blk
  ·cases hk;exact hgx e
  ·exact(Mod.trans (F:=fun k=>k=xb∨tv.ownBlock=some k) (G:=fun k=>k=xb∨tv.ownBlock=some k) ⟨hg5.os,hg5.tape,hg5.output,hg5.size,fun k hk hn=>hg5.block k hk fun e=>hn (.inr e.symm)⟩ (hm6.mono fun k _ e=>.inl e) fun _ _ q=>.inl q)
  ·rcases ho5 with q|q
   ·exact .inl q.symm
   ·exact .inr (by rw[q];rfl)
 rw[HPQ.out] at hend
 first
  |exact hend
  |(go_end0;exact hend)
end
end Ex
theorem ownsRow_keep{w w':World}{base:Nat}{e:TypeId}{s n:Nat}{v:Value}{xs:List Value}(h:w.ownsRow base e s v n xs)(hf:∀g,v.ownBlock=some g→w'.heap[g]? =w.heap[g]?):w'.ownsRow base e s v n xs:=by
 obtain⟨hl,g⟩:=h;refine⟨hl,g.imp id ?_⟩;rintro⟨g1,cap,cur,rfl,h1,h2,rest⟩;exact⟨g1,cap,cur,rfl,h1,(hf g1 rfl).trans h2,rest⟩
structure Xe(w:World)(base xb:Nat)(S:Nat→Slt)(tv:Value)(T:List Eve)(a:KAt)(K:Kn)(e:EAt)(E:En):Prop where
 x:Ex w xb a.kb S tv
 j:KE w a K e E
 num:1≤E.num∧E.num≤8
 t:ERow w base tv T
 b0:base≤w.heap.size
 xa:a.tag xb=0
 xe:¬e.foot E.A xb
 ta:∀g,tv.ownBlock=some g→a.tag g=0∧¬e.foot E.A g∧g≠xb
structure XStep(w w':World)(xb:Nat)(tv:Value)(a:KAt)(e:EAt)(A:List Pg)(tv':Value)(a':KAt)(e':EAt)(A':List Pg):Prop where
 mod:Mod (fun k=>a.wf k∨e.foot A k∨k=xb∨tv.ownBlock=some k) w w'
 tag:∀k,k<w.heap.size→a'.tag k=a.tag k
 foot:∀k,e'.foot A' k→e.foot A k∨w.heap.size≤k
 own:∀g,tv'.ownBlock=some g→tv.ownBlock=some g∨w.heap.size≤g
 eb:e'.eb=e.eb
 kb:a'.kb=a.kb
namespace XStep
variable {w w' w'':World} {xb:Nat} {tv tv' tv'':Value} {a a' a'':KAt} {e e' e'':EAt} {A A' A'':List Pg}
theorem refl(w:World)(xb:Nat)(tv:Value)(a:KAt)(e:EAt)(A:List Pg):XStep w w xb tv a e A tv a e A:=⟨Mod.refl _ _,fun _ _=>rfl,fun _ g=>.inl g,fun _ g=>.inl g,rfl,rfl⟩
theorem trans(h:XStep w w' xb tv a e A tv' a' e' A')(k:XStep w' w'' xb tv' a' e' A' tv'' a'' e'' A''):XStep w w'' xb tv a e A tv'' a'' e'' A'' where
 mod:=h.mod.trans k.mod fun i _ g=>by
  rcases Nat.lt_or_ge i w.heap.size with hi|hi
  ·rcases g with g|g|g|g
   ·exact .inl (.inl (by unfold KAt.wf at g⊢;rw[h.tag i hi] at g;exact g))
   ·exact(h.foot i g).imp (fun q=>.inr (.inl q)) id
   ·exact .inl (.inr (.inr (.inl g)))
   ·exact(h.own i g).imp (fun q=>.inr (.inr (.inr q))) id
  ·exact .inr hi
 tag:=fun i hi=>(k.tag i (Nat.lt_of_lt_of_le hi h.mod.size)).trans (h.tag i hi)
 foot:=fun i g=>(k.foot i g).elim (h.foot i) fun q=>.inr (Nat.le_trans h.mod.size q)
 own:=fun i g=>(k.own i g).elim (h.own i) fun q=>.inr (Nat.le_trans h.mod.size q)
 eb:=k.eb.trans h.eb
 kb:=k.kb.trans h.kb
theorem of_below(hb:Below w.heap.size w w'):XStep w w' xb tv a e A tv a e A:=⟨Mod.of_below hb _,fun _ _=>rfl,fun _ g=>.inl g,fun _ g=>.inl g,rfl,rfl⟩
theorem out(h:XStep w w' xb tv a e A tv' a' e' A'){k:Nat}(hk:k<w.heap.size)(ha:a.tag k=0)(he:¬e.foot A k)(hx:k≠xb)(ht:tv.ownBlock≠some k):w'.heap[k]? =w.heap[k]? ∧a'.tag k=0∧¬e'.foot A' k∧tv'.ownBlock≠some k:=
 ⟨h.mod.block k hk fun g=>by
  rcases g with g|g|g|g
  ·exact g.1 ha
  ·exact he g
  ·exact hx g
  ·exact ht g,(h.tag k hk).trans ha,fun g=>(h.foot k g).elim he fun q=>by omega,fun g=>(h.own k g).elim ht fun q=>by omega⟩
end XStep
namespace Xe
variable {w w':World} {base xb:Nat} {S:Nat→Slt} {tv tv':Value} {T:List Eve} {a a':KAt} {K K':Kn} {e e':EAt} {E E':En}
theorem tlt(h:Xe w base xb S tv T a K e E){g:Nat}(hg:tv.ownBlock=some g):g<w.heap.size∧base≤g:=by
 rcases h.t.2 with⟨rfl,_⟩|⟨b,cap,cur,rfl,h1,h2,h3⟩
 ·cases hg
 ·cases hg;exact⟨lQ h2,h1⟩
theorem below(h:Xe w base xb S tv T a K e E)(hb:Below w.heap.size w w'):Xe w' base xb S tv T a K e E:=
 { h with x:=h.x.below hb,j:=h.j.below hb,t:=ownsRow_keep h.t fun g hg=>hb.block g (h.tlt hg).1,b0:=Nat.le_trans h.b0 hb.size }
theorem joint(h:Xe w base xb S tv T a K e E)(s:JStep w w' a e E.A a' K' e' E')(hn:E'.num=E.num):Xe w' base xb S tv T a' K' e' E'∧XStep w w' xb tv a e E.A tv a' e' E'.A:=by
 have hx:=lQ h.x.blk;have hxb:¬(a.wf xb∨e.foot E.A xb):=fun g=>g.elim (fun q=>q.1 h.xa) h.xe
 have hout:∀k,k<w.heap.size→a.tag k=0→¬e.foot E.A k→a'.tag k=0∧¬e'.foot E'.A k:=fun k hk h1 h2=>⟨(s.tag k hk).trans h1,fun g=>(s.foot k g).elim h2 fun q=>by omega⟩
 refine⟨⟨?_,s.j,by rw[hn];exact h.num,ownsRow_keep h.t fun g hg=>s.mod.block g (h.tlt hg).1 fun q=>q.elim (fun z=>z.1 (h.ta g hg).1) (h.ta g hg).2.1,Nat.le_trans h.b0 s.mod.size,(hout xb hx h.xa h.xe).1,(hout xb hx h.xa h.xe).2,fun g hg=> ?_⟩,⟨s.mod.mono fun k _ g=>g.elim .inl fun q=>.inr (.inl q),s.tag,s.foot,fun _ g=>.inl g,s.same.2.1,s.same.1.1⟩⟩
 ·rw[s.same.1.1];exact h.x.mod s.mod hxb
 ·obtain⟨g1,g2,g3⟩:=h.ta g hg;exact⟨(hout g (h.tlt hg).1 g1 g2).1,(hout g (h.tlt hg).1 g1 g2).2,g3⟩
theorem told(h:Xe w base xb S tv T a K e E){x:Eve}{r:Ending}(q:Ex.TellP w xb a.kb base S tv T x r w'):∃tv',Xe w' base xb S tv' (T++[x]) a K e E∧XStep w w' xb tv a e E.A tv' a e E.A:=by
 obtain⟨_,tv',hx,ht,hm,ho⟩:=q;have hn:∀ {k},a.tag k≠0∨e.foot E.A k→¬(k=xb∨tv.ownBlock=some k):=fun hk q=>by
  rcases q with rfl|q
  ·exact hk.elim (fun z=>z h.xa) h.xe
  ·exact hk.elim (fun z=>z (h.ta _ q).1) (h.ta _ q).2.1
 have hlt:=lQ h.x.blk;refine⟨tv',⟨hx,⟨h.j.kn.keep hm fun k hk=>hn (.inl hk),h.j.en.keep hm fun k hk=>hn (.inr hk),h.j.apart⟩,h.num,ht,Nat.le_trans h.b0 hm.size,h.xa,h.xe,fun g hg=> ?_⟩,⟨hm.mono fun k _ q=>q.elim (fun z=>.inr (.inr (.inl z))) fun z=>.inr (.inr (.inr z)),fun _ _=>rfl,fun _ q=>.inl q,fun g hg=> ?_,rfl,rfl⟩⟩
 ·rcases ho with o|o
  ·exact h.ta g (o▸hg)
  ·rw[hg] at o;cases o;exact⟨Decidable.byContradiction fun z=>absurd (h.j.kn.lt _ z) (Nat.lt_irrefl _),fun z=>absurd (h.j.en.lt _ z) (Nat.lt_irrefl _),fun z=>by omega⟩
 ·rcases ho with o|o
  ·exact .inl (o▸hg)
  ·rw[hg] at o;cases o;exact .inr (Nat.le_refl _)
theorem keep{F:Nat→Prop}(h:Xe w base xb S tv T a K e E)(hm:Mod F w w')(hF:∀k,F k→a.tag k=0∧¬e.foot E.A k∧k≠xb∧tv.ownBlock≠some k):Xe w' base xb S tv T a K e E:=
 { h with x:=h.x.mod hm fun g=>(hF xb g).2.2.1 rfl,j:=⟨h.j.kn.keep hm fun k hk g=>hk (hF k g).1,h.j.en.keep hm fun k hk g=>(hF k g).2.1 hk,h.j.apart⟩,t:=ownsRow_keep h.t fun g hg=>hm.block g (h.tlt hg).1 fun z=>(hF g z).2.2.2 hg,b0:=Nat.le_trans h.b0 hm.size }
theorem fresh(h:Xe w base xb S tv T a K e E){k:Nat}(hk:w.heap.size≤k):a.tag k=0∧¬e.foot E.A k∧k≠xb∧tv.ownBlock≠some k:=
 ⟨Decidable.byContradiction fun z=>by have:=h.j.kn.lt _ z;omega,fun z=>by have:=h.j.en.lt _ z;omega,fun z=>by have:=lQ h.x.blk;omega,fun z=>by have:=(h.tlt z).1;omega⟩
end Xe
theorem XStep.turn{F:Nat→Prop}{w w' w'':World}{xb:Nat}{tv tv':Value}{a a':KAt}{e e':EAt}{A A':List Pg}(h:XStep w w' xb tv a e A tv' a' e' A')(hm:Mod F w' w'')(hF:∀k,F k→w.heap.size≤k):XStep w w'' xb tv a e A tv' a' e' A':= { h with mod:=h.mod.trans hm fun i _ g=>.inr (hF i g) }
def evL(x:Evt):List Eve:=if x.seen=true then [⟨x.kind,x.env,x.text,x.num⟩] else []
theorem evL_len(x:Evt):(evL x).length≤1:=by unfold evL;split<;>simp
inductive Gn (K0:Kn) (E0:En) (T0:List Eve):Nat→Kn→En→List Eve→Prop
 |nil:Gn K0 E0 T0 0 K0 E0 T0
 |step {i:Nat} {K:Kn} {E:En} {T:List Eve} (h:Gn K0 E0 T0 i K E T) (hk:E.kind=2) (h1:E.stop.1≠1) (h2:E.stop.1≠2):Gn K0 E0 T0 (i+1) K E.step T
 |sys {i:Nat} {K:Kn} {E:En} {T:List Eve} (b:Nat) (h:Gn K0 E0 T0 i K E T) (hk:E.kind=2) (h1:E.stop.1=1) (h2:E.stop.2.1≠2):Gn K0 E0 T0 (i+1) (Co.doK K E.step b E.stop.2.1) (Co.doE K E.step b E.stop.2.1) (T++evL (Kl.evt K E.step b E.stop.2.1))
def RunX(k:Nat)(K0:Kn)(E0:En)(T0:List Eve)(m:Nat)(K:Kn)(E:En)(T:List Eve):Prop:=
 (Gn K0 E0 T0 m K E T∧m≤k∧(m=k∨E.kind≠2))∨
 (∃E1 T1,Gn K0 E0 T0 m K E1 T1∧m<k∧E1.kind=2∧E1.stop.1=2∧E=E1.step∧T=T1++[⟨4,E0.num,ByteArray.empty,IntKind.u32.wrap E1.stop.2.2⟩])∨
 (∃m1 K1 E1 T1 b,Gn K0 E0 T0 m1 K1 E1 T1∧m=m1+1∧m1<k∧E1.kind=2∧E1.stop.1=1∧E1.stop.2.1=2∧K=Co.doK K1 E1.step b 2∧E=Co.doE K1 E1.step b 2∧T=T1++evL (Kl.evt K1 E1.step b 2))
namespace Xo
theorem set_N(K:Kn)(id n:Int)(s:ByteArray):(K.setBlock id n s).N=K.N:=by
 unfold Kn.setBlock
 split<;>rfl
theorem send_len(S:Ni.NicS)(f:ByteArray):(Ni.sendS S f).sent.length≤S.sent.length+1:=by
 unfold Ni.sendS
 split
 ·simp
 ·exact Nat.le_succ _
theorem pop_len(S:Ni.NicS)(p:Int):(Ni.popS S p).sent.length≤S.sent.length+1:=by
 unfold Ni.popS
 repeat' split
 all_goals exact Nat.le_succ _
theorem sent_call(K:Kn)(E:En)(b:Nat)(num:Int):(Co.call K E b num).K.N.sent.length≤K.N.sent.length+1:=by
 unfold Co.call
 repeat' split
 all_goals try exact Nat.le_succ _
 ·unfold Co.page;repeat' split
  all_goals exact Nat.le_succ _
 ·unfold Co.drop;repeat' split
  all_goals exact Nat.le_succ _
 ·unfold Co.read
  split
  ·exact Nat.le_succ _
  ·simp only;split<;>exact Nat.le_succ _
 ·unfold Co.write
  split
  ·exact Nat.le_succ _
  ·split
   ·exact Nat.le_succ _
   ·show(Kn.setBlock _ _ _ _).N.sent.length≤_
    rw[set_N];exact Nat.le_succ _
 ·unfold Co.send;repeat' split
  all_goals first|exact Nat.le_succ _|exact send_len _ _
 ·unfold Co.recv;repeat' split
  all_goals first|exact Nat.le_succ _|exact pop_len _ _
 ·unfold Co.put;repeat' split
  all_goals exact Nat.le_succ _
theorem sent_do(K:Kn)(E:En)(b:Nat)(num:Int):(Co.doK K E b num).N.sent.length≤K.N.sent.length+1:=by
 unfold Co.doK
 split
 ·exact Nat.le_succ _
 ·exact sent_call K E b num
theorem call_num(K:Kn)(E:En)(b:Nat)(num:Int):(Co.call K E b num).E.num=E.num:=by
 unfold Co.call
 repeat' split
 all_goals try rfl
 ·unfold Co.page;repeat' split
  all_goals first|rfl|(unfold En.page;repeat' split)<;>rfl
 ·unfold Co.drop;repeat' split
  all_goals first|rfl|(unfold En.drop;repeat' split)<;>rfl
 ·unfold Co.read
  split
  ·rfl
  ·simp only;split<;>rfl
 ·unfold Co.write
  split
  ·rfl
  ·split<;>rfl
 ·unfold Co.send;repeat' split
  all_goals rfl
 ·unfold Co.recv;repeat' split
  all_goals rfl
 ·unfold Co.put;repeat' split
  all_goals first|rfl|(unfold En.put;repeat' split)<;>rfl
theorem doE_num(K:Kn)(E:En)(b:Nat)(num:Int):(Co.doE K E b num).num=E.num:=by
 unfold Co.doE
 split
 ·exact exit_num E _
 ·exact call_num K E b num
theorem exe_num(A:List Pg)(r:List Int)(pc:Int){x:Ins}(h:x.ok):0≤(Cp.exe A r pc x).num∧(Cp.exe A r pc x).num≤4294967295:=by
 have h0:=h.i0;have h1:=h.i1;have gz:∀B q c,0≤(Cp.goes B q c).num∧(Cp.goes B q c).num≤4294967295:=fun B q c=>⟨Int.le_refl 0,by show(0:Int)≤_;omega⟩
 have fz:∀B q c y,0≤(Cp.faults B q c y).num∧(Cp.faults B q c y).num≤4294967295:=fun B q c y=>⟨Int.le_refl 0,by show(0:Int)≤_;omega⟩
 have key:∀P:Cp.Out→Prop,(∀B q c,P (Cp.goes B q c))→(∀B q c y,P (Cp.faults B q c y))→(∀q c B,P ⟨1,x.imm,0,q,c,B⟩)→P (Cp.exe A r pc x):=by
  intro P g f t;have ite:∀(c:Prop) [Decidable c] (a b:Cp.Out),P a→P b→P (if c then a else b):=fun c _ a b ha hb=>by split<;>assumption
  unfold Cp.exe Cp.loads Cp.stores
  repeat' (first|exact g _ _ _|exact f _ _ _ _|exact t _ _ _|apply ite)
 exact key (fun o=>0≤o.num∧o.num≤4294967295) gz fz fun _ _ _=>⟨h0,h1⟩
theorem stop_num(E:En):0≤E.stop.2.1∧E.stop.2.1≤4294967295:=by
 unfold En.stop
 split
 ·exact⟨Int.le_refl 0,by show(0:Int)≤_;omega⟩
 ·show 0≤(Cp.stp E.A E.r E.pc).num∧(Cp.stp E.A E.r E.pc).num≤_
  unfold Cp.stp
  split
  ·split
   ·rename_i h
    refine exe_num _ _ _ (Ins.decI_ok ?_);unfold Ins.decB at h;simp only[Bool.and_eq_true,beq_iff_eq] at h;exact h.1.1
   ·exact⟨Int.le_refl 0,by show(0:Int)≤_;omega⟩
  ·exact⟨Int.le_refl 0,by show(0:Int)≤_;omega⟩
theorem step_kind{E:En}(hk:E.kind=2)(h:E.stop.1≠2):E.step.kind=2:=by
 unfold En.stop at h;rw[if_neg (by omega)] at h;unfold En.step;rw[if_neg (by omega)]
 show(if(Cp.stp E.A E.r E.pc).kind=2 then _ else _:En).kind=2
 rw[if_neg h];exact hk
end Xo
def xrRel(w:World)(base xb:Nat)(S:Nat→Slt)(tv:Value)(T:List Eve)(a:KAt)(K:Kn)(e:EAt)(E:En)(k:Nat)(vs:Value)(wr:World):Prop:=
 ∃(i:Nat) (tv':Value) (T':List Eve) (a':KAt) (K':Kn) (e':EAt) (E':En),i≤k∧vs=.int .i64 i∧Xe wr base xb S tv' T' a' K' e' E'∧XStep w wr xb tv a e E.A tv' a' e' E'.A∧Gn K E T i K' E' T'∧T'.length≤T.length+i∧K'.N.sent.length≤K.N.sent.length+i∧E'.num=E.num
def RunG(w:World)(base xb:Nat)(S:Nat→Slt)(tv:Value)(T:List Eve)(a:KAt)(K:Kn)(e:EAt)(E:En)(k:Nat)(r:Ending)(w':World):Prop:=
 ∃(m:Nat) (tv':Value) (T':List Eve) (a':KAt) (K':Kn) (e':EAt) (E':En),r=.returned (.tuple #[.int .i64 m,.int .i64 0])∧Xe w' base xb S tv' T' a' K' e' E'∧XStep w w' xb tv a e E.A tv' a' e' E'.A∧RunX k K E T m K' E' T'
namespace Ex
theorem runG{w:World}{base xb:Nat}{S:Nat→Slt}{tv:Value}{Tr:List Eve}{a:KAt}{K:Kn}{e:EAt}{E:En}(h:Xe w base xb S tv Tr a K e E)(n:Nat)(n1:1≤n)(n8:n≤8)(hs:(S n).is=true)(hv:(S n).env=some e.eb)(hn:E.num=n)(k:Nat)(k1:k≤65536)(hT:Tr.length≤100000)(hsl:K.N.sent.length≤100000):
  Calls Tryz.prog 35 #[.pointer (some ⟨xb,0,none⟩),.int .i64 n,.int .i64 k] w (RunG w base xb S tv Tr a K e E k):=by
 have HFin:=Lh fun V m tv' T' a' K' e' E' (h1:Xe V base xb S tv' T' a' K' e' E') (h2:XStep w V xb tv a e E.A tv' a' e' E'.A) (h3:RunX k K E Tr m K' E' T')=>(show RunG w base xb S tv Tr a K e E k (.returned (.tuple #[.int .i64 m,.int .i64 0])) V from⟨m,tv',T',a',K',e',E',rfl,h1,h2,h3⟩)
 have HR0:Hid (xrRel w base xb S tv Tr a K e E k (.int .i64 0) w):=Lh ⟨0,tv,Tr,a,K,e,E,by omega,rfl,h,XStep.refl _ _ _ _ _ _,.nil,by omega,by omega,rfl⟩;generalize RunG w base xb S tv Tr a K e E k=PQ at*;have HO:=Lh (h.x.of n n1 n8 hs);rw[hv] at HO;have HT:=Lh (And.intro hT hsl);have HNn:=Lh hn;have HKf:=Lh fun kd c y V=>kindOf kd c y V
 have hk:¬(65536:Int)<k:=by omega
 have HK1:=Lh k1;clear h hs hv hn hT hsl k1;go_enter func35,ntmps35;go_wp2_with fail;refine HO.out.mono ?_;rintro r w1 ⟨rfl,rfl⟩;go_wp2;go_loopw [6] (fun vs wr=>xrRel w base xb S tv Tr a K e E k vs wr) (fun vs _=>k - (intOf vs).toNat)
 case atStart=>exact HR0.out
 case round=>
  clear HR0 HO;obtain⟨i,tv',T',a',K',e',E',hi,rfl,hx,hst,hgn,hlt,hls,hnum⟩:=hrel;have heb:=hst.eb;have HX:=Lh hx;have HSt:=Lh hst;have HGn:=Lh hgn;have HLt:=Lh (And.intro hlt (And.intro hls hnum));have HEb:=Lh heb;clear hst hgn hlt hls hnum heb
  by_cases hik:i<k
  ·have hik':(i:Int)<k:=by omega
   have iw:IntKind.i64.wrap ((i:Int)+1)=(i:Int)+1:=by have:=HK1.out;rw[IntKind.wrap_i64];omega
   have hsta:=Ev.state hx.j.en;rw[HEb.out] at hsta;have HSta:=Lh hsta;have hkf:=HKf.out E'.kind E'.code E'.why;clear hx hsta
   by_cases hk2:E'.kind=2
   ·have HK2:=Lh hk2;rw[hk2] at HSta hkf;clear hk2;go_wp2_with fail;refine HSta.out.mono ?_;rintro r w2 ⟨rfl,hb2⟩;have HX2:=Lh (HX.out.below hb2);have HSt2:=Lh (HSt.out.trans (XStep.of_below hb2));have hstp:=Ev.step HX2.out.j.en;rw[HEb.out,show E'.redE=0 from if_neg fun q=>q HK2.out] at hstp;have HStp:=Lh hstp;clear hb2 hstp HSta HX HSt;go_wp2_with fail;refine HStp.out.mono ?_;rintro r w3 ⟨rfl,hs3⟩;have hj3:JStep w2 w3 a' e' E'.A a' K' e' E'.step:=(JStep.refl HX2.out.j).right hs3;obtain⟨hx3,hst3⟩:=HX2.out.joint hj3 (num_step E');have hb4:Below w3.heap.size w3 (w3.alloc (.cells #[.int .u8 E'.stop.1,.int .u32 E'.stop.2.1,.int .i64 E'.stop.2.2] 175)):=Ba _;have hn4:=heap_alloc_new w3 (.cells #[.int .u8 E'.stop.1,.int .u32 E'.stop.2.1,.int .i64 E'.stop.2.2] 175);have HX4:=Lh (hx3.below hb4);have HSt4:=Lh ((HSt2.out.trans hst3).trans (XStep.of_below hb4));have HN4:=Lh hn4;have HSb:=Lh (show a'.tag w3.heap.size=0∧¬e'.foot E'.step.A w3.heap.size∧w3.heap.size≠xb∧tv'.ownBlock≠some w3.heap.size from⟨Decidable.byContradiction fun z=>absurd (hx3.j.kn.lt _ z) (Nat.lt_irrefl _),fun z=>absurd (hx3.j.en.lt _ z) (Nat.lt_irrefl _),fun z=>by have:=lQ hx3.x.blk;omega,fun z=>absurd (hx3.tlt z).1 (Nat.lt_irrefl _)⟩);clear hs3 hj3 hx3 hst3 hb4 hn4 HX2 HSt2 HStp hkf;go_upto_region 10 with(fail);obtain⟨w4,hw4⟩:∃y,w3.alloc (.cells #[.int .u8 E'.stop.1,.int .u32 E'.stop.2.1,.int .i64 E'.stop.2.2] 175)=y:=⟨_,rfl⟩;obtain⟨sb,hsb⟩:∃y,w3.heap.size=y:=⟨_,rfl⟩;rw[hw4] at HX4 HSt4 HN4⊢;rw[hsb] at HN4 HSb⊢;clear hw4 hsb;have HSc:Hid (∀V:World,V.heap[sb]? =some (.cells #[.int .u8 E'.stop.1,.int .u32 E'.stop.2.1,.int .i64 E'.stop.2.2] 175 (0,0))→V.cell? ⟨sb,0,none⟩=some (.int .u8 E'.stop.1)∧V.cell? ⟨sb,1,none⟩=some (.int .u32 E'.stop.2.1)∧V.cell? ⟨sb,2,none⟩=some (.int .i64 E'.stop.2.2)):=Lh fun V hV=>by
     refine⟨?_, ?_, ?_⟩<;>(unfold World.cell?;rw[hV];rfl)
    obtain⟨g0,g1,g2⟩:=HSc.out w4 HN4.out
    by_cases hf:E'.stop.1=2
    ·have e0:(E'.stop.1 == 2)=true:=by rw[hf];rfl
     have HF:=Lh hf;have hb5:Below w4.heap.size w4 (w4.alloc (.cells #[.int .u8 4,.int .i64 n,.string ByteArray.empty,.int .u32 (IntKind.u32.wrap E'.stop.2.2)] 89)):=Ba _;have hx5:=HX4.out.below hb5;have htl:=Ex.tell (x:=⟨4,n,ByteArray.empty,IntKind.u32.wrap E'.stop.2.2⟩) hx5.x hx5.t (heap_alloc_new w4 _) (by have h1:=HLt.out.1;have h2:=HT.out.1;have h3:=HK1.out;omega) hx5.b0 fun z=>(hx5.ta _ z).2.2 rfl
     have HTl:=Lh htl;have HX5:=Lh hx5;have HSt5:=Lh (HSt4.out.trans (XStep.of_below hb5));clear hb5 hx5 htl hf HX4 HSt4 HN4;unfold Eve.cells at HTl;go_wp2_with fail;refine HTl.out.mono ?_;rintro r w6 htp;obtain rfl:r=.returned (.tuple #[]):=htp.1;obtain⟨tv6,hx6,hst6⟩:=HX5.out.told htp;have hend:=HFin.out w6 i tv6 _ a' K' e' E'.step hx6 (HSt5.out.trans hst6) (.inr (.inl ⟨E',T',HGn.out,hik,HK2.out,HF.out,rfl,by rw[HNn.out]⟩));have HEnd:=Lh hend;clear htp hx6 hst6 hend HTl HX5 HSt5 HFin HSc HSb g0 g1 g2;go_wp2
     first|exact HEnd.out|(go_ret2;exact HEnd.out)
    ·have e0:(E'.stop.1 == 2)=false:=beq_eq_false_iff_ne.2 hf
     by_cases hy:E'.stop.1=1
     ·have e1:(E'.stop.1 == 1)=true:=by rw[hy];rfl
      have HY:=Lh hy;have hnb:=Xo.stop_num E';have hk3:=Xo.step_kind HK2.out hf;have hkb:w4.cell? ⟨xb,0,none⟩=some (.pointer (some ⟨a'.kb,0,none⟩)):=HX4.out.x.ker;obtain⟨kb,hkb'⟩:∃y,a'.kb=y:=⟨_,rfl⟩;rw[hkb'] at hkb;have hdo:=fun V (hV:Below w4.heap.size w4 V)=>Kl.does (HX4.out.below hV).j HX4.out.num hk3 (by have h1:=HLt.out.2.1;have h2:=HT.out.2;have h3:=HK1.out;omega) E'.stop.2.1 hnb.1 hnb.2
      rw[hkb',HEb.out] at hdo;have HDo:=Lh hdo;have HKb:=Lh hkb';clear hnb hk3 hkb' hdo hf hy;go_wp2_with fail;refine B (fun V=>V.cell? ⟨xb,0,none⟩=some (.pointer (some ⟨kb,0,none⟩))∧V.cell? ⟨sb,1,none⟩=some (.int .u32 E'.stop.2.1)∧True) ⟨hkb,g1,trivial⟩ fun wd hwd hS=> ?_
      have HBd:=Lh (show Below w4.heap.size w4 wd by rw[hwd];exact Br.drew);clear hwd hkb g0 g1 g2;refine T 0 hS ?_;refine T 1 hS ?_;refine T 2 hS ?_;refine T 3 hS ?_;refine T 4 hS ?_;refine T 5 hS ?_;refine T 6 hS ?_;refine U2 7 12 (fun K'' hK=> ?b1) (fun K'' hK=> ?b2)
      case' b1=>
       go_simp;go_at_call 69;refine(HDo.out wd HBd.out).mono ?_;rintro r v8 ⟨bk,a2,e2,rfl,hj8⟩;obtain⟨hx8,hst8⟩:=(HX4.out.below HBd.out).joint hj8 (Xo.doE_num ..);have hsl:=lQ HN4.out;have hsd:=(HBd.out.block _ hsl).trans HN4.out;have hso8:=hst8.out (lQ hsd) HSb.out.1 HSb.out.2.1 HSb.out.2.2.1 HSb.out.2.2.2;have hsb8:=hso8.1.trans hsd;have HSq:=Lh hso8.2;have hS8:v8.cell? ⟨xb,0,none⟩=some (.pointer (some ⟨kb,0,none⟩))∧v8.cell? ⟨sb,1,none⟩=some (.int .u32 E'.stop.2.1)∧True:=⟨by rw[←HKb.out,←hst8.kb];exact hx8.x.ker,(HSc.out _ hsb8).2.1,trivial⟩;have HX8:=Lh hx8;have HSt8:=Lh ((HSt4.out.trans (XStep.of_below HBd.out)).trans hst8);have HSb8:=Lh hsb8;clear hj8 hx8 hst8 hsl hsd hsb8 hso8 hS;refine V hK hS8 ?_;clear hK K'';refine T 8 hS8 ?_;refine T 9 hS8 ?_;refine T 10 hS8 ?_;refine T 11 hS8 ?_;refine U 12 fun K'' hK=> ?_
       go_simp;have hb9:Below v8.heap.size v8 (v8.alloc (.cells #[.int .u8 0,.int .i64 0,.string ByteArray.empty,.int .u32 0] 89)):=Ba _;have hz9:=heap_alloc_new v8 (.cells #[.int .u8 0,.int .i64 0,.string ByteArray.empty,.int .u32 0] 89);have hS9:=And.intro (keep hS8.1 hb9) (And.intro (keep hS8.2.1 hb9) trivial);have HX9:=Lh (HX8.out.below hb9);have HSt9:=Lh (HSt8.out.trans (XStep.of_below hb9));have HSb9:=Lh ((hb9.block _ (lQ HSb8.out)).trans HSb8.out);have HLb:=Lh (HX8.out.fresh (Nat.le_refl v8.heap.size));have HLn:=Lh (show v8.heap.size≠sb from fun z=>by have:=lQ HSb8.out;omega);have HLw:=Lh (show w.heap.size≤v8.heap.size from HSt8.out.mod.size);obtain⟨lb,hlb⟩:∃y,v8.heap.size=y:=⟨_,rfl⟩;obtain⟨v9,hv9⟩:∃y,v8.alloc (.cells #[.int .u8 0,.int .i64 0,.string ByteArray.empty,.int .u32 0] 89)=y:=⟨_,rfl⟩;rw[hv9] at hz9 hS9 HX9 HSt9 HSb9;rw[hlb] at hz9 HLb HLn HLw
       change K'' _ (v8.alloc (.cells #[.int .u8 0,.int .i64 0,.string ByteArray.empty,.int .u32 0] 89))
       rw[hv9];clear hb9 hS8 HX8 HSt8 HSb8 hv9;refine V hK hS9 ?_ (by simp only[Act.put,Za,Zb,Zc,Zd,Ze,Zf,hlb];rfl);clear hK K'' hlb
      case' b2=>
       go_simp;have hb8:Below wd.heap.size wd (wd.alloc (.cells #[.int .u8 0,.int .i64 0,.string ByteArray.empty,.int .u32 0] 89)):=Ba _;have hz8:=heap_alloc_new wd (.cells #[.int .u8 0,.int .i64 0,.string ByteArray.empty,.int .u32 0] 89);have hS8:=And.intro (keep hS.1 hb8) (And.intro (keep hS.2.1 hb8) trivial);have HB8:=Lh (bQ HBd.out hb8);have HLb:=Lh ((HX4.out.below HBd.out).fresh (Nat.le_refl wd.heap.size));have HLn:=Lh (show wd.heap.size≠sb from fun z=>by have h1:=lQ HN4.out;have h2:=HBd.out.size;omega);have HLw:=Lh (show w.heap.size≤wd.heap.size from Nat.le_trans HSt4.out.mod.size HBd.out.size);obtain⟨lb,hlb⟩:∃y,wd.heap.size=y:=⟨_,rfl⟩;obtain⟨v8,hv8⟩:∃y,wd.alloc (.cells #[.int .u8 0,.int .i64 0,.string ByteArray.empty,.int .u32 0] 89)=y:=⟨_,rfl⟩;rw[hv8] at hz8 hS8 HB8;rw[hlb] at hz8 HLb HLn HLw
       change K'' _ (wd.alloc (.cells #[.int .u8 0,.int .i64 0,.string ByteArray.empty,.int .u32 0] 89))
       rw[hv8];clear hb8 hv8 hS;refine V hK hS8 ?_ (by simp only[Act.put,Za,Zb,Zc,Zd,Ze,Zf,hlb];rfl);clear hK K'' hlb;refine U 7 fun K'' hK=> ?_
       go_simp;go_at_call 69;refine(HDo.out v8 HB8.out).mono ?_;rintro r v9 ⟨bk,a2,e2,rfl,hj9⟩;obtain⟨hx9,hst9⟩:=(HX4.out.below HB8.out).joint hj9 (Xo.doE_num ..);have hsl:=lQ HN4.out;have hsd:=(HB8.out.block _ hsl).trans HN4.out;have hso9:=hst9.out (lQ hsd) HSb.out.1 HSb.out.2.1 HSb.out.2.2.1 HSb.out.2.2.2;have hsb9:=hso9.1.trans hsd;have HSq:=Lh hso9.2;have hlo:=hst9.out (lQ hz8) HLb.out.1 HLb.out.2.1 HLb.out.2.2.1 HLb.out.2.2.2;have hz9:=hlo.1.trans hz8;have hS9:v9.cell? ⟨xb,0,none⟩=some (.pointer (some ⟨kb,0,none⟩))∧v9.cell? ⟨sb,1,none⟩=some (.int .u32 E'.stop.2.1)∧True:=⟨by rw[←HKb.out,←hst9.kb];exact hx9.x.ker,(HSc.out _ hsb9).2.1,trivial⟩;have HX9:=Lh hx9;have HSt9:=Lh ((HSt4.out.trans (XStep.of_below HB8.out)).trans hst9);have HSb9:=Lh hsb9;have HLb:=Lh (show a2.tag lb=0∧¬e2.foot (Co.doE K' E'.step bk E'.stop.2.1).A lb∧lb≠xb∧tv'.ownBlock≠some lb from⟨hlo.2.1,hlo.2.2.1,HLb.out.2.2.1,hlo.2.2.2⟩);clear hj9 hx9 hst9 hsl hsd hsb9 hso9 hlo hz8 hS8 HB8;refine V hK hS9 ?_;clear hK K'';refine T 8 hS9 ?_;refine T 9 hS9 ?_;refine T 10 hS9 ?_;refine T 11 hS9 ?_
      all_goals
       refine U 13 fun K'' hK=> ?_
       obtain⟨r0,r1,r2,r3,rf⟩:=Kl.ev_cells hz9;have rf0:=rf 0;have rf1:=rf 1;have rf2:=rf 2;have rf3:=rf 3;clear rf;have hx:=Kl.ev_set hz9 (.int .u8 (Kl.evt K' E'.step bk E'.stop.2.1).kind) (.int .i64 (Kl.evt K' E'.step bk E'.stop.2.1).env) (.string (Kl.evt K' E'.step bk E'.stop.2.1).text) (.int .u32 (Kl.evt K' E'.step bk E'.stop.2.1).num);have hm:=Kl.ev_mod v9 lb (.int .u8 (Kl.evt K' E'.step bk E'.stop.2.1).kind) (.int .i64 (Kl.evt K' E'.step bk E'.stop.2.1).env) (.string (Kl.evt K' E'.step bk E'.stop.2.1).text) (.int .u32 (Kl.evt K' E'.step bk E'.stop.2.1).num);have HEv:=Lh hx;have HMo:=Lh hm;clear hx hm;unfold Kl.evC;go_simp;generalize (((v9.setCell ⟨lb,0,none⟩ (.int .u8 (Kl.evt K' E'.step bk E'.stop.2.1).kind)).setCell ⟨lb,1,none⟩ (.int .i64 (Kl.evt K' E'.step bk E'.stop.2.1).env)).setCell ⟨lb,2,none⟩ (.string (Kl.evt K' E'.step bk E'.stop.2.1).text)).setCell ⟨lb,3,none⟩ (.int .u32 (Kl.evt K' E'.step bk E'.stop.2.1).num)=v10 at HEv HMo⊢;have hS10:=And.intro (cellM HMo.out hS9.1 (show¬xb=lb from fun z=>HLb.out.2.2.1 z.symm)) (And.intro (cellM HMo.out hS9.2.1 (show¬sb=lb from fun z=>HLn.out z.symm)) trivial);have HX10:=Lh (HX9.out.keep HMo.out fun k hk=>by subst hk;exact HLb.out);have HSt10:=Lh (HSt9.out.turn HMo.out fun k hk=>by subst hk;exact HLw.out);have HSb10:=Lh ((HMo.out.block _ (lQ HSb9.out) (show¬sb=lb from fun z=>HLn.out z.symm)).trans HSb9.out);clear r0 r1 r2 r3 rf0 rf1 rf2 rf3 HX9 HSt9 HSb9 HMo hS9 hz9;refine V hK hS10 ?_;clear hK K'';refine T 14 hS10 ?_;refine T 15 hS10 ?_;refine wpAnyH_done (by kernel_rfl) ?_ _;clear hS10 HDo HX4 HSt4 HN4 HBd;obtain⟨x,hx⟩:∃y,Kl.evt K' E'.step bk E'.stop.2.1=y:=⟨_,rfl⟩;have HXx:=Lh hx;rw[hx] at HEv⊢;clear hx;obtain⟨g0,g1,g2⟩:=HSc.out v10 HSb10.out;obtain⟨r0,r1,r2,r3,_⟩:=Kl.ev_cells HEv.out;cases hse:x.seen with
       |true=>
        have hb11:Below v10.heap.size v10 (v10.alloc (.cells #[.int .u8 x.kind,.int .i64 x.env,.string x.text,.int .u32 x.num] 89)):=Ba _;have hx11:=HX10.out.below hb11;have htl:=Ex.tell (x:=⟨x.kind,x.env,x.text,x.num⟩) hx11.x hx11.t (heap_alloc_new v10 _) (by have h1:=HLt.out.1;have h2:=HT.out.1;have h3:=HK1.out;omega) hx11.b0 fun z=>(hx11.ta _ z).2.2 rfl
        have HTl:=Lh htl;have HX11:=Lh hx11;have HSt11:=Lh (HSt10.out.trans (XStep.of_below hb11));have HSb11:=Lh ((hb11.block _ (lQ HSb10.out)).trans HSb10.out);clear hb11 hx11 htl HX10 HSt10 HSb10;unfold Eve.cells at HTl;go_wp2_with fail;refine HTl.out.mono ?_;rintro r v12 htp;obtain rfl:r=.returned (.tuple #[]):=htp.1;obtain⟨tv12,hx12,hst12⟩:=HX11.out.told htp;have hev:evL x=[⟨x.kind,x.env,x.text,x.num⟩]:=by unfold evL;rw[if_pos hse]
        rw[←hev] at hx12;have hsb12:=(hst12.out (lQ HSb11.out) HSq.out.1 HSq.out.2.1 HSb.out.2.2.1 HSq.out.2.2).1.trans HSb11.out;obtain⟨g0,g1,g2⟩:=HSc.out v12 hsb12;have HX12:=Lh hx12;have HSt12:=Lh (HSt11.out.trans hst12);clear htp hx12 hst12 hev hsb12 HTl HX11 HSt11 HSb11 r0 r1 r2 r3
        by_cases hn2:E'.stop.2.1=2
        ·have e2':(E'.stop.2.1 == 2)=true:=by rw[hn2];rfl
         have HEnd:=Lh (HFin.out v12 (i+1) tv12 (T'++evL x) a2 _ e2 _ HX12.out HSt12.out (.inr (.inr ⟨i,K',E',T',bk,HGn.out,rfl,hik,HK2.out,HY.out,hn2,by rw[hn2],by rw[hn2],by rw[←HXx.out,hn2]⟩)));clear HFin HX12 HSt12 HSc HSb;go_wp2
         first|exact HEnd.out|(go_ret2;exact HEnd.out)
        ·have e2':(E'.stop.2.1 == 2)=false:=beq_eq_false_iff_ne.2 hn2;have HR1:Hid (xrRel w base xb S tv Tr a K e E k (.int .i64 ((i:Int)+1)) v12):=Lh ⟨i+1,tv12,T'++evL x,a2,_,e2,_,hik,by go_num,HX12.out,HSt12.out,by rw[←HXx.out];exact .sys bk HGn.out HK2.out HY.out hn2,by have h1:=HLt.out.1;have h2:=evL_len x;rw[List.length_append];omega,by have h1:=HLt.out.2.1;have h2:=Xo.sent_do K' E'.step bk E'.stop.2.1;omega,(Xo.doE_num ..).trans ((num_step E').trans HLt.out.2.2)⟩;clear HFin HX12 HSt12 HSc HSb;go_wp2;exact⟨HR1.out,by simp[intOf];omega⟩
       |false=>
        have hev:T'++evL x=T':=by unfold evL;rw[if_neg (by rw[hse];decide),List.append_nil]
        have hx10:=HX10.out;rw[←hev] at hx10;have HX12:=Lh hx10;clear hx10 hev HX10 r0 r1 r2 r3
        by_cases hn2:E'.stop.2.1=2
        ·have e2':(E'.stop.2.1 == 2)=true:=by rw[hn2];rfl
         have HEnd:=Lh (HFin.out v10 (i+1) tv' (T'++evL x) a2 _ e2 _ HX12.out HSt10.out (.inr (.inr ⟨i,K',E',T',bk,HGn.out,rfl,hik,HK2.out,HY.out,hn2,by rw[hn2],by rw[hn2],by rw[←HXx.out,hn2]⟩)));clear HFin HX12 HSt10 HSc HSb;go_wp2
         first|exact HEnd.out|(go_ret2;exact HEnd.out)
        ·have e2':(E'.stop.2.1 == 2)=false:=beq_eq_false_iff_ne.2 hn2;have HR1:Hid (xrRel w base xb S tv Tr a K e E k (.int .i64 ((i:Int)+1)) v10):=Lh ⟨i+1,tv',T'++evL x,a2,_,e2,_,hik,by go_num,HX12.out,HSt10.out,by rw[←HXx.out];exact .sys bk HGn.out HK2.out HY.out hn2,by have h1:=HLt.out.1;have h2:=evL_len x;rw[List.length_append];omega,by have h1:=HLt.out.2.1;have h2:=Xo.sent_do K' E'.step bk E'.stop.2.1;omega,(Xo.doE_num ..).trans ((num_step E').trans HLt.out.2.2)⟩;clear HFin HX12 HSt10 HSc HSb;go_wp2;exact⟨HR1.out,by simp[intOf];omega⟩
     ·have e1:(E'.stop.1 == 1)=false:=beq_eq_false_iff_ne.2 hy;have HR1:Hid (xrRel w base xb S tv Tr a K e E k (.int .i64 ((i:Int)+1)) w4):=Lh ⟨i+1,tv',T',a',K',e',E'.step,hik,by go_num,HX4.out,HSt4.out,.step HGn.out HK2.out hy hf,by have:=HLt.out.1;omega,by have:=HLt.out.2.1;omega,(num_step E').trans HLt.out.2.2⟩;clear hf hy HX4 HSt4 HN4 HFin HSc HSb;go_wp2;exact⟨HR1.out,by simp[intOf];omega⟩
   ·have HK2:=Lh hk2;have e2:(E'.kind == 2)=false:=beq_eq_false_iff_ne.2 hk2;clear hk2;go_wp2_with fail;refine HSta.out.mono ?_;rintro r w2 ⟨rfl,hb2⟩;have hkf:=HKf.out E'.kind E'.code E'.why w2;have HEnd:=Lh (HFin.out w2 i tv' T' a' K' e' E' (HX.out.below hb2) (HSt.out.trans (XStep.of_below hb2)) (.inl ⟨HGn.out,hi,.inr HK2.out⟩));clear hb2 HSta HX HSt HFin;go_wp2
    first|exact HEnd.out|(go_ret2;exact HEnd.out)
  ·obtain rfl:i=k:=by omega
   have hik':¬(i:Int)<i:=by omega
   have HEnd:=Lh (HFin.out wr i tv' T' a' K' e' E' hx HSt.out (.inl ⟨HGn.out,hi,.inl rfl⟩));clear hx HX HSt HFin;go_wp2
   first|exact HEnd.out|(go_ret2;exact HEnd.out)
end Ex
namespace Ex
def AdmitG(w:World)(xb:Nat)(S:Nat→Slt)(tv:Value)(a:KAt)(K:Kn)(n:Nat)(m:Mn)(pg:Int)(r:Ending)(w':World):Prop:=
 (Ca.grantE K.hp K.hx K.g n m pg≠0∧r=.returned (.tuple #[.int .i64 0,.int .i64 (Ca.grantE K.hp K.hx K.g n m pg)])∧Below w.heap.size w w')∨
 (Ca.grantE K.hp K.hx K.g n m pg=0∧r=.returned (.tuple #[.int .i64 n,.int .i64 0])∧∃a' v,KStep w v a K a' { K with g:=Gp.upd K.g n (some ⟨m,pg,0⟩) }∧Mod (fun k=>k=xb) v w'∧Ex w' xb a'.kb (upd S n ⟨true,pg,none⟩) tv∧Knl w' a' { K with g:=Gp.upd K.g n (some ⟨m,pg,0⟩) }∧a'.tag xb=0)
theorem admitG{w:World}{xb:Nat}{S:Nat→Slt}{tv:Value}{a:KAt}{K:Kn}(h:Ex w xb a.kb S tv)(hk:Knl w a K)(hp1:K.hp≤4096)(hl:K.hx.length≤16){m:Mn}{ev pv:Value}(hm:MnAt w ev pv m)(hok:m.ok){pg:Int}(pg0:0≤pg)(pg1:pg≤4096){n:Nat}(n1:1≤n)(n8:n≤8)(h1:∀i,1≤i→i<n→(S i).is=true)(h2:(S n).is=false)(hx:a.tag xb=0):
  Calls Tryz.prog 45 #[.pointer (some ⟨xb,0,none⟩),.agg (m.cells ev pv),.int .i64 pg] w (AdmitG w xb S tv a K n m pg):=by
 obtain⟨eo,ec,rfl⟩:=hm.e.form;obtain⟨po,pc,rfl⟩:=hm.p.form;have HFin1:=Lh fun V (g1:Ca.grantE K.hp K.hx K.g n m pg≠0) (g2:Below w.heap.size w V)=>(show AdmitG w xb S tv a K n m pg (.returned (.tuple #[.int .i64 0,.int .i64 (Ca.grantE K.hp K.hx K.g n m pg)])) V from .inl ⟨g1,rfl,g2⟩)
 have HFin2:=Lh fun V (g1:Ca.grantE K.hp K.hx K.g n m pg=0) (g2:∃a' v,KStep w v a K a' { K with g:=Gp.upd K.g n (some ⟨m,pg,0⟩) }∧Mod (fun k=>k=xb) v V∧Ex V xb a'.kb (upd S n ⟨true,pg,none⟩) tv∧Knl V a' { K with g:=Gp.upd K.g n (some ⟨m,pg,0⟩) }∧a'.tag xb=0)=>(show AdmitG w xb S tv a K n m pg (.returned (.tuple #[.int .i64 n,.int .i64 0])) V from .inr ⟨g1,rfl,g2⟩)
 generalize AdmitG w xb S tv a K n m pg=PQ at*;have hA:=(Below.refl w.heap.size w).alloc (Nat.le_refl _) (.cells (m.cells (.slice eo m.ext.length ec) (.slice po m.ports.length pc)) 109);have hM:=heap_alloc_new w (.cells (m.cells (.slice eo m.ext.length ec) (.slice po m.ports.length pc)) 109);have HXl:=Lh (lQ h.blk);obtain⟨w1,hw1⟩:∃y,w.alloc (.cells (m.cells (.slice eo m.ext.length ec) (.slice po m.ports.length pc)) 109)=y:=⟨_,rfl⟩;obtain⟨mb,hmb⟩:∃y,w.heap.size=y:=⟨_,rfl⟩;rw[hw1] at hA hM;rw[hmb] at hM;have HX:=Lh fun V (hV:Below w1.heap.size w1 V)=>h.below (bQ hA hV)
 have HK:=Lh fun V (hV:Below w1.heap.size w1 V)=>hk.below (bQ hA hV)
 have HGr:=Lh fun V (hV:Below w1.heap.size w1 V)=>Kl.grant (hk.below (bQ hA hV)) hp1 hl (n:=(n:Int)) (pg:=pg) pg0 (hm.below (bQ hA hV)) hok
 have HKc:=Lh fun V (hV:Below w1.heap.size w1 V)=>Kl.caps (hk.below (bQ hA hV))
 have HA:=Lh hA;have HM:=Lh hM;have H1:=Lh h1;have H2:=Lh h2;have HXt:=Lh hx;have HKl:=Lh hk;have HMt:=Lh (show a.tag mb=0 from Decidable.byContradiction fun z=>by have:=hk.lt _ z;omega);have HS:Hid (∀V,Below w1.heap.size w1 V→V.cell? ⟨xb,0,none⟩=some (.pointer (some ⟨a.kb,0,none⟩))∧V.cell? ⟨mb,0,none⟩=some (.int .u32 m.pages)∧V.cell? ⟨mb,1,none⟩=some (.slice eo m.ext.length ec)∧V.cell? ⟨mb,2,none⟩=some (.slice po m.ports.length pc)∧V.cell? ⟨mb,3,none⟩=some (.bool m.con)∧True):=Lh fun V hV=>by
  have q:=(hV.block _ (lQ HM.out)).trans HM.out;obtain⟨q0,q1,q2,q3,_⟩:=man_cells q;exact⟨(HX.out V hV).ker,q0,q1,q2,q3,trivial⟩
 obtain⟨kb,hkb⟩:∃y,a.kb=y:=⟨_,rfl⟩;have HKb:=Lh hkb;rw[hkb] at HS HKc;clear h hk hm hok h1 h2 hx hA hM hkb;unfold Mn.cells at hw1 HGr⊢;have wpg:IntKind.u32.wrap pg=pg:=wrap32 (by omega) (by omega);have a1:¬pg<0:=by omega
 have a2:¬pg>4096:=by omega
 go_enter func45,ntmps45;go_wp2;try rw[hw1]
 try rw[hmb]
 clear hw1 hmb;go_loop [8] (fun v=>∃k:Nat,1≤k∧k≤n∧v=.int .i64 k) (fun v=>n - (intOf v).toNat)
 case atStart=>exact⟨1,by omega,by omega,rfl⟩
 case round=>
  obtain⟨k,k1,k2,rfl⟩:=hrel;obtain⟨c0,_,_,_⟩:=(HX.out w1 Br).at' k (by omega);have k9:(k:Int)<9:=by omega
  by_cases hkn:k<n
  ·rw[H1.out k k1 hkn] at c0;go_wp2;go_round
   case rel=>exact⟨k+1,by omega,by omega,by go_num⟩
   case measure=>simp[intOf];omega
  ·obtain rfl:k=n:=by omega
   rw[H2.out] at c0;have k9':((k:Int) == 9)=false:=by simp;omega
   clear k1 k2 hkn;go_wp2_with fail;refine B (fun V=>V.cell? ⟨xb,0,none⟩=some (.pointer (some ⟨kb,0,none⟩))∧V.cell? ⟨mb,0,none⟩=some (.int .u32 m.pages)∧V.cell? ⟨mb,1,none⟩=some (.slice eo m.ext.length ec)∧V.cell? ⟨mb,2,none⟩=some (.slice po m.ports.length pc)∧V.cell? ⟨mb,3,none⟩=some (.bool m.con)∧True) (HS.out _ Br.drew) fun wd hwd hS=> ?_
   have HBd:=Lh (show Below w1.heap.size w1 wd by rw[hwd];exact Br.drew);clear hwd c0;refine T 0 hS ?_;refine T 1 hS ?_;refine T 2 hS ?_;refine T 3 hS ?_;refine T 5 hS ?_;refine T 6 hS ?_;refine T 7 hS ?_;refine T 8 hS ?_;refine U 4 fun K' hK=> ?_
   go_simp;go_at_call 85;refine(HKc.out wd HBd.out).mono ?_;rintro r v5 ⟨rfl,rfl⟩;refine V hK hS ?_;clear hK K';refine U 9 fun K' hK=> ?_
   go_simp;go_at_call 86;refine(HGr.out wd HBd.out).mono ?_;rintro r v8 (⟨hg,rfl,hb8⟩|⟨hg,rfl,a8,hs8⟩)
   ·have hS8:=HS.out v8 (bQ HBd.out hb8);have HEnd:=Lh (HFin1.out v8 hg (bQ HA.out (bQ HBd.out hb8)));have hgb:(Ca.grantE K.hp K.hx K.g k m pg != 0)=true:=bne_iff_ne.2 hg;clear hb8 hg HFin1 HFin2 HGr;generalize Ca.grantE K.hp K.hx K.g k m pg=gE at*;refine V hK hS8 ?_;clear hK K';refine T 10 hS8 ?_;refine wpAnyH_done (by kernel_rfl) ?_ _;clear hS8 hS;go_wp2
    first|exact HEnd.out|(go_ret2;exact HEnd.out)
   ·have hxl:=HXl.out;have hxd:xb<wd.heap.size:=Nat.lt_of_lt_of_le hxl (Nat.le_trans HA.out.size HBd.out.size);have hxw:¬a.wf xb:=fun q=>q.1 HXt.out
    have hx8:=(HX.out wd HBd.out).mod hs8.mod hxw;have hmw:¬a.wf mb:=fun q=>q.1 HMt.out
    have hq8:=(hs8.mod.block _ (Nat.lt_of_lt_of_le (lQ HM.out) HBd.out.size) hmw).trans ((HBd.out.block _ (lQ HM.out)).trans HM.out);obtain⟨q0,q1,q2,q3,_⟩:=man_cells hq8;have hS8:v8.cell? ⟨xb,0,none⟩=some (.pointer (some ⟨kb,0,none⟩))∧v8.cell? ⟨mb,0,none⟩=some (.int .u32 m.pages)∧v8.cell? ⟨mb,1,none⟩=some (.slice eo m.ext.length ec)∧v8.cell? ⟨mb,2,none⟩=some (.slice po m.ports.length pc)∧v8.cell? ⟨mb,3,none⟩=some (.bool m.con)∧True:=⟨hx8.ker.trans (by rw[HKb.out]),q0,q1,q2,q3,trivial⟩;have HX8:=Lh hx8;have HK8:=Lh ((KStep.of_below HKl.out (bQ HA.out HBd.out)).trans hs8);have HT8:=Lh (show a8.tag xb=0 from(hs8.tag xb hxd).trans HXt.out);have HKb8:=Lh (show a8.kb=a.kb from hs8.same.1);have HG:=Lh hg;clear hxl hxd hxw hx8 hmw hq8 q0 q1 q2 q3 hs8 hg HFin1 HGr HS HX HK HKc;refine V hK hS8 ?_;clear hK K';refine T 10 hS8 ?_;refine wpAnyH_done (by kernel_rfl) ?_ _;obtain⟨e0,e1,e2,ef⟩:=HX8.out.at' k (by omega);have f0:=ef (1+k*3);have f1:=ef (1+k*3+1);have f2:=ef (1+k*3+2);have k9:(k:Int)<9:=by omega
    clear ef hS hS8;go_wp2;have hset:Ex (((v8.setCell ⟨xb,1+k*3,none⟩ (.bool true)).setCell ⟨xb,1+k*3+1,none⟩ (.int .i64 pg)).setCell ⟨xb,1+k*3+2,none⟩ (.pointer none)) xb a.kb (upd S k ⟨true,pg,none⟩) tv:=HX8.out.set k ⟨true,pg,none⟩ (by omega);have hm9:Mod (fun i=>i=xb) v8 (((v8.setCell ⟨xb,1+k*3,none⟩ (.bool true)).setCell ⟨xb,1+k*3+1,none⟩ (.int .i64 pg)).setCell ⟨xb,1+k*3+2,none⟩ (.pointer none)):=Mod.setCell (F:=fun i=>i=xb) (Mod.setCell (F:=fun i=>i=xb) (Mod.setCell (F:=fun i=>i=xb) (Mod.refl _ _) ⟨xb,1+k*3,none⟩ (.inl rfl) _) ⟨xb,1+k*3+1,none⟩ (.inl rfl) _) ⟨xb,1+k*3+2,none⟩ (.inl rfl) _;have hend:=HFin2.out _ HG.out ⟨a8,v8,HK8.out,hm9,by rw[HKb8.out];exact hset,HK8.out.k.keep hm9 fun i hi e=>by subst e;exact hi HT8.out,HT8.out⟩
    first|exact hend|(go_ret2;exact hend)
end Ex
namespace Rc
def all:List Int:=[1,2,3,4,5,6,7,8]
def one(G:Int→Option Gr)(n:Int):Option (Int×Gr):=(G n).map fun g=>(n,g)
def canon(G:Int→Option Gr):List (Int×Gr):=all.filterMap (one G)
def lo(G:Int→Option Gr)(n:Int):List (Int×Gr):=(all.filter fun k=>decide (k<n)).filterMap (one G)
def hi(G:Int→Option Gr)(n:Int):List (Int×Gr):=(all.filter fun k=>decide (n<k)).filterMap (one G)
theorem all_split{n:Int}(n1:1≤n)(n8:n≤8):all=(all.filter fun k=>decide (k<n))++([n]++all.filter fun k=>decide (n<k)):=by
 have hn:n=1∨n=2∨n=3∨n=4∨n=5∨n=6∨n=7∨n=8:=by omega
 rcases hn with rfl|rfl|rfl|rfl|rfl|rfl|rfl|rfl<;>decide
theorem split(G:Int→Option Gr){n:Int}(n1:1≤n)(n8:n≤8):canon G=lo G n++((one G n).toList++hi G n):=by
 unfold canon
 conv=>lhs;rw[all_split n1 n8]
 rw[List.filterMap_append,List.filterMap_append];have:([n]:List Int).filterMap (one G)=(one G n).toList:=by
  rw[List.filterMap_cons];cases one G n<;>rfl
 rw[this];rfl
theorem fm_congr{X:Type}{l:List Int}{f g:Int→Option X}(h:∀k,k∈l→f k=g k):l.filterMap f=l.filterMap g:=by
 induction l with
 |nil=>rfl
 |cons a l ih=>
  rw[List.filterMap_cons,List.filterMap_cons,h a (List.mem_cons_self ..),ih fun k hk=>h k (List.mem_cons_of_mem _ hk)]
theorem lo_upd(G:Int→Option Gr)(n:Int)(g:Option Gr):lo (Gp.upd G n g) n=lo G n:=fm_congr fun k hk=>by
 have:k<n:=by simpa using (List.mem_filter.1 hk).2
 unfold one;rw[Gp.upd_ne _ _ (by omega)]
theorem hi_upd(G:Int→Option Gr)(n:Int)(g:Option Gr):hi (Gp.upd G n g) n=hi G n:=fm_congr fun k hk=>by
 have:n<k:=by simpa using (List.mem_filter.1 hk).2
 unfold one;rw[Gp.upd_ne _ _ (by omega)]
theorem mem_lo{G:Int→Option Gr}{n:Int}{x:Int×Gr}(h:x∈lo G n):x.1<n∧G x.1=some x.2:=by
 obtain⟨k,hk,hx⟩:=List.mem_filterMap.1 h;have hkn:k<n:=by simpa using (List.mem_filter.1 hk).2
 unfold one at hx;cases hG:G k with
 |none=>rw[hG] at hx;cases hx
 |some g=>rw[hG] at hx;cases hx;exact⟨hkn,hG⟩
theorem mem_hi{G:Int→Option Gr}{n:Int}{x:Int×Gr}(h:x∈hi G n):n<x.1∧G x.1=some x.2:=by
 obtain⟨k,hk,hx⟩:=List.mem_filterMap.1 h;have hkn:n<k:=by simpa using (List.mem_filter.1 hk).2
 unfold one at hx;cases hG:G k with
 |none=>rw[hG] at hx;cases hx
 |some g=>rw[hG] at hx;cases hx;exact⟨hkn,hG⟩
theorem mem{G:Int→Option Gr}{x:Int×Gr}(h:x∈canon G):1≤x.1∧x.1≤8∧G x.1=some x.2:=by
 obtain⟨k,hk,hx⟩:=List.mem_filterMap.1 h;have hk8:1≤k∧k≤8:=by
  unfold all at hk;simp at hk;omega
 unfold one at hx;cases hG:G k with
 |none=>rw[hG] at hx;cases hx
 |some g=>rw[hG] at hx;cases hx;exact⟨hk8.1,hk8.2,hG⟩
theorem mem_of{G:Int→Option Gr}{n:Int}{g:Gr}(n1:1≤n)(n8:n≤8)(h:G n=some g):(n,g)∈canon G:=by
 rw[split G n1 n8];refine List.mem_append_right _ (List.mem_append_left _ ?_);unfold one;rw[h]
 simp
theorem canon_some{G:Int→Option Gr}{n:Int}{g:Gr}(n1:1≤n)(n8:n≤8)(h:G n=some g):canon G=lo G n++(n,g)::hi G n:=by
 rw[split G n1 n8];unfold one;rw[h];rfl
theorem canon_none{G:Int→Option Gr}{n:Int}(n1:1≤n)(n8:n≤8)(h:G n=none):canon G=lo G n++hi G n:=by
 rw[split G n1 n8];unfold one;rw[h];rfl
theorem canon_put{G:Int→Option Gr}{n:Int}{g:Gr}(n1:1≤n)(n8:n≤8):canon (Gp.upd G n (some g))=lo G n++(n,g)::hi G n:=by
 rw[canon_some n1 n8 (Gp.upd_at G n (some g)),lo_upd,hi_upd]
theorem len(G:Int→Option Gr):(canon G).length≤8:=Nat.le_trans (List.length_filterMap_le _ _) (by decide)
def sumR(L:List (Int×Gr)):Int:=(L.map fun x=>x.2.m.pages+x.2.pg).sum
theorem sumR_canon(G:Int→Option Gr):sumR (canon G)=Gp.sum G:=by
 have h1:∀k l,sumR ((one G k).toList++l)=Gp.pgs (G k)+sumR l:=fun k l=>by
  unfold one;cases h:G k with
  |none=>simp[Gp.pgs]
  |some g=>simp[Gp.pgs,sumR]
 have h2:canon G=(one G 1).toList++((one G 2).toList++((one G 3).toList++((one G 4).toList++((one G 5).toList++((one G 6).toList++((one G 7).toList++((one G 8).toList++[]))))))):=by
  have hc:∀(k:Int) (l:List Int),(k::l).filterMap (one G)=(one G k).toList++l.filterMap (one G):=fun k l=>by
   rw[List.filterMap_cons];cases one G k<;>rfl
  unfold canon all;rw[hc,hc,hc,hc,hc,hc,hc,hc];rfl
 rw[h2,h1,h1,h1,h1,h1,h1,h1,h1];unfold Gp.sum Gp.sum8;simp[sumR]
end Rc
structure RcE where
 n:Int
 g:Gr
 ev:Value
 pv:Value
def RcE.cells(x:RcE):List Value:=[.int .i64 x.n,.int .u32 x.g.m.pages,x.ev,x.pv,.bool x.g.m.con,.int .u32 x.g.pg,.int .u32 x.g.took]
def RcE.key(x:RcE):Int×Gr:=(x.n,x.g)
def rcC(L:List RcE):List Value:=L.flatMap RcE.cells
theorem rcC_len(L:List RcE):(rcC L).length=L.length*7:=by
 unfold rcC
 induction L with
 |nil=>rfl
 |cons x l ih=>rw[List.flatMap_cons,List.length_append,ih];simp[RcE.cells];omega
theorem rcC_at:∀(L:List RcE) (i:Nat) (x:RcE),L[i]? =some x→∀j,j<7→(rcC L)[i*7+j]? =x.cells[j]?
 |y::l,0,x,h,j,hj=>by
  simp at h;subst h;have e:rcC (y::l)=y.cells++rcC l:=rfl;rw[e,Nat.zero_mul,Nat.zero_add,List.getElem?_append_left (by simpa [RcE.cells] using hj)]
 |y::l,i+1,x,h,j,hj=>by
  have:=rcC_at l i x (by simpa using h) j hj;have e:rcC (y::l)=y.cells++rcC l:=rfl;rw[e,List.getElem?_append_right (by simp[RcE.cells];omega),←this]
  congr 1
  simp[RcE.cells];omega
theorem rcC_one(L:List RcE)(h:∀x,x∈L→x.ev.oneCell'=true∧x.pv.oneCell'=true):∀u,u∈rcC L→u.oneCell'=true:=fun u hu=>by
 unfold rcC at hu;rw[List.mem_flatMap] at hu;obtain⟨x,hm,hx⟩:=hu;simp[RcE.cells] at hx;rcases hx with rfl|rfl|rfl|rfl|rfl|rfl|rfl
 ·rfl
 ·rfl
 ·exact(h x hm).1
 ·exact(h x hm).2
 ·rfl
 ·rfl
 ·rfl
structure Gp.OkG(hp:Int)(G:Int→Option Gr):Prop where
 ok:∀n,Gp.gok (G n)
 dom:∀n,(G n).isSome=true→1≤n∧n≤8
 fit:Gp.sum G≤hp
 may:∀n g,G n=some g→Gp.checkE g.m=0
 h1:hp≤4096
structure RcAt where
 rb:Nat
 hv:Value
 lv:Value
 L:List RcE
structure Rcs(w:World)(a:RcAt)(hp:Int)(G:Int→Option Gr):Prop where
 head:w.heap[a.rb]? =some (.cells #[.int .u32 hp,a.hv,a.lv] 300 (0,0))
 row:SlV w 351 7 a.lv a.L.length (rcC a.L)
 mns:∀x,x∈a.L→MnAt w x.ev x.pv x.g.m
 can:a.L.map RcE.key=Rc.canon G
 ok:Gp.OkG hp G
def RcAt.wf(a:RcAt)(k:Nat):Prop:=k=a.rb∨a.lv.ownBlock=some k
def RcAt.rf(a:RcAt)(k:Nat):Prop:=∃x,x∈a.L∧(x.ev.ownBlock=some k∨x.pv.ownBlock=some k)
namespace Rcs
variable {w w':World} {a:RcAt} {hp:Int} {G:Int→Option Gr}
theorem mod{F:Nat→Prop}(h:Rcs w a hp G)(hm:Mod F w w')(hF:∀k,a.wf k∨a.rf k→¬F k):Rcs w' a hp G:=
 ⟨(hm.block _ (lQ h.head) (hF _ (.inl (.inl rfl)))).trans h.head,h.row.mod hm fun k hk=>hF k (.inl (.inr hk)),fun x hx=>(h.mns x hx).mod hm (fun k hk=>hF k (.inr ⟨x,hx,.inl hk⟩)) fun k hk=>hF k (.inr ⟨x,hx,.inr hk⟩),h.can,h.ok⟩
theorem below(h:Rcs w a hp G)(hb:Below w.heap.size w w'):Rcs w' a hp G:=h.mod (Mod.of_below hb (fun _=>False)) fun _ _ q=>q
theorem cells(h:Rcs w a hp G):w.cell? ⟨a.rb,0,none⟩=some (.int .u32 hp)∧w.cell? ⟨a.rb,1,none⟩=some a.hv∧w.cell? ⟨a.rb,2,none⟩=some a.lv∧∀i,w.frozen? ⟨a.rb,i,none⟩=false:=by
 refine⟨?_, ?_, ?_,fun i=> ?_⟩
 ·unfold World.cell?;rw[h.head];rfl
 ·unfold World.cell?;rw[h.head];rfl
 ·unfold World.cell?;rw[h.head];rfl
 ·unfold World.frozen?;rw[h.head];simp
theorem len(h:Rcs w a hp G):a.L.length≤8:=by
 have:=congrArg List.length h.can;rw[List.length_map] at this;rw[this];exact Rc.len G
theorem key(h:Rcs w a hp G){x:RcE}(hx:x∈a.L):1≤x.n∧x.n≤8∧G x.n=some x.g:=Rc.mem (x:=x.key) (by rw[←h.can];exact List.mem_map_of_mem hx)
theorem at'(h:Rcs w a hp G){i:Nat}{x:RcE}(hx:a.L[i]? =some x):∃g off cap,a.lv=.slice (some ⟨g,off,none⟩) a.L.length cap∧∀j,j<7→w.cell? ⟨g,off+(i*7+j),none⟩=x.cells[j]? :=by
 have hi:=(List.getElem?_eq_some_iff.1 hx).1;have hr:=h.row;rcases hr.2 with⟨h0,_⟩|⟨g,off,cap,cur,hv,_⟩
 ·omega
 ·refine⟨g,off,cap,hv,fun j hj=> ?_⟩;rw[hv] at hr;rw[hr.cell (i*7+j) (by omega)];exact rcC_at _ _ _ hx j hj
theorem seven{g o i:Nat}{x:RcE}(h:∀j,j<7→w.cell? ⟨g,o+(i*7+j),none⟩=x.cells[j]?):w.cell? ⟨g,o+i*7,none⟩=some (.int .i64 x.n)∧w.cell? ⟨g,o+i*7+1,none⟩=some (.int .u32 x.g.m.pages)∧w.cell? ⟨g,o+i*7+2,none⟩=some x.ev∧w.cell? ⟨g,o+i*7+3,none⟩=some x.pv∧w.cell? ⟨g,o+i*7+4,none⟩=some (.bool x.g.m.con)∧w.cell? ⟨g,o+i*7+5,none⟩=some (.int .u32 x.g.pg)∧w.cell? ⟨g,o+i*7+6,none⟩=some (.int .u32 x.g.took):=
 ⟨h 0 (by omega),h 1 (by omega),h 2 (by omega),h 3 (by omega),h 4 (by omega),h 5 (by omega),h 6 (by omega)⟩
end Rcs
namespace Rc
def idx:List RcE→Int→Option Nat
 | [],_=>none
 |x::l,n=>if x.n=n then some 0 else(idx l n).map (·+1)
theorem idx_some:∀ {L:List RcE} {n:Int} {i:Nat},idx L n=some i→∃x,L[i]? =some x∧x.n=n∧∀k y,k<i→L[k]? =some y→y.n≠n
 | [],n,i,h=>by cases h
 |x::l,n,i,h=>by
  unfold idx at h
  split at h
  ·cases h;exact⟨x,rfl,by assumption,fun k y hk=>absurd hk (Nat.not_lt_zero _)⟩
  ·rename_i hne
   cases hr:idx l n with
   |none=>rw[hr] at h;cases h
   |some j=>
    rw[hr] at h;cases h;obtain⟨y,h1,h2,h3⟩:=idx_some hr;refine⟨y,by simpa using h1,h2,fun k z hk hz=> ?_⟩;cases k with
    |zero=>simp at hz;subst hz;exact hne
    |succ k=>exact h3 k z (by have hk:k+1<j+1:=hk;omega) (by simpa using hz)
theorem idx_none:∀ {L:List RcE} {n:Int},idx L n=none→∀x,x∈L→x.n≠n
 | [],n,_,x,hx=>by cases hx
 |y::l,n,h,x,hx=>by
  unfold idx at h
  split at h
  ·cases h
  ·rename_i hne
   cases hr:idx l n with
   |some j=>rw[hr] at h;cases h
   |none=>
    rcases List.mem_cons.1 hx with rfl|q
    ·exact hne
    ·exact idx_none hr x q
theorem idx_at{L:List RcE}{n:Int}{i:Nat}{x:RcE}(hx:L[i]? =some x)(hn:x.n=n)(hno:∀k y,k<i→L[k]? =some y→y.n≠n):idx L n=some i:=by
 cases h:idx L n with
 |none=>exact absurd hn (idx_none h x (List.mem_of_getElem? hx))
 |some j=>
  obtain⟨y,h1,h2,h3⟩:=idx_some h;rcases Nat.lt_trichotomy i j with q|q|q
  ·exact absurd hn (h3 i x q hx)
  ·rw[q]
  ·exact absurd h2 (hno j y q h1)
def idxV(L:List RcE)(n:Int):Int:=match idx L n with|none=> -1|some i=>i
section
variable {w:World} {a:RcAt} {hp:Int} {G:Int→Option Gr}
theorem of_none(h:Rcs w a hp G){n:Int}(hg:G n=none):idx a.L n=none:=by
 cases hi:idx a.L n with
 |none=>rfl
 |some i=>
  obtain⟨x,h1,h2,_⟩:=idx_some hi;have:=(h.key (List.mem_of_getElem? h1)).2.2;rw[h2,hg] at this;cases this
theorem of_some(h:Rcs w a hp G){n:Int}{g:Gr}(hg:G n=some g):∃i x,idx a.L n=some i∧a.L[i]? =some x∧x.n=n∧x.g=g:=by
 obtain⟨n1,n8⟩:=h.ok.dom n (by rw[hg];rfl);have hm:=mem_of n1 n8 hg;rw[←h.can] at hm;obtain⟨y,hy,he⟩:=List.mem_map.1 hm;have hyn:y.n=n:=congrArg Prod.fst he;cases hi:idx a.L n with
 |none=>exact absurd hyn (idx_none hi y hy)
 |some i=>
  obtain⟨x,h1,h2,_⟩:=idx_some hi;have:=(h.key (List.mem_of_getElem? h1)).2.2;rw[h2,hg] at this;exact⟨i,x,rfl,h1,h2,(Option.some.inj this).symm⟩
def fdRel(w:World)(L:List RcE)(n:Int)(vi:Value)(wr:World):Prop:=∃i:Nat,i≤L.length∧vi=.int .i64 i∧(∀(k:Nat) (x:RcE),k<i→L[k]? =some x→x.n≠n)∧wr=w
theorem find(h:Rcs w a hp G)(n:Int):Calls Tryz.prog 194 #[.pointer (some ⟨a.rb,0,none⟩),.int .i64 n] w fun e w'=>e=.returned (.int .i64 (idxV a.L n))∧w=w':=by
 obtain⟨c0,c1,c2,_⟩:=h.cells;have hl:=h.len;have H:=Lh h;obtain⟨ao,ac,hlv⟩:=h.row.form;rw[hlv] at c2;clear h;go_enter func194,ntmps194;go_wp2;go_loopw [5] (fun vi wr=>fdRel w a.L n vi wr) (fun vi _=>a.L.length - (intOf vi).toNat)
 case atStart=>exact⟨0,by omega,rfl,fun k _ hk=>absurd hk (Nat.not_lt_zero _),rfl⟩
 case round=>
  obtain⟨i,hi,rfl,hno,rfl⟩:=hrel;have HNo:=Lh hno;clear hno
  by_cases hin:i<a.L.length
  ·obtain⟨x,hx⟩:∃x,a.L[i]? =some x:=⟨_,Zg hin⟩;obtain⟨g,off,cap,hv,hc⟩:=H.out.at' hx;rw[hlv] at hv;simp only[Value.slice.injEq] at hv;obtain⟨rfl,_,rfl⟩:=hv;obtain⟨x0,_⟩:=Rcs.seven hc;have hi1:(i:Int)<a.L.length:=by omega
   have HX:=Lh hx;clear hc hx hlv
   by_cases hxn:x.n=n
   ·have hb:(x.n == n)=true:=beq_iff_eq.2 hxn;have HV:Hid (idxV a.L n=i):=Lh (by unfold idxV;rw[idx_at HX.out hxn HNo.out]);clear hxn;go_wp2;go_ret;exact⟨by rw[HV.out];rfl,rfl⟩
   ·have hb:(x.n == n)=false:=beq_eq_false_iff_ne.2 hxn;have HXn:=Lh hxn;clear hxn;go_wp2;refine⟨⟨i+1,by omega,by go_num,fun k y hk hy=> ?_,rfl⟩,by simp[intOf];omega⟩;rcases Nat.lt_or_ge k i with q|q
    ·exact HNo.out k y q hy
    ·obtain rfl:k=i:=by omega
     rw[HX.out] at hy;cases hy;exact HXn.out
  ·have hi1:¬(i:Int)<a.L.length:=by omega
   have HV:Hid (idxV a.L n= -1):=Lh (by
    unfold idxV;cases hd:idx a.L n with
    |none=>rfl
    |some j=>
     obtain⟨x,h1,h2,_⟩:=idx_some hd;exact absurd h2 (HNo.out j x (by have:=(List.getElem?_eq_some_iff.1 h1).1;omega) h1))
   clear hlv;go_wp2;go_ret;exact⟨by rw[HV.out];rfl,rfl⟩
end
end Rc
namespace Rc
def MBx(w:World)(b:Nat)(m:Mn)(ev pv:Value):Prop:=w.heap[b]? =some (.cells (m.cells ev pv) 109 (0,0))
theorem MBx.below{w w':World}{b:Nat}{m:Mn}{ev pv:Value}(h:MBx w b m ev pv)(hb:Below w.heap.size w w'):MBx w' b m ev pv:=(hb.block _ (lQ h)).trans h
def bkRel(w:World)(l:List (Int×Int))(id:Int)(vi:Value)(wr:World):Prop:=∃i:Nat,i≤l.length∧vi=.int .i64 i∧(∀(k:Nat) (x:Int×Int),k<i→l[k]? =some x→x.1≠id)∧wr=w
theorem blocks{w:World}{m:Mn}{ev pv:Value}(h:MnAt w ev pv m)(id:Int):Calls Tryz.prog 254 #[.agg (m.cells ev pv),.int .u32 id] w fun e w'=>e=.returned (.int .u32 ((Gp.blocksOf m.ext id).getD 0))∧Below w.heap.size w w':=by
 obtain⟨eo,ec,rfl⟩:=h.e.form;have hcap:=slv_len h.e;unfold maxLen at hcap;have hb:Below w.heap.size w (w.alloc (.cells (m.cells (.slice eo m.ext.length ec) pv) 109)):=Ba _;have hk:=heap_alloc_new w (.cells (m.cells (.slice eo m.ext.length ec) pv) 109);have HE:=Lh (h.below hb).e;have HB:=Lh hb;obtain⟨c0,c1,c2,c3,_⟩:=man_cells hk;unfold Mn.cells at*;clear h hb hk;go_enter func254,ntmps254;go_wp2;generalize w.alloc (.cells #[.int .u32 m.pages,.slice eo m.ext.length ec,pv,.bool m.con] 109)=w1 at*;go_loopw [5] (fun vi wr=>bkRel w1 m.ext id vi wr) (fun vi _=>m.ext.length - (intOf vi).toNat)
 case atStart=>exact⟨0,by omega,rfl,fun k _ hk=>absurd hk (Nat.not_lt_zero _),rfl⟩
 case round=>
  obtain⟨i,hi,rfl,hno,rfl⟩:=hrel;have HNo:=Lh hno;clear hno
  by_cases hin:i<m.ext.length
  ·obtain⟨g,off,rfl,hc0,hc1⟩:=ext_cells HE.out (Zg hin);obtain⟨x,hx⟩:∃x,m.ext[i]=x:=⟨_,rfl⟩;rw[hx] at hc0 hc1;have HX:Hid (m.ext[i]? =some x):=Lh (by rw[Zg hin,hx]);have hi1:(i:Int)<m.ext.length:=by omega
   clear hx
   by_cases hxe:x.1=id
   ·have hd:(x.1 == id)=true:=beq_iff_eq.2 hxe;have HV:Hid ((Gp.blocksOf m.ext id).getD 0=x.2):=Lh (by rw[Ca.blocksOf_at HX.out hxe HNo.out];rfl);clear hxe;go_wp2;go_ret;exact⟨by rw[HV.out];rfl,HB.out⟩
   ·have hd:(x.1 == id)=false:=beq_eq_false_iff_ne.2 hxe;have HXe:=Lh hxe;clear hxe;go_wp2;refine⟨⟨i+1,by omega,by go_num,fun k y hk hy=> ?_,rfl⟩,by simp[intOf];omega⟩;rcases Nat.lt_or_ge k i with q|q
    ·exact HNo.out k y q hy
    ·obtain rfl:k=i:=by omega
     rw[HX.out] at hy;cases hy;exact HXe.out
  ·have hi1:¬(i:Int)<m.ext.length:=by omega
   have HV:Hid ((Gp.blocksOf m.ext id).getD 0=0):=Lh (by rw[Ca.blocksOf_none fun k x hk hx=>HNo.out k x (by omega) hx];rfl);go_wp2;go_ret;exact⟨by rw[HV.out];rfl,HB.out⟩
def hpRel(w:World)(l:List Int)(p:Int)(vi:Value)(wr:World):Prop:=∃i:Nat,i≤l.length∧vi=.int .i64 i∧(∀(k:Nat) (x:Int),k<i→l[k]? =some x→x≠p)∧wr=w
theorem hasPort{w:World}{m:Mn}{ev pv:Value}(h:MnAt w ev pv m)(p:Int):Calls Tryz.prog 255 #[.agg (m.cells ev pv),.int .u16 p] w fun e w'=>e=.returned (.bool (decide (p∈m.ports)))∧Below w.heap.size w w':=by
 obtain⟨po,pc,rfl⟩:=h.p.form;have hcap:=slv_len h.p;unfold maxLen at hcap;have hb:Below w.heap.size w (w.alloc (.cells (m.cells ev (.slice po m.ports.length pc)) 109)):=Ba _;have hk:=heap_alloc_new w (.cells (m.cells ev (.slice po m.ports.length pc)) 109);have HE:=Lh (h.below hb).p;have HB:=Lh hb;obtain⟨c0,c1,c2,c3,_⟩:=man_cells hk;unfold Mn.cells at*;clear h hb hk;go_enter func255,ntmps255;go_wp2;generalize w.alloc (.cells #[.int .u32 m.pages,ev,.slice po m.ports.length pc,.bool m.con] 109)=w1 at*;go_loopw [5] (fun vi wr=>hpRel w1 m.ports p vi wr) (fun vi _=>m.ports.length - (intOf vi).toNat)
 case atStart=>exact⟨0,by omega,rfl,fun k _ hk=>absurd hk (Nat.not_lt_zero _),rfl⟩
 case round=>
  obtain⟨i,hi,rfl,hno,rfl⟩:=hrel;have HNo:=Lh hno;clear hno
  by_cases hin:i<m.ports.length
  ·obtain⟨g,off,rfl,hc0⟩:=u16_cell HE.out (Zg hin);obtain⟨x,hx⟩:∃x,m.ports[i]=x:=⟨_,rfl⟩;rw[hx] at hc0;have HX:Hid (m.ports[i]? =some x):=Lh (by rw[Zg hin,hx]);have hi1:(i:Int)<m.ports.length:=by omega
   clear hx
   by_cases hxe:x=p
   ·have hd:(x == p)=true:=beq_iff_eq.2 hxe;have HV:Hid (decide (p∈m.ports)=true):=Lh (decide_eq_true (by rw[←hxe];exact List.mem_of_getElem? HX.out));clear hxe;go_wp2;go_ret;exact⟨by rw[HV.out];rfl,HB.out⟩
   ·have hd:(x == p)=false:=beq_eq_false_iff_ne.2 hxe;have HXe:=Lh hxe;clear hxe;go_wp2;refine⟨⟨i+1,by omega,by go_num,fun k y hk hy=> ?_,rfl⟩,by simp[intOf];omega⟩;rcases Nat.lt_or_ge k i with q|q
    ·exact HNo.out k y q hy
    ·obtain rfl:k=i:=by omega
     rw[HX.out] at hy;cases hy;exact HXe.out
  ·have hi1:¬(i:Int)<m.ports.length:=by omega
   have HV:Hid (decide (p∈m.ports)=false):=Lh (decide_eq_false fun hm=>by
    obtain⟨k,hk⟩:=List.getElem?_of_mem hm;exact HNo.out k p (by have:=(List.getElem?_eq_some_iff.1 hk).1;omega) hk rfl)
   go_wp2;go_ret;exact⟨by rw[HV.out];rfl,HB.out⟩
end Rc
namespace Rc
def pg(x:RcE):Int:=x.g.m.pages+x.g.pg
def sumE(L:List RcE):Int:=(L.map pg).sum
theorem sumE_key(L:List RcE):sumE L=sumR (L.map RcE.key):=by
 unfold sumE sumR;rw[List.map_map];rfl
theorem sumE_snoc(L:List RcE)(x:RcE):sumE (L++[x])=sumE L+pg x:=by unfold sumE;simp
theorem sumE_app(L M:List RcE):sumE (L++M)=sumE L+sumE M:=by unfold sumE;simp
theorem sumE_nn{L:List RcE}(h:∀x,x∈L→0≤pg x):0≤sumE L:=by
 induction L with
 |nil=>exact Int.le_refl _
 |cons x l ih=>
  have h1:=h x (List.mem_cons_self ..);have h2:=ih fun y hy=>h y (List.mem_cons_of_mem _ hy)
  show 0≤((x::l).map pg).sum
  rw[List.map_cons,List.sum_cons];unfold sumE at h2;omega
theorem take_succ{L:List RcE}{i:Nat}{x:RcE}(hx:L[i]? =some x):L.take (i+1)=L.take i++[x]:=by
 rw[List.take_add_one,hx];rfl
section
variable {w:World} {a:RcAt} {hp:Int} {G:Int→Option Gr}
theorem sumE_all(h:Rcs w a hp G):sumE a.L=Gp.sum G:=by rw[sumE_key,h.can,sumR_canon]
theorem pg_nn(h:Rcs w a hp G){x:RcE}(hx:x∈a.L):0≤pg x∧0≤x.g.m.pages∧0≤x.g.pg:=by
 have:=h.ok.ok _ x.g (h.key hx).2.2;have h1:=this.m.p0;have h2:=this.q0;exact⟨by unfold pg;omega,h1,h2⟩
theorem sumE_le(h:Rcs w a hp G)(i:Nat):0≤sumE (a.L.take i)∧sumE (a.L.take i)≤Gp.sum G:=by
 have h1:=sumE_nn (L:=a.L.take i) fun x hx=>(pg_nn h (List.mem_of_mem_take hx)).1
 have h2:=sumE_nn (L:=a.L.drop i) fun x hx=>(pg_nn h (List.mem_of_mem_drop hx)).1
 have h3:=sumE_app (a.L.take i) (a.L.drop i);rw[List.take_append_drop,sumE_all h] at h3;exact⟨h1,by omega⟩
def frR(w:World)(hp:Int)(L:List RcE)(vn vi:Value)(wr:World):Prop:=∃i:Nat,i≤L.length∧vi=.int .i64 i∧vn=.int .u32 (hp - sumE (L.take i))∧Below w.heap.size w wr
theorem free(h:Rcs w a hp G):Calls Tryz.prog 196 #[.pointer (some ⟨a.rb,0,none⟩)] w fun e w'=>e=.returned (.int .u32 (Gp.freeV hp G))∧Below w.heap.size w w':=by
 obtain⟨c0,c1,c2,_⟩:=h.cells;have hl:=h.len;have H:=Lh h;have HV:Hid (hp - sumE a.L=Gp.freeV hp G):=Lh (by rw[sumE_all h];rfl);have HR0:Hid (frR w hp a.L (.int .u32 hp) (.int .i64 0) w):=Lh ⟨0,by omega,rfl,by simp[sumE],Below.refl _ _⟩;obtain⟨ao,ac,hlv⟩:=h.row.form;clear h;go_enter func196,ntmps196;go_wp2;clear c0 c1 c2;go_loopw [3,4] (fun vn vi wr=>frR w hp a.L vn vi wr) (fun _ vi _=>a.L.length - (intOf vi).toNat)
 case atStart=>exact HR0.out
 case round=>
  clear HR0;obtain⟨i,hi,rfl,rfl,hb⟩:=hrel;have HB:=Lh hb;have h1:=H.out.below hb;obtain⟨c0,c1,c2,_⟩:=h1.cells;rw[hlv] at c2
  by_cases hin:i<a.L.length
  ·obtain⟨x,hx⟩:∃x,a.L[i]? =some x:=⟨_,Zg hin⟩;obtain⟨g,off,cap,hv,hc⟩:=h1.at' hx;rw[hlv] at hv;simp only[Value.slice.injEq] at hv;obtain⟨rfl,_,rfl⟩:=hv;obtain⟨x0,x1,x2,x3,x4,x5,x6⟩:=Rcs.seven hc;have hi1:(i:Int)<a.L.length:=by omega
   obtain⟨p0,p1,p2⟩:=pg_nn h1 (List.mem_of_getElem? hx);have hs0:=sumE_le h1 i;have hs1:=sumE_le h1 (i+1);have hsn:sumE (a.L.take (i+1))=sumE (a.L.take i)+(x.g.m.pages+x.g.pg):=by rw[take_succ hx,sumE_snoc];rfl
   rw[hsn] at hs1;have hft:=h1.ok.fit;have hh1:=h1.ok.h1;obtain⟨s,hs⟩:∃s,sumE (a.L.take i)=s:=⟨_,rfl⟩;rw[hs] at hs0 hs1 hsn⊢;have wr0:IntKind.u32.wrap (hp - s - x.g.m.pages)=hp - s - x.g.m.pages:=wrap32 (by omega) (by omega);have wr1:IntKind.u32.wrap (hp - s - x.g.m.pages - x.g.pg)=hp - s - x.g.m.pages - x.g.pg:=wrap32 (by omega) (by omega);have HEnd:Hid (∀V,Below w.heap.size w V→frR w hp a.L (.int .u32 (hp - s - x.g.m.pages - x.g.pg)) (.int .i64 ((i:Int)+1)) V):=Lh fun V hV=>⟨i+1,by omega,by go_num,by rw[hsn];congr 1;omega,hV⟩
   clear hb h1 hx hc x0 x2 x3 x4 x6 p0 p1 p2 hs0 hs1 hsn hft hh1 hs hlv;go_wp2;refine B (fun V=>V.cell? ⟨a.rb,2,none⟩=some (.slice (some ⟨g,off,none⟩) a.L.length ac)∧V.cell? ⟨g,off+i*7+1,none⟩=some (.int .u32 x.g.m.pages)∧V.cell? ⟨g,off+i*7+5,none⟩=some (.int .u32 x.g.pg)) ⟨c2,x1,x5⟩ fun wd hwd hS=> ?_
   have HWd:Hid (Below w.heap.size w wd):=Lh (by rw[hwd];exact HB.out.drew);clear hwd c0 c1 c2 x1 x5;refine T 0 hS ?_;refine T 1 hS ?_;refine T 2 hS ?_;refine T 3 hS ?_;refine T 4 hS ?_;refine T 5 hS ?_;refine T 6 hS ?_;refine T 7 hS ?_;refine T 8 hS ?_;refine T 9 hS ?_;refine T 10 hS ?_;refine T 11 hS ?_;refine T 12 hS ?_;refine T 13 hS ?_;refine T 14 hS ?_;refine T 15 hS ?_;refine T 16 hS ?_;refine T 17 hS ?_;refine T 18 hS ?_;refine T 19 hS ?_;refine T 20 hS ?_;refine wpAnyH_done (by kernel_rfl) ?_ _;clear hS;go_wp2;exact⟨HEnd.out _ HWd.out,by simp[intOf];omega⟩
  ·have hi1:¬(i:Int)<a.L.length:=by omega
   have HT:Hid (a.L.take i=a.L):=Lh (List.take_of_length_le (by omega));clear hb h1 hlv;go_wp2;go_ret;exact⟨by rw[←HV.out,HT.out]<;>rfl,HB.out⟩
structure RcSame(a a':RcAt):Prop where
 rb:a'.rb=a.rb
 hv:a'.hv=a.hv
 lv:a'.lv=a.lv
 rf:∀k,a'.rf k→a.rf k
theorem RcSame.refl(a:RcAt):RcSame a a:=⟨rfl,rfl,rfl,fun _ h=>h⟩
theorem same(h:Rcs w a hp G){n:Int}{g:Option Gr}(hg:g=G n){V:World}(hV:Below w.heap.size w V):∃a',Rcs V a' hp (Gp.upd G n g)∧RcSame a a'∧Mod (fun k=>a.lv.ownBlock=some k) w V:=⟨a,by rw[hg,Gp.upd_same];exact h.below hV,RcSame.refl a,Mod.of_below hV _⟩
end
end Rc
structure RwV(w:World)(s:Nat)(v:Value)(n:Nat)(xs:List Value):Prop where
 ln:xs.length=n*s
 fm:∃o c,v=.slice o n c∧Cl.At w o xs
 mx:n≤maxLen
namespace RwV
variable {w w':World} {s n:Nat} {v:Value} {xs:List Value}
theorem form(h:RwV w s v n xs):∃o c,v=.slice o n c:=by
 obtain⟨o,c,e,_⟩:=h.fm;exact⟨o,c,e⟩
theorem below(h:RwV w s v n xs)(hb:Below w.heap.size w w'):RwV w' s v n xs:=by
 obtain⟨o,c,e,ha⟩:=h.fm;exact⟨h.ln,⟨o,c,e,ha.below hb⟩,h.mx⟩
theorem mod{F:Nat→Prop}(h:RwV w s v n xs)(hm:Mod F w w')(hF:∀k,n≠0→v.ownBlock=some k→¬F k):RwV w' s v n xs:=by
 obtain⟨o,c,e,ha⟩:=h.fm;refine⟨h.ln,⟨o,c,e,fun j u hu=> ?_⟩,h.mx⟩;obtain⟨g,off,rfl,hc⟩:=ha j u hu;have hg:g<w.heap.size:=by
  unfold World.cell? at hc;cases hq:w.heap[g]? with
  |none=>simp[hq] at hc
  |some o=>exact lQ hq
 refine⟨g,off,rfl, ?_⟩;rw[World.cell?_of_block (a:=⟨g,off+j,none⟩) (w:=w) (hm.block g hg (hF g (fun h0=>by
  have hl:=h.ln;rw[h0,Nat.zero_mul] at hl;have:=(List.getElem?_eq_some_iff.1 hu).1;omega) (by rw[e];rfl)))]
 exact hc
end RwV
theorem rw_at{w:World}{s n oc:Nat}{o:Option Addr}{xs:List Value}(h:RwV w s (.slice o n oc) n xs):Cl.At w o xs:=by
 obtain⟨o',c,e,ha⟩:=h.fm;simp only[Value.slice.injEq,true_and] at e;rw[e.1];exact ha
theorem rw_len{w:World}{s n:Nat}{v:Value}{xs:List Value}(h:RwV w s v n xs):n≤maxLen:=h.mx
theorem ext_cellsR{w:World}{ao:Option Addr}{ac:Nat}{l:List (Int×Int)}(h:RwV w 2 (.slice ao l.length ac) l.length (extC l)){i:Nat}{x:Int×Int}(hx:l[i]? =some x):∃g off,ao=some ⟨g,off,none⟩∧w.cell? ⟨g,off+i*2,none⟩=some (.int .u32 x.1)∧w.cell? ⟨g,off+i*2+1,none⟩=some (.int .u32 x.2):=by
 obtain⟨e1,e2⟩:=extC_at l i x hx;obtain⟨g,off,rfl,h1⟩:=rw_at h _ _ e1;obtain⟨g',off',hgo,h2⟩:=rw_at h _ _ e2;cases hgo;exact⟨g,off,rfl,h1,h2⟩
theorem u16_cellR{w:World}{ao:Option Addr}{ac:Nat}{l:List Int}(h:RwV w 1 (.slice ao l.length ac) l.length (l.map (Value.int .u16))){i:Nat}{x:Int}(hx:l[i]? =some x):∃g off,ao=some ⟨g,off,none⟩∧w.cell? ⟨g,off+i,none⟩=some (.int .u16 x):=
 rw_at h i _ (by rw[List.getElem?_map,hx];rfl)
theorem u32_cellR{w:World}{ao:Option Addr}{ac:Nat}{l:List Int}(h:RwV w 1 (.slice ao l.length ac) l.length (l.map (Value.int .u32))){i:Nat}{x:Int}(hx:l[i]? =some x):∃g off,ao=some ⟨g,off,none⟩∧w.cell? ⟨g,off+i,none⟩=some (.int .u32 x):=
 rw_at h i _ (by rw[List.getElem?_map,hx];rfl)
structure MnIn(w:World)(ev pv:Value)(m:Mn):Prop where
 e:RwV w 2 ev m.ext.length (extC m.ext)
 p:RwV w 1 pv m.ports.length (m.ports.map (Value.int .u16))
theorem MnIn.below{w w':World}{ev pv:Value}{m:Mn}(h:MnIn w ev pv m)(hb:Below w.heap.size w w'):MnIn w' ev pv m:=⟨h.e.below hb,h.p.below hb⟩
end Go.Proofs.YtnpicaigdfnmfaaGreat
