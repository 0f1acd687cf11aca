/- FzO, FzE, FzU, RcP, R19 in one text. -/
import Derived.Test.YtehihecknhcggaaGreatFtFzD
import Derived.Test.YtehihecknhcggaaGreatFtInsW
import Derived.Test.YtehihecknhcggaaGreatFtFzPut
import Derived.Test.YtehihecknhcggaaGreatFtKnG
import Derived.Test.YtehihecknhcggaaGreatFtGraG
import Derived.Test.YtehihecknhcggaaGreatFtZa
set_option linter.unusedVariables false
set_option linter.unusedSimpArgs false
set_option maxRecDepth 100000
set_option maxHeartbeats 16000000
open Go.Proofs.Tryz
namespace Go.Proofs.YtehihecknhcggaaGreat.Fz
open Go.RowKit Word
def ownL(l:List Fp):List Fp:=l.filter fun p=>p.own
def othL(l:List Fp):List Fp:=l.filter fun p=> !p.own
theorem ownL_snoc(l:List Fp)(p:Fp):ownL (l++[p])=ownL l++(if p.own=true then [p] else []):=by
 unfold ownL;rw[List.filter_append];cases h:p.own<;>simp[h]
theorem othL_snoc(l:List Fp)(p:Fp):othL (l++[p])=othL l++(if p.own=true then [] else [p]):=by
 unfold othL;rw[List.filter_append];cases h:p.own<;>simp[h]
theorem ownL_len(l:List Fp):(ownL l).length=owns l:=rfl
def givePg(E:En)(p:Fp):En:= {E with A:=Sp.putA E.A p.addr 0 p.text}
inductive OwnTo (E0:En):List Fp→En→Prop
 |nil:OwnTo E0 [] E0
 |snoc {l:List Fp} {E:En} (p:Fp) (blk:Nat) (h:OwnTo E0 l E):OwnTo E0 (l++[p]) (givePg (E.page p.addr blk) p)
theorem OwnTo.rest{E0 E:En}{l:List Fp}(h:OwnTo E0 l E):E.r=E0.r∧E.num=E0.num∧E.kind=E0.kind∧E.text=E0.text∧E.code=E0.code∧E.why=E0.why∧E.pc=E0.pc:=by
 induction h with
 |nil=>exact⟨rfl,rfl,rfl,rfl,rfl,rfl,rfl⟩
 |snoc p blk h ih=>
  unfold givePg En.page
  split
  ·exact ih
  ·exact ih
def corP(p:Fp):Int×Int×List Int:=(p.addr,p.perm,nums p.text)
def corL(l:List Fp):List (Int×Int×List Int):=l.map corP
def insC(c:Int×Int×List Int):List (Int×Int×List Int)→List (Int×Int×List Int)
 | []=>[c]
 |d::l=>if c.1<d.1 then c::d::l else d::insC c l
theorem cores_ins(p:Pg):∀A:List Pg,cores (insPg p A)=insC p.core (cores A)
 | []=>rfl
 |q::A=>by
  show cores (if p.addr<q.addr then p::q::A else q::insPg p A)=if p.core.1<q.core.1 then p.core::q.core::cores A else q.core::insC p.core (cores A)
  by_cases h:p.addr<q.addr
  ·rw[if_pos h,if_pos (show p.core.1<q.core.1 from h)];rfl
  ·rw[if_neg h,if_neg (show¬p.core.1<q.core.1 from h),←cores_ins p A];rfl
theorem insC_lt{d:Int×Int×List Int}:∀ {l:List (Int×Int×List Int)},(∀c,c∈l→d.1<c.1)→insC d l=d::l
 | [],_=>rfl
 |c::l,h=>by
  show(if d.1<c.1 then _ else _)=_
  rw[if_pos (h c (List.mem_cons_self ..))]
theorem insC_end{d:Int×Int×List Int}:∀ {l:List (Int×Int×List Int)},(∀c,c∈l→¬d.1<c.1)→insC d l=l++[d]
 | [],_=>rfl
 |c::l,h=>by
  show(if d.1<c.1 then _ else _)=_
  rw[if_neg (h c (List.mem_cons_self ..)),insC_end fun z hz=>h z (List.mem_cons_of_mem _ hz)];rfl
theorem fill_set{xs bs:List Int}{k:Nat}(hx:k<xs.length)(hb:k<bs.length):(xs.take k++bs.drop k).set k (xs.getD k 0)=xs.take (k+1)++bs.drop (k+1):=by
 have h1:bs.drop k=bs[k]::bs.drop (k+1):=List.drop_eq_getElem_cons hb;have h2:(xs.take k).length=k:=by rw[List.length_take];omega
 have h3:xs.getD k 0=xs[k]:=by rw[List.getD_eq_getElem?_getD,Zg hx];rfl
 rw[h1,h3,List.set_append_right _ _ (by omega),h2,Nat.sub_self,List.set_cons_zero,List.take_succ_eq_append_getElem hx,List.append_assoc];rfl
def fillP(a:Int)(xs:List Int)(k:Nat)(p:Pg):Pg:=if p.addr=a then {p with bytes:=xs.take k++p.bytes.drop k} else p
theorem fillP_addr(a:Int)(xs:List Int)(k:Nat)(p:Pg):(fillP a xs k p).addr=p.addr:=by unfold fillP;split<;>rfl
theorem putN_fill{A:List Pg}{a:Int}{xs:List Int}(ha:a % 256=0)(hx:xs.length=256)(hl:∀p,p∈A→p.bytes.length=256):∀k,k≤256→putN A a xs k=A.map (fillP a xs k)
 |0,_=>by
  show A=_
  have h:A.map (fillP a xs 0)=A.map id:=List.map_congr_left fun p _=>by unfold fillP;split<;>simp
  rw[h,List.map_id]
 |k+1,hk=>by
  show setByte (putN A a xs k) (a+k) (xs.getD k 0)=_
  rw[putN_fill ha hx hl k (by omega)];unfold setByte;rw[List.map_map];refine List.map_congr_left fun p hp=> ?_
  show setPg (a+k) (xs.getD k 0) (fillP a xs k p)=fillP a xs (k+1) p
  have h1:((a+(k:Int)) % 256).toNat=k:=by omega
  have h2:(a+(k:Int)) - (a+(k:Int)) % 256=a:=by omega
  unfold setPg;rw[h2,h1,fillP_addr];unfold fillP
  by_cases hq:p.addr=a
  ·rw[if_pos hq,if_pos hq,if_pos (by simpa using hq),fill_set (by omega) (by have:=hl p hp;omega)]
  ·rw[if_neg hq,if_neg hq,if_neg (by simpa using hq)]
theorem map_ins(f:Pg→Pg)(hf:∀p,(f p).addr=p.addr)(p:Pg):∀A:List Pg,(insPg p A).map f=insPg (f p) (A.map f)
 | []=>rfl
 |q::A=>by
  show(if p.addr<q.addr then p::q::A else q::insPg p A).map f=if(f p).addr<(f q).addr then f p::f q::A.map f else f q::insPg (f p) (A.map f)
  rw[hf,hf]
  split
  ·rfl
  ·rw[←map_ins f hf p A];rfl
theorem nums_bd{s:ByteArray}{x:Int}(h:x∈nums s):0≤x∧x<256:=by
 unfold nums at h;obtain⟨b,_,rfl⟩:=List.mem_map.1 h;have:=b.toNat_lt;omega
theorem map_zero{A:List Pg}{a perm:Int}(a1:a<1048576)(a2:a % 256=0)(p1:perm≤7)(hn:∀q,q∈A→q.addr≠a):Sp.mapE A a perm=0:=by
 have hpa:pageAt A a=none:=by
  unfold pageAt;rw[a2,Int.sub_zero];exact atAddr_eq_none hn
 have hm:Sp.mayB a=true:=by unfold Sp.mayB;simp[a2,a1]
 unfold Sp.mapE;rw[hpa,hm,if_neg (by simp;omega)];rfl
theorem put_one{A:List Pg}(hA:Kp.Ok A){a perm:Int}(b:Nat){s:ByteArray}(a0:0≤a)(a1:a<1048576)(a2:a % 256=0)(p0:0≤perm)(p1:perm≤7)(hs:s.size=256)(hn:∀q,q∈A→q.addr≠a):
  Kp.Ok (Sp.putA (Sp.mapA A a b perm) a 0 s)∧cores (Sp.putA (Sp.mapA A a b perm) a 0 s)=insC (a,perm,nums s) (cores A):=by
 have hma:Sp.mapA A a b perm=insPg (pgNew a b perm) A:=by unfold Sp.mapA;rw[if_pos (map_zero a1 a2 p1 hn)]
 have hok:∀bs:List Int,bs.length=256→(∀x,x∈bs→0≤x∧x<256)→Kp.Ok (insPg ⟨a,b,perm,bs⟩ A):=fun bs hl hb=>⟨fun p hp=>by
  rcases mem_insPg.1 hp with rfl|hp
  ·exact⟨a0,a1,a2,p0,p1,hl,hb⟩
  ·exact hA.ok p hp,up_insPg hA.up hn⟩
 have ho:Kp.Ok (insPg (pgNew a b perm) A):=hok _ (List.length_replicate ..) fun x hx=>by rw[List.eq_of_mem_replicate hx];omega
 have hx:(nums s).length=256:=by rw[nums_length,hs]
 have hmem:pgNew a b perm∈insPg (pgNew a b perm) A:=mem_insPg.2 (.inl rfl);have hfit:Sp.fitsB (insPg (pgNew a b perm) A) a s.size 0=true:=Kp.fits_zero fun k hk=>⟨_,Kp.page_in ho hmem k (by omega)⟩
 have hput:Sp.putA (Sp.mapA A a b perm) a 0 s=insPg ⟨a,b,perm,nums s⟩ A:=by
  rw[hma];unfold Sp.putA;rw[if_pos hfit,hs,putN_fill a2 hx (fun p hp=>(ho.ok p hp).len) 256 (Nat.le_refl _),map_ins _ (fillP_addr _ _ _)];have e1:fillP a (nums s) 256 (pgNew a b perm)=⟨a,b,perm,nums s⟩:=by
   unfold fillP pgNew;rw[if_pos rfl,List.take_of_length_le (by omega),List.drop_eq_nil_of_le (Nat.le_of_eq (List.length_replicate ..)),List.append_nil]
  have e2:A.map (fillP a (nums s) 256)=A.map id:=List.map_congr_left fun p hp=>by unfold fillP;rw[if_neg (hn p hp)];rfl
  rw[e1,e2,List.map_id]
 rw[hput];exact⟨hok _ hx fun x h=>nums_bd h,cores_ins _ _⟩
theorem ok_cores{A B:List Pg}(h:cores A=cores B)(hB:Kp.Ok B):Kp.Ok A:=by
 refine⟨fun p hp=> ?_, ?_⟩
 ·have h1:p.core∈cores B:=h▸List.mem_map_of_mem hp;obtain⟨q,hq,e⟩:=List.mem_map.1 h1;have:=hB.ok q hq;have e1:q.addr=p.addr:=congrArg (·.1) e;have e2:q.perm=p.perm:=congrArg (·.2.1) e;have e3:q.bytes=p.bytes:=congrArg (·.2.2) e;exact⟨e1▸this.a0,e1▸this.a1,e1▸this.a2,e2▸this.p0,e2▸this.p1,e3▸this.len,e3▸this.bd⟩
 ·have e:A.map Pg.addr=B.map Pg.addr:=by
   have h1:=congrArg (List.map fun c:Int×Int×List Int=>c.1) h;unfold cores at h1;rw[List.map_map,List.map_map] at h1;exact h1
  have h2:=List.pairwise_map.2 hB.up;rw[←e] at h2;exact List.pairwise_map.1 h2
theorem corL_ne{A:List Pg}{l:List Fp}{x:Int}(h:cores A=corL l)(hl:∀p,p∈l→p.addr≠x)(q:Pg)(hq:q∈A):q.addr≠x:=fun e=>by
 have h1:q.core∈corL l:=h▸List.mem_map_of_mem hq;obtain⟨z,hz,e2⟩:=List.mem_map.1 h1;exact hl z hz ((congrArg (·.1) e2:z.addr=q.addr).trans e)
structure Fp.fine(p:Fp):Prop where
 a0:0≤p.addr
 a1:p.addr<1048576
 a2:p.addr % 256=0
 p0:0≤p.perm
 p1:p.perm≤7
 t:p.text.size=256
theorem step_core{A:List Pg}{l:List Fp}(hA:Kp.Ok A)(hc:cores A=corL l){p:Fp}(hp:p.fine)(b:Nat)(hn:∀q,q∈l→q.addr≠p.addr):
  Kp.Ok (Sp.putA (Sp.mapA A p.addr b p.perm) p.addr 0 p.text)∧cores (Sp.putA (Sp.mapA A p.addr b p.perm) p.addr 0 p.text)=insC (corP p) (corL l):=by
 have h:=put_one hA b hp.a0 hp.a1 hp.a2 hp.p0 hp.p1 hp.t (corL_ne hc hn);rw[hc] at h;exact h
theorem step_end{A:List Pg}{l:List Fp}(hA:Kp.Ok A)(hc:cores A=corL l){p:Fp}(hp:p.fine)(b:Nat)(hn:∀q,q∈l→q.addr<p.addr):
  Kp.Ok (Sp.putA (Sp.mapA A p.addr b p.perm) p.addr 0 p.text)∧cores (Sp.putA (Sp.mapA A p.addr b p.perm) p.addr 0 p.text)=corL (l++[p]):=by
 have h:=step_core hA hc hp b fun q hq=>Int.ne_of_lt (hn q hq)
 rw[insC_end fun c hc=>by
  obtain⟨z,hz,rfl⟩:=List.mem_map.1 hc;have:=hn z hz
  show¬p.addr<z.addr
  omega] at h
 exact⟨h.1,by rw[h.2];unfold corL;rw[List.map_append];rfl⟩
theorem fold_core:∀(l l0:List Fp) (A:List Pg),Kp.Ok A→cores A=corL l0→(∀p,p∈l→p.fine)→(l0++l).Pairwise (fun p q=>p.addr<q.addr)→Kp.Ok (l.foldl thStep A)∧cores (l.foldl thStep A)=corL (l0++l)
 | [],l0,A,hA,hc,_,_=>by rw[List.append_nil];exact⟨hA,hc⟩
 |p::l,l0,A,hA,hc,hf,hu=>by
  have h:=step_end hA hc (hf p (List.mem_cons_self ..)) 0 fun q hq=>(List.pairwise_append.1 hu).2.2 q hq p (List.mem_cons_self ..)
  have k:=fold_core l (l0++[p]) _ h.1 h.2 (fun q hq=>hf q (List.mem_cons_of_mem _ hq)) (by rw[List.append_assoc];exact hu);rw[List.append_assoc] at k;exact k
theorem thA_core{l:List Fp}(hf:∀p,p∈l→p.fine)(hu:l.Pairwise fun p q=>p.addr<q.addr):Kp.Ok (thA l)∧cores (thA l)=corL l:=
 fold_core l [] [] ⟨fun p hp=>(by cases hp),List.Pairwise.nil⟩ rfl hf hu
theorem ins_corL{p:Fp}:∀ {l:List Fp} {P:Fp→Bool},l.Pairwise (fun p q=>p.addr<q.addr)→p∈l→P p=false→insC (corP p) (corL (l.filter P))=corL (l.filter fun q=>P q||q.addr == p.addr)
 | [],_,_,h,_=>by cases h
 |q::l,P,hp,hm,hP=>by
  obtain⟨h1,h2⟩:=List.pairwise_cons.1 hp;rcases List.mem_cons.1 hm with e|hm
  ·subst e;rw[List.filter_cons_of_neg (by simp[hP]),List.filter_cons_of_pos (by simp)];have e:(l.filter fun q=>P q||q.addr == p.addr)=l.filter P:=List.filter_congr fun z hz=>by
    have h3:=h1 z hz;have h4:(z.addr == p.addr)=false:=by rw[beq_eq_false_iff_ne];omega
    rw[h4,Bool.or_false]
   rw[e];exact insC_lt fun c hc=>by
    obtain⟨z,hz,rfl⟩:=List.mem_map.1 hc;exact h1 z (List.mem_filter.1 hz).1
  ·have hlt:=h1 p hm;cases hq:P q with
   |true=>
    rw[List.filter_cons_of_pos hq,List.filter_cons_of_pos (by simp[hq])]
    show(if p.addr<q.addr then _ else corP q::insC (corP p) (corL (l.filter P)))=corP q::corL (l.filter _)
    rw[if_neg (by omega),ins_corL h2 hm hP]
   |false=>
    have h4:(q.addr == p.addr)=false:=by rw[beq_eq_false_iff_ne];omega
    rw[List.filter_cons_of_neg (by simp[hq]),List.filter_cons_of_neg (by simp[hq,h4]),ins_corL h2 hm hP]
theorem up_eq:∀ {l:List Fp},l.Pairwise (fun p q=>p.addr<q.addr)→∀ {p q:Fp},p∈l→q∈l→p.addr=q.addr→p=q
 | [],_,_,_,h,_,_=>by cases h
 |z::l,hp,p,q,h1,h2,e=>by
  obtain⟨g1,g2⟩:=List.pairwise_cons.1 hp;rcases List.mem_cons.1 h1 with k1|k1
  ·rcases List.mem_cons.1 h2 with k2|k2
   ·rw[k1,k2]
   ·have:=g1 q k2;rw[←k1] at this;omega
  ·rcases List.mem_cons.1 h2 with k2|k2
   ·have:=g1 p k1;rw[←k2] at this;omega
   ·exact up_eq g2 k1 k2 e
theorem Fr.fine{x:Fr}(ho:x.ok)(hm:x.may){p:Fp}(hp:p∈x.sp):p.fine:=
 ⟨(ho.s p hp).1.1,(hm.pg p hp).2.1,(hm.pg p hp).1,(ho.s p hp).2.1,(hm.pg p hp).2.2.1,(hm.pg p hp).2.2.2.1⟩
theorem OwnTo.law{x:Fr}(ho:x.ok)(hm:x.may){num:Int}{C:List Pg}(hC:Kp.Ok C)(hc:cores C=corL (othL x.sp)){l:List Fp}{E:En}(h:OwnTo (En.new num x.pc C) l E):
  ∀r,ownL x.sp=l++r→Kp.Ok E.A∧cores E.A=corL (x.sp.filter fun q=> !q.own||l.any fun p=>q.addr == p.addr)∧E.own=l.map Fp.addr:=by
 induction h with
 |nil=>
  intro r _;refine⟨hC, ?_,rfl⟩
  show cores C=_
  rw[hc];unfold othL;simp only[List.any_nil,Bool.or_false]
 | @snoc l E p blk h ih=>
  intro r hr;obtain⟨i1,i2,i3⟩:=ih (p::r) (by rw[hr,List.append_assoc];rfl);have hpo:p∈ownL x.sp:=by rw[hr];simp
  obtain⟨hps,hown⟩:=List.mem_filter.1 hpo;have hup:(ownL x.sp).Pairwise fun p q=>p.addr<q.addr:=hm.up.filter _
  rw[hr] at hup;have hlt:∀z,z∈l→z.addr<p.addr:=fun z hz=>(List.pairwise_append.1 (List.pairwise_append.1 hup).1).2.2 z hz p (List.mem_singleton.2 rfl)
  have hP:(!p.own||l.any fun z=>p.addr == z.addr)=false:=by
   rw[show p.own=true from hown,Bool.not_true,Bool.false_or];rw[List.any_eq_false];intro z hz;have:=hlt z hz
   simp
   omega
  have hpf:=Fr.fine ho hm hps;have hmy:=(hm.pg p hps).2.2.2.2;have hp3:p.perm=3∧256≤p.addr:=by
   rcases hmy with q|q
   ·rw[show p.own=true from hown] at q;cases q
   ·exact q
  have hn:∀q,q∈(x.sp.filter fun q=> !q.own||l.any fun p=>q.addr == p.addr)→q.addr≠p.addr:=fun q hq e=>by
   obtain⟨q1,q2⟩:=List.mem_filter.1 hq;have:=up_eq hm.up q1 hps e;subst this;rw[hP] at q2;cases q2
  have hk:=h.rest;have hk2:E.kind=2:=hk.2.2.1;have hmp:En.mayP p.addr=true:=by
   unfold En.mayP;have:=hpf.a1;have:=hpf.a2
   simp
   omega
  have hme:E.mayE p.addr=0:=by unfold En.mayE;rw[if_neg (by omega),hmp];rfl
  have hz:Sp.mapE E.A p.addr 3=0:=map_zero hpf.a1 hpf.a2 (by omega) (corL_ne i2 hn);have hpe:E.pageE p.addr=0:=by unfold En.pageE;rw[if_neg (by omega),hz]
  have hpg:givePg (E.page p.addr blk) p= {E with A:=Sp.putA (Sp.mapA E.A p.addr blk p.perm) p.addr 0 p.text,own:=En.ins p.addr E.own}:=by
   unfold givePg En.page;rw[if_neg (by omega),hp3.1]
  rw[hpg];have hs:=step_core i1 i2 hpf blk hn;refine⟨hs.1, ?_, ?_⟩
  ·show cores (Sp.putA (Sp.mapA E.A p.addr blk p.perm) p.addr 0 p.text)=_
   rw[hs.2,ins_corL hm.up hps hP]
   congr 1
   refine List.filter_congr fun q _=> ?_
   rw[List.any_append,Bool.or_assoc]
   simp
  ·show En.ins p.addr E.own=_
   rw[i3];have g:=En.ins_ahead (x:=p.addr) (l:=l.map Fp.addr) (m:=[]) fun z hz=>by
    obtain⟨y,hy,rfl⟩:=List.mem_map.1 hz;have:=hlt y hy;omega
   rw[List.append_nil] at g;rw[g,List.map_append];rfl
def thX(x:Fr)(E:En):En:=({E with r:=Cp.regsK (fun i=>x.r i) 16}:En).put x.text
def thF(num:Int)(x:Fr)(A:List Pg):En:=⟨num,2,0,0,x.text,(ownL x.sp).map Fp.addr,A,Cp.regsK (fun i=>x.r i) 16,x.pc⟩
theorem empty_app(s:ByteArray):ByteArray.empty++s=s:=by
 apply ByteArray.ext
 rw[ByteArray.data_append]
 simp
theorem thX_law{x:Fr}(ho:x.ok)(hm:x.may){num:Int}{C:List Pg}(hc:cores C=cores (thA (othL x.sp))){E:En}(h:OwnTo (En.new num x.pc C) (ownL x.sp) E):
  cores E.A=corL x.sp∧thX x E=thF num x E.A:=by
 have hth:=thA_core (l:=othL x.sp) (fun p hp=>Fr.fine ho hm (List.mem_filter.1 hp).1) (hm.up.filter _);obtain⟨h1,h2,h3⟩:=h.law ho hm (ok_cores hc hth.1) (hc.trans hth.2) [] (List.append_nil _).symm;obtain⟨r1,r2,r3,r4,r5,r6,r7⟩:=h.rest;have ht:E.text=ByteArray.empty:=r4;have hf:(x.sp.filter fun q=> !q.own||(ownL x.sp).any fun p=>q.addr == p.addr)=x.sp:=by
  rw[List.filter_eq_self];intro q hq;cases ho:q.own with
  |false=>rfl
  |true=>
   rw[Bool.not_true,Bool.false_or,List.any_eq_true];exact⟨q,List.mem_filter.2 ⟨hq,ho⟩,by simp⟩
 rw[hf] at h2;refine⟨h2, ?_⟩;have hz:({E with r:=Cp.regsK (fun i=>x.r i) 16}:En).putE x.text=0:=by
  unfold En.putE;have e1:({E with r:=Cp.regsK (fun i=>x.r i) 16}:En).kind=2:=r3;have e2:({E with r:=Cp.regsK (fun i=>x.r i) 16}:En).text=ByteArray.empty:=ht;rw[if_neg (by omega),e2,if_neg (by have:=hm.tx;show¬4096<0+_;omega)]
 unfold thX En.put;rw[if_neg (by omega)];unfold thF;have e:E=⟨E.num,E.kind,E.code,E.why,E.text,E.own,E.A,E.r,E.pc⟩:=rfl
 show(⟨E.num,E.kind,E.code,E.why,E.text++x.text,E.own,E.A,Cp.regsK (fun i=>x.r i) 16,E.pc⟩:En)=_
 rw[r2,r3,r5,r6,r7,ht,h3,empty_app];rfl
end Go.Proofs.YtehihecknhcggaaGreat.Fz
namespace Go.Proofs.YtehihecknhcggaaGreat.Fz
open Go.RowKit In Word
theorem results_box1{P:Program}{fn:Func}{c:Nat}{t:TypeId}{p:Addr}{tmps:Array Value}{v:Value}{w:World}(hr:fn.results= #[.cell c t])(ha:tmps.getD c undef=.pointer (some p))(hv:(loadVar t p).run P w=.ok v w):
  (results fn tmps).run P w=.ok v w:=by
 rw[Array.getD_eq_getD_getElem?] at ha;unfold results;rw[hr,←hv];simp[go_sem,ha]
def CopyD(w:World)(x:Fr)(e:Ending)(w':World):Prop:=∃ev pv sv,e=.returned (.agg (x.arr ev pv sv))∧FrIn w' x ev pv sv∧Below w.heap.size w w'
theorem thF_ok{x:Fr}(ho:x.ok)(hm:x.may){A:List Pg}(hA:cores A=corL x.sp)(num:Int):(thF num x A).Ok:=by
 have hin:∀y,y∈(ownL x.sp).map Fp.addr→∃p,p∈x.sp∧p.own=true∧p.addr=y:=fun y hy=>by
  obtain⟨p,hp,e⟩:=List.mem_map.1 hy;obtain⟨h1,h2⟩:=List.mem_filter.1 hp;exact⟨p,h1,h2,e⟩
 refine⟨List.pairwise_map.2 (hm.up.filter _),fun y hy=> ?_,fun y hy=> ?_,hm.tx⟩
 ·obtain⟨p,h1,h2,rfl⟩:=hin y hy;obtain⟨q1,q2,q3,q4,q5⟩:=hm.pg p h1;rcases q5 with q|q
  ·rw[h2] at q;cases q
  ·exact⟨q1,q.2,q2⟩
 ·obtain⟨p,h1,h2,rfl⟩:=hin y hy
  show(atAddr A p.addr).isSome=true
  cases hq:atAddr A p.addr with
  |some _=>rfl
  |none=>
   have h3:corP p∈cores A:=by rw[hA];exact List.mem_map_of_mem h1
   obtain⟨q,hqm,e⟩:=List.mem_map.1 h3;exact absurd (congrArg (·.1) e:q.addr=p.addr) (atAddr_none hq q hqm)
theorem regsK_ok{x:Fr}(ho:x.ok):Cp.Regs (Cp.regsK (fun i=>x.r i) 16):=by
 refine⟨by simp[Cp.regsK],fun v hv=> ?_⟩;unfold Cp.regsK at hv;obtain⟨i,_,rfl⟩:=List.mem_map.1 hv
 split
 ·exact ho.r i
 ·omega
def regA(x:Fr):Array Value:= #[.int .u32 (x.r 0),.int .u32 (x.r 1),.int .u32 (x.r 2),.int .u32 (x.r 3),.int .u32 (x.r 4),.int .u32 (x.r 5),.int .u32 (x.r 6),.int .u32 (x.r 7),.int .u32 (x.r 8),.int .u32 (x.r 9),.int .u32 (x.r 10),.int .u32 (x.r 11),.int .u32 (x.r 12),.int .u32 (x.r 13),.int .u32 (x.r 14),.int .u32 (x.r 15)]
theorem regA_eq{x:Fr}(h0:x.r 0=0):(Cp.regsK (fun i=>x.r i) 16).map (Value.int .u32)=(regA x).toList:=by
 have e:Cp.regsK (fun i=>x.r i) 16=[0,x.r 1,x.r 2,x.r 3,x.r 4,x.r 5,x.r 6,x.r 7,x.r 8,x.r 9,x.r 10,x.r 11,x.r 12,x.r 13,x.r 14,x.r 15]:=rfl;rw[e];unfold regA;rw[h0];rfl
theorem regA_range{w:World}{xb:Nat}{x:Fr}{ev pv sv:Value}(h:FBox w xb x ev pv sv):w.rangeAt xb 4 (regA x).toList:=fun j v hv=>by
 have hj:j<16:=(List.getElem?_eq_some_iff.1 hv).1;rw[h.cell (4+j) _ (arr_getr _ _ _ _ j hj),←hv]
 match j,hj with
 |0,_=>rfl
 |1,_=>rfl
 |2,_=>rfl
 |3,_=>rfl
 |4,_=>rfl
 |5,_=>rfl
 |6,_=>rfl
 |7,_=>rfl
 |8,_=>rfl
 |9,_=>rfl
 |10,_=>rfl
 |11,_=>rfl
 |12,_=>rfl
 |13,_=>rfl
 |14,_=>rfl
 |15,_=>rfl
theorem regs_sets(x:Fr)(pc:Int):setsIn (Cp.cells (List.replicate 16 0) pc) 0 (regA x).toList=((regA x).toList++[Value.int .u32 pc]).toArray:=by kernel_rfl
theorem ren_fin{w:World}{a:RAt}{R:List Rp}{num:Int}{x:Fr}(ho:x.ok)(hm:x.may)(h:Renv w a R (En.new num x.pc (rpgs R)))(hc:cores (rpgs R)=corL x.sp){v:Value}(hl:Sl.Lst w v ((ownL x.sp).map Fp.addr))(hv:∀b,v.ownBlock=some b→b<w.heap.size∧¬a.foot R b):
  Renv (((w.setCells a.cb 0 (regA x).toList).setCell ⟨a.eb,6,none⟩ v).setCell ⟨a.eb,7,none⟩ (.string x.text)) {a with ow:=v} R (thF num x (rpgs R))∧Mod (a.foot R) w (((w.setCells a.cb 0 (regA x).toList).setCell ⟨a.eb,6,none⟩ v).setCell ⟨a.eb,7,none⟩ (.string x.text)):=by
 obtain⟨c1,c2⟩:=setCells_block (regA x).toList 0 w _ h.cp.blk;have hr:(En.new num x.pc (rpgs R)).r=List.replicate 16 0:=rfl;rw[hr,regs_sets] at c1;have hec:=h.ec;obtain⟨w1,hw1⟩:∃y,w.setCells a.cb 0 (regA x).toList=y:=⟨_,rfl⟩;rw[hw1] at c1 c2⊢;have b0:=(c2.block _ (lQ h.blk) hec).trans h.blk;have b1:=heap_setCell_same w1 a.eb 6 _ _ v b0;have b2:=heap_setCell_same _ a.eb 7 _ _ (.string x.text) b1;have hm2:Mod (fun i=>i=a.eb) w1 ((w1.setCell ⟨a.eb,6,none⟩ v).setCell ⟨a.eb,7,none⟩ (.string x.text)):=Mod.setCell (F:=fun i=>i=a.eb) (Mod.setCell (F:=fun i=>i=a.eb) (Mod.refl _ _) ⟨a.eb,6,none⟩ (.inl rfl) _) ⟨a.eb,7,none⟩ (.inl rfl) _;have hm3:Mod (fun i=>i=a.cb∨i=a.eb) w ((w1.setCell ⟨a.eb,6,none⟩ v).setCell ⟨a.eb,7,none⟩ (.string x.text)):=(c2.mono fun _ _ q=>.inl q).trans hm2 fun i _ q=>.inl (.inr q)
 generalize (w1.setCell ⟨a.eb,6,none⟩ v).setCell ⟨a.eb,7,none⟩ (.string x.text)=w2 at*;have hn:∀ {b},v.ownBlock=some b→b≠a.eb∧b≠a.cb∧¬Rsp.foot a.rb a.lv R b:=fun hb=>⟨fun e=>(hv _ hb).2 (.inl e),fun e=>(hv _ hb).2 (.inr (.inl e)),fun e=>(hv _ hb).2 (.inr (.inr (.inl e)))⟩
 refine⟨{blk:=b2,cp:=⟨?_,regsK_ok ho,ho.c.1,ho.c.2⟩,rp:=h.rp.keep hm3 fun k hk q=>q.elim (fun z=>h.cs (z▸hk)) fun z=>h.es (z▸hk),eq:=rfl,ls:=hl.keep hm3 (fun b hb=>(hv b hb).1) fun b hb q=>q.elim (hn hb).2.1 (hn hb).1,ec:=hec,es:=h.es,cs:=h.cs,le:=fun b hb=>⟨Nat.lt_of_lt_of_le (hv b hb).1 hm3.size,hn hb⟩,ok:=thF_ok ho hm hc num},hm3.mono fun i _ q=>q.elim (fun z=>.inr (.inl z)) .inl⟩;have e1:Cp.cells (Cp.regsK (fun i=>x.r i) 16) x.pc=((regA x).toList++[Value.int .u32 x.pc]).toArray:=by
  unfold Cp.cells;rw[regA_eq hm.r0]
 show w2.heap[a.cb]? =some (.cells (Cp.cells (Cp.regsK (fun i=>x.r i) 16) x.pc) _ (0,0))
 rw[e1];exact(hm2.block _ (lQ c1) fun e=>hec e.symm).trans c1
theorem copyD{w:World}{x:Fr}{ev pv sv:Value}(hx:FrV w x ev pv sv)(he:x.m.ext.length≤2000000)(hp:x.m.ports.length≤2000000)(hl:x.sp.length≤70000):
  Calls Tryz.prog 25 #[.agg (x.arr ev pv sv)] w (CopyD w x):=by
 obtain⟨so,sc,rfl⟩:=hx.s.form;have hb:Below w.heap.size w (w.alloc (.cells (x.arr ev pv (.slice so x.sp.length sc)) 52)):=Ba _;have hbx:FBox (w.alloc (.cells (x.arr ev pv (.slice so x.sp.length sc)) 52)) w.heap.size x ev pv (.slice so x.sp.length sc):=heap_alloc_new w _;obtain⟨w1,hw1⟩:∃y,w.alloc (.cells (x.arr ev pv (.slice so x.sp.length sc)) 52)=y:=⟨_,rfl⟩;obtain⟨xb,hxb⟩:∃y,w.heap.size=y:=⟨_,rfl⟩;have hz1:w1.heap.size=w.heap.size+1:=by rw[←hw1];simp
 rw[hw1] at hb hbx;rw[hxb] at hbx hz1;unfold Fr.arr at hw1⊢;go_enter func25,ntmps25;go_upto_region 1 with(fail);have hz:FBox (w1.alloc (.cells (zeroFr.arr nl nl nl) 52)) w1.heap.size zeroFr nl nl nl:=heap_alloc_new w1 _;have hb2:Below w1.heap.size w1 (w1.alloc (.cells (zeroFr.arr nl nl nl) 52)):=Ba _;have hx2:FBox (w1.alloc (.cells (zeroFr.arr nl nl nl) 52)) xb x ev pv (.slice so x.sp.length sc):=(hb2.block _ (lQ hbx)).trans hbx;rw[hz1] at hz;refine(fun(F:∀V,FBox V (xb+1) zeroFr nl nl nl→FBox V xb x ev pv (.slice so x.sp.length sc)→Below w1.heap.size w1 V→Code.wp _ _ _ _ V)=>F _ hz hx2 hb2) ?_;clear hz hx2 hb2 hw1;intro w2 hz hx2 hb2;have hb02:=bQ hb hb2;have hcp:=R11.copy (hx.below hb02).m he hp;unfold Mn.cells at hcp;have HCp:=Lh hcp;have c0:w2.cell? ⟨xb,0,none⟩=some (.int .u32 x.m.pages):=hx2.cell 0 _ rfl;have c1:w2.cell? ⟨xb,1,none⟩=some (ev):=hx2.cell 1 _ rfl;have c2:w2.cell? ⟨xb,2,none⟩=some (pv):=hx2.cell 2 _ rfl;have c3:w2.cell? ⟨xb,3,none⟩=some (.bool x.m.con):=hx2.cell 3 _ rfl;have HX:=Lh (And.intro hx2 (And.intro hz hb02));have HIn:=Lh fun V (hV:Below w.heap.size w V)=>(hx.below hV).s
 have HL:=Lh hl;have HXb:=Lh hxb;clear hcp hz hx2 hb2 hb02 hb hbx hx hl he hp hxb;go_wp2_with fail;refine HCp.out.mono ?_;rintro r w3 ⟨ev1,pv1,rfl,hm3,ho3,hb3⟩;obtain⟨eo1,ec1,rfl⟩:=hm3.e.form;obtain⟨po1,pc1,rfl⟩:=hm3.p.form;have hx3:FBox w3 xb x ev pv (.slice so x.sp.length sc):=HX.out.1.keep (Mod.of_below hb3 fun _=>False) id;have hz3:FBox w3 (xb+1) zeroFr nl nl nl:=HX.out.2.1.keep (Mod.of_below hb3 fun _=>False) id;have hb03:=bQ HX.out.2.2 hb3;have hlx:=lQ hx3;obtain⟨W4,hW4⟩:∃y,y=(((w3.setCell ⟨xb,0,none⟩ (.int .u32 x.m.pages)).setCell ⟨xb,1,none⟩ (.slice eo1 x.m.ext.length ec1)).setCell ⟨xb,2,none⟩ (.slice po1 x.m.ports.length pc1)).setCell ⟨xb,3,none⟩ (.bool x.m.con):=⟨_,rfl⟩;have hx4:FBox W4 xb x (.slice eo1 x.m.ext.length ec1) (.slice po1 x.m.ports.length pc1) (.slice so x.sp.length sc):=by
  rw[hW4];have g0:=hx3.set (y:=x) (ev':=ev) (pv':=pv) (sv':=.slice so x.sp.length sc) 0 (.int .u32 x.m.pages) rfl;have g1:=g0.set (y:=x) (ev':=.slice eo1 x.m.ext.length ec1) (pv':=pv) (sv':=.slice so x.sp.length sc) 1 (.slice eo1 x.m.ext.length ec1) rfl;have g2:=g1.set (y:=x) (ev':=.slice eo1 x.m.ext.length ec1) (pv':=.slice po1 x.m.ports.length pc1) (sv':=.slice so x.sp.length sc) 2 (.slice po1 x.m.ports.length pc1) rfl;exact g2.set (y:=x) (ev':=.slice eo1 x.m.ext.length ec1) (pv':=.slice po1 x.m.ports.length pc1) (sv':=.slice so x.sp.length sc) 3 (.bool x.m.con) rfl
 have hm4:Mod (fun k=>k=xb) w3 W4:=by
  rw[hW4];exact Mod.setCell (F:=fun k=>k=xb) (Mod.setCell (F:=fun k=>k=xb) (Mod.setCell (F:=fun k=>k=xb) (Mod.setCell (F:=fun k=>k=xb) (Mod.refl _ _) ⟨xb,0,none⟩ (.inl rfl) _) ⟨xb,1,none⟩ (.inl rfl) _) ⟨xb,2,none⟩ (.inl rfl) _) ⟨xb,3,none⟩ (.inl rfl) _
 have hz4:=hz3.keep hm4 (by omega);have hb04:Below w.heap.size w W4:=Mod.below hb03 hm4 hb03.size fun i _ q=>by rw[q];exact Nat.le_of_eq HXb.out
 have hn3:∀ {g},(Value.slice eo1 x.m.ext.length ec1).ownBlock=some g∨(Value.slice po1 x.m.ports.length pc1).ownBlock=some g→g<w3.heap.size∧xb+1<g:=fun hg=>by
  have h1:=ho3 _ hg;have h2:=lQ HX.out.2.1;omega
 have hm4':MnAt W4 (.slice eo1 x.m.ext.length ec1) (.slice po1 x.m.ports.length pc1) x.m:=⟨hm3.e.keep fun g hg=>hm4.block g (hn3 (.inl hg)).1 (by have:=(hn3 (.inl hg)).2;omega),hm3.p.keep fun g hg=>hm4.block g (hn3 (.inr hg)).1 (by have:=(hn3 (.inr hg)).2;omega)⟩;obtain⟨o5,k5,W5,hr5,hs5,hb5,ho5⟩:=app_pg (HIn.out W4 hb04) HL.out;have hx5:FBox W5 xb x (.slice eo1 x.m.ext.length ec1) (.slice po1 x.m.ports.length pc1) (.slice so x.sp.length sc):=hx4.keep (Mod.of_below hb5 fun _=>False) id;have hz5:FBox W5 (xb+1) zeroFr nl nl nl:=hz4.keep (Mod.of_below hb5 fun _=>False) id;have hm5:=hm4'.below hb5;have hb05:=bQ hb04 hb5;have hx6:FBox (W5.setCell ⟨xb,21,none⟩ (.slice o5 x.sp.length k5)) xb x (.slice eo1 x.m.ext.length ec1) (.slice po1 x.m.ports.length pc1) (.slice o5 x.sp.length k5):=hx5.set 21 _ rfl;have hm6:Mod (fun k=>k=xb) W5 (W5.setCell ⟨xb,21,none⟩ (.slice o5 x.sp.length k5)):=Mod.setCell (F:=fun k=>k=xb) (Mod.refl _ _) ⟨xb,21,none⟩ (.inl rfl) _;have hz6:=hz5.keep hm6 (by omega);have hs45:=hm4.size;have h45:=hb5.size;have hin6:FrIn (W5.setCell ⟨xb,21,none⟩ (.slice o5 x.sp.length k5)) x (.slice eo1 x.m.ext.length ec1) (.slice po1 x.m.ports.length pc1) (.slice o5 x.sp.length k5):=⟨⟨hm5.e.keep fun g hg=>hm6.block g (by have:=(hn3 (.inl hg)).1;omega) (by have:=(hn3 (.inl hg)).2;omega),hm5.p.keep fun g hg=>hm6.block g (by have:=(hn3 (.inr hg)).1;omega) (by have:=(hn3 (.inr hg)).2;omega)⟩,hs5.keep fun g hg=>hm6.block g (ho5 g hg).2 (by have:=(ho5 g hg).1;omega)⟩;have hb06:Below w.heap.size w (W5.setCell ⟨xb,21,none⟩ (.slice o5 x.sp.length k5)):=Mod.below hb05 hm6 hb05.size fun i _ q=>by rw[q];exact Nat.le_of_eq HXb.out
 have hst:=hz6.sets x (.slice eo1 x.m.ext.length ec1) (.slice po1 x.m.ports.length pc1) (.slice o5 x.sp.length k5);have hend:CopyD w x (.returned (.agg (x.arr (.slice eo1 x.m.ext.length ec1) (.slice po1 x.m.ports.length pc1) (.slice o5 x.sp.length k5)))) ((W5.setCell ⟨xb,21,none⟩ (.slice o5 x.sp.length k5)).setCells (xb+1) 0 (x.arr (.slice eo1 x.m.ext.length ec1) (.slice po1 x.m.ports.length pc1) (.slice o5 x.sp.length k5)).toList):=by
  have hsz:(W5.setCell ⟨xb,21,none⟩ (.slice o5 x.sp.length k5)).heap.size=W5.heap.size:=by simp[World.setCell]
  refine⟨_,_,_,rfl,⟨⟨hin6.m.e.keep fun g hg=>hst.2.block g (by have:=(hn3 (.inl hg)).1;omega) (by have:=(hn3 (.inl hg)).2;omega),hin6.m.p.keep fun g hg=>hst.2.block g (by have:=(hn3 (.inr hg)).1;omega) (by have:=(hn3 (.inr hg)).2;omega)⟩,hin6.s.keep fun g hg=>hst.2.block g (by have:=(ho5 g hg).2;omega) (by have h1:=(ho5 g hg).1;have h2:=lQ hz4;omega)⟩,Mod.below hb06 hst.2 hb06.size fun i _ q=>by have:=HXb.out;omega⟩
 have hres:=hst.1.result;have c0:w3.cell? ⟨xb,0,none⟩=some (.int .u32 x.m.pages):=hx3.cell 0 _ rfl;have c1:w3.cell? ⟨xb,1,none⟩=some (ev):=hx3.cell 1 _ rfl;have c2:w3.cell? ⟨xb,2,none⟩=some (pv):=hx3.cell 2 _ rfl;have c3:w3.cell? ⟨xb,3,none⟩=some (.bool x.m.con):=hx3.cell 3 _ rfl;have c21:w3.cell? ⟨xb,21,none⟩=some (.slice so x.sp.length sc):=hx3.cell 21 _ rfl;have f0:=hx3.thaw 0;have f1:=hx3.thaw 1;have f2:=hx3.thaw 2;have f3:=hx3.thaw 3;have d21:W5.cell? ⟨xb,21,none⟩=some (.slice so x.sp.length sc):=hx5.cell 21 _ rfl;have e21:=hx5.thaw 21;have HRun:=Lh hr5;have HRa:=Lh hx6.range;have HSi:=Lh (fz_sizeL x (.slice eo1 x.m.ext.length ec1) (.slice po1 x.m.ports.length pc1) (.slice o5 x.sp.length k5));have HTh:=Lh hz6.there;have HEnd:=Lh (And.intro hend hres);rw[hW4] at HRun;clear hend hres hr5 hx3 hz3 hb03 hlx hW4 hx4 hm4 hz4 hb04 hn3 hm4' hs5 hb5 ho5 hx5 hz5 hm5 hb05 hx6 hm6 hz6 hs45 h45 hin6 hb06 hst hm3 ho3 hb3 HCp HX HIn;unfold Mn.cells;go_upto_region 3 with(at_builtin;refine R11.wpList_append_run rfl _ _ _ rfl rfl rfl HRun.out ?_);refine(fun(F:∀V,V=W5.setCell ⟨xb,21,none⟩ (.slice o5 x.sp.length k5)→Code.wp _ _ _ _ V)=>F _ rfl) ?_;intro W6 hW6;rw[←hW6] at HRa HTh HEnd;clear hW6 c0 c1 c2 c3 c21 f0 f1 f2 f3 d21 e21 HRun;go_step;refine wpList_load_mid rfl 52 (.tmp 1) rfl xb 0 rfl _ _ HRa.out Tryz.underlying52 rfl HSi.out ?_;rw[Array.toArray_toList];refine wpList_store_mid rfl 52 (.tmp 2) (.tmp 11) rfl (xb+1) 0 (x.arr (.slice eo1 x.m.ext.length ec1) (.slice po1 x.m.ports.length pc1) (.slice o5 x.sp.length k5)) rfl rfl HTh.out (fz_size _ _ _ _) (by kernel_rfl) ?_;refine(fun(F:∀V,CopyD w x (.returned (.agg (x.arr (.slice eo1 x.m.ext.length ec1) (.slice po1 x.m.ports.length pc1) (.slice o5 x.sp.length k5)))) V→(loadVar 52 ⟨xb+1,0,none⟩).run Tryz.prog V=.ok (.agg (x.arr (.slice eo1 x.m.ext.length ec1) (.slice po1 x.m.ports.length pc1) (.slice o5 x.sp.length k5))) V→wpList _ _ _ _ _ V)=>F _ HEnd.out.1 HEnd.out.2) ?_;intro V hend hres;go_wp2;exact bodyPost_ret (results_box1 Tryz.results25 rfl hres) rfl hend
end Go.Proofs.YtehihecknhcggaaGreat.Fz
namespace Go.Proofs.YtehihecknhcggaaGreat.Fz
open Go.RowKit Word
def pgN(x:Fr):Int:=(x.sp.length:Int) - owns x.sp
def takeN:Nat→Option Gr→Option Gr
 |0,g=>g
 |i+1,g=>Gp.take (takeN i g)
def Ktk(K:Kn)(n:Int)(i:Nat):Kn:= {K with g:=Gp.upd K.g n (takeN i (K.g n))}
theorem Ktk_zero(K:Kn)(n:Int):Ktk K n 0=K:=by unfold Ktk takeN;rw[Gp.upd_same]
theorem Ktk_succ(K:Kn)(n:Int)(i:Nat): {Ktk K n i with g:=Gp.upd (Ktk K n i).g n (Gp.take ((Ktk K n i).g n))}=Ktk K n (i+1):=by
 unfold Ktk;simp only[Gp.upd_at,takeN]
 congr 1
 funext k
 by_cases e:k=n
 ·subst e;rw[Gp.upd_at,Gp.upd_at]
 ·rw[Gp.upd_ne _ _ e,Gp.upd_ne _ _ e,Gp.upd_ne _ _ e]
def tnRel(w6:World)(a6:KAt)(K6:Kn)(num:Int)(m:Nat)(vi:Value)(wr:World):Prop:=∃i:Nat,i≤m∧vi=.int .i64 i∧KStep w6 wr a6 K6 a6 (Ktk K6 num i)
theorem EAt.foot_spc{e:EAt}{A:List Pg}{k:Nat}(h:Spc.foot e.sb e.mb A k):e.foot A k:=by
 unfold EAt.foot;simp only[h,true_or,or_true]
def ogRel(w7:World)(e0:EAt)(E0:En)(l:List Fp)(vi:Value)(wr:World):Prop:=∃(i:Nat) (e:EAt) (E:En),i≤l.length∧vi=.int .i64 i∧EStep w7 wr e0 E0 e E∧e.eb=e0.eb∧OwnTo E0 (l.take i) E
def ThawG(w:World)(a:KAt)(K:Kn)(num:Int)(x:Fr)(r:Ending)(w':World):Prop:=
 (Ca.grantE K.hp K.hx K.g num x.m (pgN x)≠0∧r=.returned (.tuple #[.pointer none,.int .i64 (Ca.grantE K.hp K.hx K.g num x.m (pgN x))])∧Below w.heap.size w w')∨
 (Ca.grantE K.hp K.hx K.g num x.m (pgN x)=0∧∃a' e A,r=.returned (.tuple #[.pointer (some ⟨e.eb,0,none⟩),.int .i64 0])∧KStep w w' a K a' (Ktk {K with g:=Gp.upd K.g num (some ⟨x.m,pgN x,0⟩)} num (owns x.sp))∧Env w' e (thF num x A)∧cores A=corL x.sp∧∀k,e.foot A k→w.heap.size≤k∧a'.tag k=0)
def thRelG(w2:World)(sb mb:Nat)(l:List Fp)(vo vi:Value)(wr:World):Prop:=∃(i:Nat) (A:List Pg) (o:Option Addr) (c:Nat),i≤l.length∧vi=.int .i64 i∧vo=.slice o (ownL (l.take i)).length c∧SlV wr 151 4 (.slice o (ownL (l.take i)).length c) (ownL (l.take i)).length (pgC (ownL (l.take i)))∧(∀k,(Value.slice o (ownL (l.take i)).length c).ownBlock=some k→w2.heap.size≤k∧k<wr.heap.size∧¬Spc.foot sb mb A k)∧Sp.Own w2 wr sb mb A∧cores A=cores (thA (othL (l.take i)))
theorem thawG{w:World}{a:KAt}{K:Kn}(h:Knl w a K)(hp1:K.hp≤4096)(hl:K.hx.length≤16){x:Fr}{ev pv sv:Value}(hx:FrIn w x ev pv sv)(ho:x.ok)(hm:x.may)(hlen:x.sp.length≤65536)(num:Int):
  Calls Tryz.prog 24 #[.pointer (some ⟨a.kb,0,none⟩),.int .i64 num,.agg (x.arr ev pv sv)] w (ThawG w a K num x):=by
 obtain⟨so,sc,rfl⟩:=hx.s.form;obtain⟨eo,ec,rfl⟩:=hx.m.e.form;obtain⟨po,pc,rfl⟩:=hx.m.p.form;have hb:Below w.heap.size w (w.alloc (.cells (x.arr (.slice eo x.m.ext.length ec) (.slice po x.m.ports.length pc) (.slice so x.sp.length sc)) 52)):=Ba _;have hbx:FBox (w.alloc (.cells (x.arr (.slice eo x.m.ext.length ec) (.slice po x.m.ports.length pc) (.slice so x.sp.length sc)) 52)) w.heap.size x (.slice eo x.m.ext.length ec) (.slice po x.m.ports.length pc) (.slice so x.sp.length sc):=heap_alloc_new w _;have HTg:Hid (∀k,w.heap.size≤k→a.tag k=0):=Lh fun k hk=>Decidable.byContradiction fun g=>absurd (h.lt _ g) (by omega)
 obtain⟨w1,hw1⟩:∃y,w.alloc (.cells (x.arr (.slice eo x.m.ext.length ec) (.slice po x.m.ports.length pc) (.slice so x.sp.length sc)) 52)=y:=⟨_,rfl⟩;obtain⟨xb,hxb⟩:∃y,w.heap.size=y:=⟨_,rfl⟩;rw[hw1] at hb hbx;rw[hxb] at hbx;have HXb:=Lh hxb;have HB:=Lh hb;have HKn:=Lh h;have HAll:Hid (∀V,Below w1.heap.size w1 V→FBox V xb x (.slice eo x.m.ext.length ec) (.slice po x.m.ports.length pc) (.slice so x.sp.length sc)∧FrIn V x (.slice eo x.m.ext.length ec) (.slice po x.m.ports.length pc) (.slice so x.sp.length sc)∧Knl V a K):=Lh fun V hV=>⟨hbx.keep (Mod.of_below hV fun _=>False) id,hx.below (bQ hb hV),h.below (bQ hb hV)⟩
 have HCk:=Lh (check (hx.below hb) ho hm (by omega));have HRa:=Lh hbx.range;have HSi:=Lh (fz_sizeL x (.slice eo x.m.ext.length ec) (.slice po x.m.ports.length pc) (.slice so x.sp.length sc));have HO:=Lh ho;have HM:=Lh hm;have HL:=Lh hlen;have HKb:=Lh (And.intro hp1 hl);have HF1:Hid (∀V,Ca.grantE K.hp K.hx K.g num x.m (pgN x)≠0→Below w1.heap.size w1 V→ThawG w a K num x (.returned (.tuple #[.pointer none,.int .i64 (Ca.grantE K.hp K.hx K.g num x.m (pgN x))])) V):=Lh fun V h1 h2=>.inl ⟨h1,rfl,bQ hb h2⟩
 have HF2:Hid (∀V a' e C E,Ca.grantE K.hp K.hx K.g num x.m (pgN x)=0→KStep w V a K a' (Ktk {K with g:=Gp.upd K.g num (some ⟨x.m,pgN x,0⟩)} num (owns x.sp))→cores C=cores (thA (othL x.sp))→OwnTo (En.new num x.pc C) (ownL x.sp) E→Env V e (thX x E)→(∀k,e.foot (thX x E).A k→w.heap.size≤k∧a'.tag k=0)→ThawG w a K num x (.returned (.tuple #[.pointer (some ⟨e.eb,0,none⟩),.int .i64 0])) V):=Lh fun V a' e C E h1 h2 h3 h4 h5 h6=>by
  obtain⟨g1,g2⟩:=thX_law ho hm h3 h4;rw[g2] at h5 h6;exact .inr ⟨h1,a',e,E.A,rfl,h2,h5,g1,h6⟩
 generalize ThawG w a K num x=PQ at*;clear h hp1 hl hx ho hm hlen hb hbx;unfold Fr.arr at hw1⊢;go_enter func24,ntmps24;go_upto_region 3 with(fail);try rw[hw1]
 try rw[hxb]
 clear hw1 hxb;go_wp2_with (refine wpList_load_mid rfl 52 _ rfl xb 0 rfl _ _ HRa.out Tryz.underlying52 rfl HSi.out ?_;rw[Array.toArray_toList]);refine HCk.out.mono ?_;rintro r w2 ⟨rfl,hb2⟩;have HB2:=Lh hb2;clear hb2 HCk HRa HSi;go_wp2_with fail;refine(Sp.o_new _).mono ?_;rintro r w3 ⟨rfl,ho3⟩;obtain⟨sb,hsb⟩:∃y,w2.heap.size+1=y:=⟨_,rfl⟩;obtain⟨mb,hmb⟩:∃y,w2.heap.size=y:=⟨_,rfl⟩;rw[hsb] at ho3⊢;rw[hmb] at ho3;have c21:w3.cell? ⟨xb,21,none⟩=some (.slice so x.sp.length sc):=(HAll.out w3 (bQ HB2.out ho3.bel)).1.cell 21 _ rfl;have HR0:Hid (thRelG w2 sb mb x.sp (.slice none 0 0) (.int .i64 0) w3):=Lh ⟨0,[],none,0,Nat.zero_le _,rfl,rfl,SlV.nil _ _ _,fun k hk=>by simp[Value.ownBlock] at hk,ho3,rfl⟩;clear ho3 hsb hmb;go_wp2;go_loopw [10,12,30] (fun vo _ vi wr=>thRelG w2 sb mb x.sp vo vi wr) (fun _ _ vi _=>x.sp.length - (intOf vi).toNat)
 case atStart=>exact HR0.out
 case round=>
  clear HR0 c21;obtain⟨i,A,oo,oc,hi,rfl,rfl,hsl,hfr,how,hco⟩:=hrel
  by_cases hin:i<x.sp.length
  ·have ii:(i:Int)<x.sp.length:=by omega
   have i0:(0:Int)≤(i:Int):=by omega
   have hbw:=bQ HB2.out how.bel;obtain⟨g,off,rfl,hgl,p0,p1,p2,p3⟩:=pg_cells (HAll.out wr hbw).2.1.s hin;have hmem:=List.getElem_mem hin;have hob:=HO.out.s _ hmem;have hmy:=HM.out.pg _ hmem;have hsn:ownL (x.sp.take (i+1))=ownL (x.sp.take i)++(if x.sp[i].own=true then [x.sp[i]] else []):=by rw[List.take_succ_eq_append_getElem hin,ownL_snoc]
   have hsm:othL (x.sp.take (i+1))=othL (x.sp.take i)++(if x.sp[i].own=true then [] else [x.sp[i]]):=by rw[List.take_succ_eq_append_getElem hin,othL_snoc]
   have hol:(ownL (x.sp.take i)).length≤65536:=by
    have:=owns_le (x.sp.take i);rw[ownL_len];have h2:(x.sp.take i).length≤x.sp.length:=by rw[List.length_take];omega
    have:=HL.out;omega
   generalize x.sp[i]=p at*;generalize ownL (x.sp.take i)=OL at*;generalize othL (x.sp.take i)=TL at*;obtain⟨pa,pp,pw,pt⟩:=p;simp only at p0 p1 p2 p3 hob hmy;obtain⟨m1,m2,m3,m4,_⟩:=hmy;simp only at m1 m2 m3 m4;have iw:IntKind.i64.wrap ((i:Int)+1)=(i:Int)+1:=by have:=HL.out;rw[IntKind.wrap_i64];omega
   have hpb:=heap_alloc_new wr (.cells #[.int .u32 pa,.int .u8 pp,.bool pw,.string pt] 151);have hba:Below wr.heap.size wr (wr.alloc (.cells #[.int .u32 pa,.int .u8 pp,.bool pw,.string pt] 151)):=Ba _;have HOw:=Lh (how.below hba);have HSn:=Lh hsn;have HSm:=Lh hsm;have HCo:=Lh hco;have HPb:=Lh hpb;have HSl:=Lh (hsl.keep fun g hg=>hba.block g (hfr g hg).2.1);have HFr:=Lh hfr;have HOl:=Lh hol;have HQ:=Lh (show¬Spc.foot sb mb A wr.heap.size from fun q=>absurd (how.spc.lt q) (Nat.lt_irrefl _));have HW2:=Lh (show w2.heap.size≤wr.heap.size from how.bel.size);have HOb:=Lh (And.intro hob m4);clear hsn hsm hco hpb hba how hbw hmem hob m1 m2 m3 m4 hgl hsl hfr hol;cases pw with
   |true=>
    obtain⟨i0',hi0,hz0,hz1,hz2⟩:=info_parts info_page;have hb9:Below (wr.alloc (.cells #[.int .u32 pa,.int .u8 pp,.bool true,.string pt] 151)).heap.size (wr.alloc (.cells #[.int .u32 pa,.int .u8 pp,.bool true,.string pt] 151)) ((wr.alloc (.cells #[.int .u32 pa,.int .u8 pp,.bool true,.string pt] 151)).alloc (.cells #[.int .u32 pa,.int .u8 pp,.bool true,.string pt] 151)):=Ba _;have n9:=heap_alloc_new (wr.alloc (.cells #[.int .u32 pa,.int .u8 pp,.bool true,.string pt] 151)) (.cells #[.int .u32 pa,.int .u8 pp,.bool true,.string pt] 151);have hzs:(wr.alloc (.cells #[.int .u32 pa,.int .u8 pp,.bool true,.string pt] 151)).heap.size=wr.heap.size+1:=by simp
    have how9:=HOw.out.below hb9;have hsl9:=HSl.out.below hb9;have hbs:=hb9.size;have hol:=HOl.out;have e0:wr.heap.size+1=(wr.alloc (.cells #[.int .u32 pa,.int .u8 pp,.bool true,.string pt] 151)).heap.size:=hzs.symm;obtain⟨v10,w10,hrun,r10,m10,o10⟩:=hsl9.append (P:=Tryz.prog) (t:=50) (bytes:=24) 50 i0' _ Tryz.underlying50 hi0 hz0 hz1 hz2 rfl (by decide) ⟨(wr.alloc (.cells #[.int .u32 pa,.int .u8 pp,.bool true,.string pt] 151)).heap.size,0,none⟩ 1 1 [.int .u32 pa,.int .u8 pp,.bool true,.string pt] (by decide) rfl (fun j u hu=>by rw[Addr.add_lit];unfold World.cell?;simp only[Nat.zero_add];rw[n9];simpa using hu) (fun u hu=>by simp at hu;rcases hu with rfl|rfl|rfl|rfl<;>rfl) (by unfold maxLen;omega) (by omega);obtain⟨s10,k10,rfl⟩:=r10.form;have hfr10:∀k,(Value.slice oo OL.length oc).ownBlock=some k→w2.heap.size≤k∧¬Spc.foot sb mb A k:=fun k hk=>⟨(HFr.out k hk).1,(HFr.out k hk).2.2⟩
    have how10:Sp.Own w2 w10 sb mb A:=⟨how9.spc.keep m10 fun k hk g=>(hfr10 k g).2 hk,how9.base,Mod.below how9.bel m10 how9.bel.size fun k _ g=>(hfr10 k g).1⟩;have Fin:Hid (thRelG w2 sb mb x.sp (.slice s10 (OL.length+1) k10) (.int .i64 ((i:Int)+1)) w10):=Lh (by
     have hA:=HSn.out;have hT:=HSm.out;simp only[if_true] at hA hT;refine⟨i+1,A,s10,k10,hin,by go_num, ?_, ?_, ?_,how10, ?_⟩
     ·rw[hA];simp
     ·rw[hA,pgC_app,List.length_append];exact r10
     ·rw[hA,List.length_append];intro k hk;have hk':(Value.slice s10 (OL.length+1) k10).ownBlock=some k:=hk;obtain⟨g',e1,e2⟩:=r10.lt (by omega);rw[hk'] at e1;cases e1;rcases o10 with q|⟨z,q,qz⟩
      ·rw[q] at hk';exact⟨(hfr10 k hk').1,e2,(hfr10 k hk').2⟩
      ·rw[q] at hk';cases hk';have hs2:=how9.bel.size;exact⟨by omega,e2,fun g=>by have:=how9.spc.lt g;omega⟩
     ·rw[hT,List.append_nil];exact HCo.out)
    have HRun:=Lh hrun;rw[←e0] at HRun;clear hrun r10 m10 o10 hfr10 how10 how9 hsl9 hb9 n9 hzs e0 hbs hol hi0 hz0 hz1 hz2 HOw HSn HSm HCo HPb HSl HFr HOl HQ HW2 HOb;go_wp2_with (at_builtin;refine R11.wpList_append_run rfl _ _ _ rfl rfl rfl HRun.out ?_);exact⟨Fin.out,by simp[intOf];omega⟩
   |false=>
    have hsl:=HSl.out;have HWs:=Lh (show(wr.alloc (.cells #[.int .u32 pa,.int .u8 pp,.bool false,.string pt] 151)).heap.size=wr.heap.size+1 by simp);clear hsl;go_wp2_with fail;obtain⟨wa,hwa⟩:∃y,wr.alloc (.cells #[.int .u32 pa,.int .u8 pp,.bool false,.string pt] 151)=y:=⟨_,rfl⟩;obtain⟨qb,hqb⟩:∃y,wr.heap.size=y:=⟨_,rfl⟩;rw[hwa] at HOw HPb HSl HWs⊢;rw[hqb] at HPb HQ HFr HWs HW2⊢;clear hwa hqb p0 p1 p2 p3;have HMp:=Lh (Sp.map_any HOw.out.spc pa pp HOb.out.1.1.1 HOb.out.1.1.2 HOb.out.1.2.1 HOb.out.1.2.2);refine HMp.out.mono ?_;rintro r wb ⟨rfl,hs4,hm4⟩;have hqm:qb≠mb:=fun e=>HQ.out (.inr (.inl e))
    have hpb4:=(hm4.block _ (lQ HPb.out) hqm).trans HPb.out;have q0:wb.cell? ⟨qb,0,none⟩=some (.int .u32 pa):=by unfold World.cell?;rw[hpb4];rfl
    have q3:wb.cell? ⟨qb,3,none⟩=some (.string pt):=by unfold World.cell?;rw[hpb4];rfl
    have hf4:∀k,Spc.foot sb mb (Sp.mapA A pa wa.heap.size pp) k→k=wa.heap.size∨Spc.foot sb mb A k:=fun k hk=>Sp.foot_mapA hk
    have how4:=HOw.out.mod hs4 hm4 (fun k hk=>.inr (.inl hk)) fun k hk=>by
     rcases Sp.foot_mapA hk with rfl|g
     ·exact .inr (Nat.le_refl _)
     ·exact .inl g
    have HSl4:=Lh (HSl.out.mod hm4 fun k hk g=>(HFr.out k hk).2.2 (.inr (.inl g)));have hb4:=hm4.size;have HFr4:Hid (∀k,(Value.slice oo OL.length oc).ownBlock=some k→w2.heap.size≤k∧k<wb.heap.size∧¬Spc.foot sb mb (Sp.mapA A pa wa.heap.size pp) k):=Lh fun k hk=>by
     obtain⟨f1,f2,f3⟩:=HFr.out k hk;have:=HWs.out;refine⟨f1,by omega,fun g=> ?_⟩;rcases hf4 k g with rfl|g
     ·omega
     ·exact f3 g
    have HSt:=Lh (Sp.set how4.spc pa pt HOb.out.1.1.1 HOb.out.1.1.2 (by have:=HOb.out.2;omega));have HOw4:=Lh how4;have HCo4:Hid (∀B,B=Sp.putA (Sp.mapA A pa wa.heap.size pp) pa 0 pt→cores B=cores (thA (othL (x.sp.take (i+1))))):=Lh fun B hB=>by
     rw[hB,HSm.out];simp only[Bool.false_eq_true,if_false];rw[thA_snoc];exact Cor.putA (Cor.mapA HCo.out _ _ _ _) _ _ _
    have HAn:Hid (ownL (x.sp.take (i+1))=OL):=Lh (by
     have h:=HSn.out;simp only[Bool.false_eq_true,if_false,List.append_nil] at h;exact h)
    clear hs4 hm4 hqm hpb4 how4 hf4 hb4 HMp HOw HPb HQ HSn HSm HCo HSl HFr HWs HOl HW2;go_wp2_with fail;refine HSt.out.mono ?_;rintro r wc ⟨rfl,hs5,hm5⟩;have how5:=HOw4.out.mod hs5 hm5 (fun k hk=>.inr (.inr hk)) fun k hk=>.inl (Sp.foot_putA.1 hk)
    have hsl5:=HSl4.out.mod hm5 fun k hk g=>(HFr4.out k hk).2.2 (.inr (.inr g))
    have hb5:=hm5.size;have Fin:Hid (thRelG w2 sb mb x.sp (.slice oo OL.length oc) (.int .i64 ((i:Int)+1)) wc):=Lh ⟨i+1,_,oo,oc,hin,by go_num,by rw[HAn.out],by rw[HAn.out];exact hsl5,by
     rw[HAn.out];intro k hk;obtain⟨f1,f2,f3⟩:=HFr4.out k hk;exact⟨f1,by omega,fun g=>f3 (Sp.foot_putA.1 g)⟩,how5,HCo4.out _ rfl⟩
    clear hs5 hm5 how5 hsl5 hb5 HSt HOw4 HCo4 q0 q3 HOb HSl4 HFr4 HAn;go_wp2;exact⟨Fin.out,by simp[intOf];omega⟩
  ·obtain rfl:i=x.sp.length:=by omega
   have hpn:(x.sp.length:Int) - ((ownL x.sp).length:Int)=pgN x∧(ownL x.sp).length≤x.sp.length:=⟨by rw[ownL_len];rfl,by rw[ownL_len];exact owns_le _⟩;simp only[List.take_length] at hsl hfr hco⊢;generalize hm':(ownL x.sp).length=m at*;have HMm:=Lh hm';have ii:¬(x.sp.length:Int)<x.sp.length:=by omega
   have hbw:=bQ HB2.out how.bel;have HOw:=Lh how;have HCo:=Lh hco;have HBw:=Lh hbw;have HSl:=Lh hsl;have HFr:=Lh hfr;have HPn:=Lh hpn;clear how hco hbw hsl hfr hpn hm';go_wp2_with fail;have HS:Hid (∀V,Below w1.heap.size w1 V→V.cell? ⟨xb,0,none⟩=some (.int .u32 x.m.pages)∧V.cell? ⟨xb,1,none⟩=some (.slice eo x.m.ext.length ec)∧V.cell? ⟨xb,2,none⟩=some (.slice po x.m.ports.length pc)∧V.cell? ⟨xb,3,none⟩=some (.bool x.m.con)∧V.cell? ⟨xb,21,none⟩=some (.slice so x.sp.length sc)∧True):=Lh fun V hV=>by
    have q:=(HAll.out V hV).1;exact⟨q.cell 0 _ rfl,q.cell 1 _ rfl,q.cell 2 _ rfl,q.cell 3 _ rfl,q.cell 21 _ rfl,trivial⟩
   have iws:IntKind.i64.wrap ((x.sp.length:Int) - (m:Int))=pgN x:=by rw[←HPn.out.1];have:=HL.out;have:=HPn.out.2;rw[IntKind.wrap_i64];omega
   have iwu:IntKind.u32.wrap (pgN x)=pgN x:=by have h1:=HPn.out.1;have:=HL.out;have:=HPn.out.2;rw[IntKind.wrap_u32];omega
   refine B (fun V=>V.cell? ⟨xb,0,none⟩=some (.int .u32 x.m.pages)∧V.cell? ⟨xb,1,none⟩=some (.slice eo x.m.ext.length ec)∧V.cell? ⟨xb,2,none⟩=some (.slice po x.m.ports.length pc)∧V.cell? ⟨xb,3,none⟩=some (.bool x.m.con)∧V.cell? ⟨xb,21,none⟩=some (.slice so x.sp.length sc)∧True) (HS.out _ HBw.out.drew) fun wd hwd hS=> ?_
   have HOd:=Lh (show Sp.Own w2 wd sb mb A by rw[hwd];exact HOw.out.below Br.drew);have HBd:=Lh (show Below w1.heap.size w1 wd by rw[hwd];exact HBw.out.drew);have HWd:=Lh (show wd.heap.size=wr.heap.size by rw[hwd];rfl);have HWk:=Lh (show∀g,(Value.slice oo m oc).ownBlock=some g→wd.heap[g]? =wr.heap[g]? from fun g _=>by rw[hwd];rfl);clear hwd HOw HBw;have hall:=HAll.out wd HBd.out;have HGr:=Lh (Kl.grant hall.2.2 HKb.out.1 HKb.out.2 (n:=num) (pg:=pgN x) (by have h1:=HPn.out.1;have:=HPn.out.2;omega) hall.2.1.m HO.out.m);have HCp:=Lh (Kl.caps hall.2.2);clear hall;refine T 0 hS ?_;refine T 2 hS ?_;refine T 3 hS ?_;refine T 4 hS ?_;refine T 5 hS ?_;refine T 6 hS ?_;refine T 7 hS ?_;refine T 8 hS ?_;refine T 9 hS ?_;refine T 10 hS ?_;refine T 11 hS ?_;refine U 1 fun K' hK=> ?_
   go_simp;go_at_call 23;refine HCp.out.mono ?_;rintro r v1 ⟨rfl,rfl⟩;refine V hK hS ?_;clear hK K';refine U 12 fun K' hK=> ?_
   go_simp;go_at_call 88;refine HGr.out.mono ?_;rintro r w6 (⟨hg,rfl,hb6⟩|⟨hg,rfl,a6,hs6⟩)
   ·have HE:=Lh (HF1.out w6 hg (bQ HBd.out hb6));have hS6:=HS.out w6 (bQ HBd.out hb6);have hgb:(Ca.grantE K.hp K.hx K.g num x.m (pgN x) != 0)=true:=bne_iff_ne.2 hg;clear hb6 hg HF1 HF2 HGr;generalize Ca.grantE K.hp K.hx K.g num x.m (pgN x)=gE at*;refine V hK hS6 ?_;clear hK K';refine T 13 hS6 ?_;refine wpAnyH_done (by kernel_rfl) ?_ _;clear hS hS6;go_wp2
    first|exact HE.out|(go_ret2;exact HE.out)
   ·have hw0:w.heap.size≤w2.heap.size:=Nat.le_trans HB.out.size HB2.out.size;have hxl:xb<w1.heap.size:=lQ (HAll.out w1 Br).1;have hq6:FBox w6 xb x (.slice eo x.m.ext.length ec) (.slice po x.m.ports.length pc) (.slice so x.sp.length sc):=(HAll.out wd HBd.out).1.keep hs6.mod fun g=>g.1 (HTg.out _ (Nat.le_of_eq HXb.out))
    have hsp6:Spc w6 sb mb A:=HOd.out.spc.keep hs6.mod fun k hk g=>g.1 (HTg.out _ (Nat.le_trans hw0 (HOd.out.base k hk)))
    have hnum:=grant_num hg;have HKs:=Lh ((KStep.of_below HKn.out (bQ HB.out HBd.out)).trans hs6);have HQ6:=Lh hq6;have HNw:=Lh (Ev.new hsp6 num x.pc hnum.1 hnum.2 HO.out.c.1 HO.out.c.2);have HNm:=Lh (show xb<w6.heap.size from Nat.lt_of_lt_of_le hxl (Nat.le_trans HBd.out.size hs6.mod.size));have HZ6:=Lh (show w.heap.size≤w6.heap.size from Nat.le_trans HB.out.size (Nat.le_trans HBd.out.size hs6.mod.size));have hgl:∀k,(Value.slice oo m oc).ownBlock=some k→a.tag k=0∧k<wd.heap.size:=fun k hk=>by
     obtain⟨f1,f2,f3⟩:=HFr.out k hk;have:=HWd.out;exact⟨HTg.out _ (Nat.le_trans hw0 f1),by omega⟩
    have hsl6:=(HSl.out.keep fun g hg=>HWk.out g hg).mod hs6.mod fun k hk g=>g.1 (hgl k hk).1
    have HSl6:=Lh hsl6;have HFr6:Hid (∀k,(Value.slice oo m oc).ownBlock=some k→w2.heap.size≤k∧k<w6.heap.size∧¬Spc.foot sb mb A k):=Lh fun k hk=>by
     obtain⟨f1,f2,f3⟩:=HFr.out k hk;have:=hs6.mod.size;exact⟨f1,by have:=(hgl k hk).2;omega,f3⟩
    have HT6:Hid (∀k,w.heap.size≤k→k<wd.heap.size→¬a6.wf k):=Lh fun k h1 h2 g=>g.1 ((hs6.tag k h2).trans (HTg.out k h1))
    have HSp6:=Lh hsp6;have HBs6:=Lh (show w.heap.size≤w2.heap.size∧w.heap.size≤xb∧xb<wd.heap.size∧(∀k,Spc.foot sb mb A k→w2.heap.size≤k∧k<wd.heap.size)∧(∀k,(Value.slice oo m oc).ownBlock=some k→w2.heap.size≤k∧k<wd.heap.size∧¬Spc.foot sb mb A k) from⟨hw0,Nat.le_of_eq HXb.out,Nat.lt_of_lt_of_le hxl HBd.out.size,fun k hk=>⟨HOd.out.base k hk,HOd.out.spc.lt hk⟩,fun k hk=>⟨(HFr.out k hk).1,(hgl k hk).2,(HFr.out k hk).2.2⟩⟩);have HS6:=Lh hs6;have HNu:=Lh hnum;have HF3:=Lh fun V a' e C E h2 h3 h4 h5 h6=>HF2.out V a' e C E hg h2 h3 h4 h5 h6
    have hKk:=hs6.k;have hkb:=hs6.same.1;have HKb:=Lh hkb;have HK6:Hid (KStep w6 w6 a6 {K with g:=Gp.upd K.g num (some ⟨x.m,pgN x,0⟩)} a6 {K with g:=Gp.upd K.g num (some ⟨x.m,pgN x,0⟩)}):=Lh (KStep.refl hKk);have hS6:w6.cell? ⟨xb,0,none⟩=some (.int .u32 x.m.pages)∧w6.cell? ⟨xb,1,none⟩=some (.slice eo x.m.ext.length ec)∧w6.cell? ⟨xb,2,none⟩=some (.slice po x.m.ports.length pc)∧w6.cell? ⟨xb,3,none⟩=some (.bool x.m.con)∧w6.cell? ⟨xb,21,none⟩=some (.slice so x.sp.length sc)∧True:=⟨hq6.cell 0 _ rfl,hq6.cell 1 _ rfl,hq6.cell 2 _ rfl,hq6.cell 3 _ rfl,hq6.cell 21 _ rfl,trivial⟩;have c20:w6.cell? ⟨xb,20,none⟩=some (.int .u32 x.pc):=hq6.cell 20 _ rfl;clear hw0 hxl hq6 hsp6 hnum hg hs6 hgl hsl6 hKk hkb HF1 HF2 HGr HCp HS HOd HBd HB HB2 HKn HAll iws iwu hS HSl HFr HWd HWk;refine V hK hS6 ?_;clear hK K';refine T 13 hS6 ?_;refine wpAnyH_done (by kernel_rfl) ?_ _;clear hS6;go_wp2;generalize hK6:({K with g:=Gp.upd K.g num (some ⟨x.m,pgN x,0⟩)}:Kn)=K6 at*;go_loopw [71] (fun vi wr=>tnRel w6 a6 K6 num m vi wr) (fun vi _=>m - (intOf vi).toNat)
    case atStart=>exact⟨0,Nat.zero_le _,rfl,by rw[Ktk_zero];exact HK6.out⟩
    case round=>
     clear c20;obtain⟨i,hi,rfl,hst⟩:=hrel
     by_cases hin:i<m
     ·have ii:(i:Int)<m:=by omega
      have hml:(m:Int)≤65536:=by have h1:=HPn.out.2;have h2:=HL.out;omega
      have iw:IntKind.i64.wrap ((i:Int)+1)=(i:Int)+1:=by rw[IntKind.wrap_i64];omega
      have hcp:=Kl.caps hst.k;rw[HKb.out] at hcp;have HCp:=Lh hcp;have HTk:=Lh (Ca.take hst.k.caps (n:=num) (by have:=HNu.out;unfold I64;omega));have HFin:Hid (∀V,Ca.takeP wr a6.c (Ktk K6 num i).hp (Ktk K6 num i).g num V→tnRel w6 a6 K6 num m (.int .i64 ((i:Int)+1)) V):=Lh fun V g=>⟨i+1,hin,by go_num,by
       rw[←Ktk_succ];exact hst.trans (KStep.setCaps hst.k g.1 (Gp.upd_some (Gp.take_some _)) g.2)⟩
      clear hcp hst hml;go_wp2_with fail;refine HCp.out.mono ?_;rintro r v1 ⟨rfl,rfl⟩;go_wp2_with fail;refine HTk.out.mono ?_;rintro r v1 ⟨rfl,htk⟩;have Fin:=Lh (HFin.out v1 htk);clear htk HFin HTk HCp;go_wp2;exact⟨Fin.out,by simp[intOf];omega⟩
     ·obtain rfl:m=i:=by omega
      have ii:¬(m:Int)<m:=by omega
      obtain⟨b1,b2,b3,b4,b5⟩:=HBs6.out;have hqR:=HQ6.out.keep hst.mod (HT6.out xb b2 b3);have hspR:=HSp6.out.keep hst.mod fun k hk=>HT6.out k (Nat.le_trans b1 (b4 k hk).1) (b4 k hk).2
      have hslR:=HSl6.out.mod hst.mod fun k hk=>HT6.out k (Nat.le_trans b1 (b5 k hk).1) (b5 k hk).2.1
      have c20:wr.cell? ⟨xb,20,none⟩=some (.int .u32 x.pc):=hqR.cell 20 _ rfl;have HNw:=Lh (Ev.new hspR num x.pc HNu.out.1 HNu.out.2 HO.out.c.1 HO.out.c.2);have HQR:=Lh hqR;have HSlR:=Lh hslR;have HStR:=Lh hst;clear b1 b2 b3 b4 b5 hqR hspR hslR hst;go_wp2_with fail;refine HNw.out.mono ?_;rintro r w7 ⟨e,C,rfl,hen,hcc,hef,hb7⟩;have HEn:=Lh hen;have HE7:=Lh (And.intro hcc (And.intro hef hb7));clear hen hcc hef hb7 HNw c20;have HSl7:=Lh (HSlR.out.below HE7.out.2.2);go_wp2;go_loopw [17,91] (fun _ vi wr=>ogRel w7 e (En.new num x.pc C) (ownL x.sp) vi wr) (fun _ vi _=>m - (intOf vi).toNat)
      case atStart=>exact⟨0,e,_,Nat.zero_le _,rfl,EStep.refl HEn.out,rfl,.nil⟩
      case round=>
       obtain⟨i,e1,E1,hi,rfl,hst,heb,hto⟩:=hrel
       by_cases hin:i<m
       ·have ii:(i:Int)<m:=by omega
        have i0:(0:Int)≤(i:Int):=by omega
        have hmm:=HMm.out;subst hmm;have hml:((ownL x.sp).length:Int)≤65536:=by have h1:=HPn.out.2;have h2:=HL.out;omega
        have iw:IntKind.i64.wrap ((i:Int)+1)=(i:Int)+1:=by rw[IntKind.wrap_i64];omega
        have hmem:(ownL x.sp)[i]∈x.sp:=(List.mem_filter.1 (List.getElem_mem hin)).1;have hob:=HO.out.s _ hmem;have hmy:=(HM.out.pg _ hmem).2.2.2.1;have hlt7:∀k,(Value.slice oo (ownL x.sp).length oc).ownBlock=some k→¬e.foot C k:=fun k hk g=>by
         have h1:=(HBs6.out.2.2.2.2 k hk).2.1;have h2:=HE7.out.2.1 k g;have h3:=HStR.out.mod.size;have h4:=HS6.out.mod.size;omega
        have hslr:=HSl7.out.mod hst.mod hlt7;obtain⟨g,off,rfl,hgl,p0,p1,p2,p3⟩:=pg_cells hslr hin;have hsn:(ownL x.sp).take (i+1)=(ownL x.sp).take i++[(ownL x.sp)[i]]:=List.take_succ_eq_append_getElem hin;have hto':=fun blk=>OwnTo.snoc (ownL x.sp)[i] blk hto
        rw[←hsn] at hto';generalize (ownL x.sp)[i]=p at*;obtain⟨pa,pp,pw,pt⟩:=p;simp only at p0 p1 p2 p3 hob hmy hto';have hpb:=heap_alloc_new wr (.cells #[.int .u32 pa,.int .u8 pp,.bool pw,.string pt] 151);have hba:Below wr.heap.size wr (wr.alloc (.cells #[.int .u32 pa,.int .u8 pp,.bool pw,.string pt] 151)):=Ba _;have hsta:=hst.below hba;have hqf:¬e1.foot E1.A wr.heap.size:=fun q=>absurd (hst.env.lt _ q) (Nat.lt_irrefl _)
        have HPb:=Lh hpb;have HSta:=Lh hsta;have HQf:=Lh hqf;have HPg:=Lh (Ev.page hsta.env pa hob.1.1 hob.1.2);have HTo:=Lh hto';have HOb:=Lh (And.intro hob hmy);have HEb:=Lh heb;clear hml hmem hob hmy hlt7 hslr hsn hto' hto hpb hba hsta hqf hst hgl heb;go_wp2_with fail;obtain⟨wa,hwa⟩:∃y,wr.alloc (.cells #[.int .u32 pa,.int .u8 pp,.bool pw,.string pt] 151)=y:=⟨_,rfl⟩;obtain⟨qb,hqb⟩:∃y,wr.heap.size=y:=⟨_,rfl⟩;rw[hwa] at HPb HSta HPg⊢;rw[hqb] at HPb HQf⊢;clear hwa hqb p0 p1 p2 p3;have hpg:=HPg.out;rw[HEb.out] at hpg;refine hpg.mono ?_;rintro r wb ⟨blk,lv,rfl,hs2⟩;have hpb2:=(hs2.mod.block _ (lQ HPb.out) HQf.out).trans HPb.out;have hst2:=HSta.out.trans hs2;have hq2:¬({e1 with eb:=e.eb,lv:=lv}:EAt).foot (E1.page pa blk).A qb:=fun q=>(hs2.foot _ q).elim HQf.out fun h=>absurd (lQ HPb.out) (Nat.not_lt.2 h)
        have HPb2:=Lh hpb2;have HSt2:=Lh hst2;have HQ2:=Lh hq2;have q0:wb.cell? ⟨qb,0,none⟩=some (.int .u32 pa):=by unfold World.cell?;rw[hpb2];rfl
        have q3:wb.cell? ⟨qb,3,none⟩=some (.string pt):=by unfold World.cell?;rw[hpb2];rfl
        have HSp:=Lh (Ev.space hst2.env);have HSs:=Lh fun V (hV:Below wb.heap.size wb V)=>Sp.s_set (hst2.env.below hV).sp pa pt HOb.out.1.1.1 HOb.out.1.1.2 (by have:=HOb.out.2;omega)
        clear hs2 hpb2 hst2 hpg HPg HSta HPb HQf hq2;go_wp2_with fail;refine B (fun V=>V.cell? ⟨qb,0,none⟩=some (.int .u32 pa)∧V.cell? ⟨qb,3,none⟩=some (.string pt)∧True) ⟨q0,q3,trivial⟩ fun wd' hwd' hS=> ?_
        have HB3:=Lh (show Below wb.heap.size wb wd' by rw[hwd'];exact Br.drew);clear hwd' q0 q3;refine T 0 hS ?_;refine T 2 hS ?_;refine T 3 hS ?_;refine T 4 hS ?_;refine T 5 hS ?_;have hsp:=(Ev.space (HSt2.out.env.below HB3.out));have hss:=HSs.out wd' HB3.out;have hst3:=HSt2.out.below HB3.out;have HSp3:=Lh hsp;have HSs3:=Lh hss;have HSt3:=Lh hst3;clear hsp hss hst3 HSp HSs HSt2;refine U 1 fun K' hK=> ?_
        go_simp;go_at_call 92;have hsp3:=HSp3.out;simp only[HEb.out] at hsp3;refine hsp3.mono ?_;rintro r v1 ⟨rfl,rfl⟩;refine V hK hS ?_;clear hK K';refine U 6 fun K' hK=> ?_
        go_simp;go_at_call 87;refine HSs3.out.mono ?_;rintro r v1 ⟨rfl,hset⟩;have hst4:=HSt3.out.trans (EStep.space HSt3.out.env hset (putA_own HSt3.out.env.ok pa 0 pt));have hnq:¬Spc.foot ({e1 with lv:=lv}:EAt).sb ({e1 with lv:=lv}:EAt).mb (E1.page pa blk).A qb:=fun q=>HQ2.out (EAt.foot_spc (e:= {e1 with eb:=e.eb,lv:=lv}) q)
        have hS4:v1.cell? ⟨qb,0,none⟩=some (.int .u32 pa)∧v1.cell? ⟨qb,3,none⟩=some (.string pt)∧True:=⟨(World.cell?_of_block (hset.mod.block qb (Ca.clt hS.1) hnq)).trans hS.1,(World.cell?_of_block (hset.mod.block qb (Ca.clt hS.1) hnq)).trans hS.2.1,trivial⟩;have Fin:Hid (ogRel w7 e (En.new num x.pc C) (ownL x.sp) (.int .i64 ((i:Int)+1)) v1):=Lh ⟨i+1,_,_,hin,by go_num,hst4,rfl,HTo.out blk⟩;clear hst4 hnq hset hS HSs3 HSt3 HSp3 hsp3;refine V hK hS4 ?_;clear hK K';refine wpAnyH_done (by kernel_rfl) ?_ _;clear hS4;go_wp2;exact⟨Fin.out,by simp[intOf];omega⟩
       ·have hmm:=HMm.out;subst hmm;obtain rfl:i=(ownL x.sp).length:=by omega
        have ii:¬((ownL x.sp).length:Int)<(ownL x.sp).length:=by omega
        rw[List.take_length] at hto;have h67:=HStR.out.mod.size;have h77:=HE7.out.2.2.size;have hxe:∀k,e.foot C k→k≠xb:=fun k hk=>by have h1:=HE7.out.2.1 k hk;have h2:=HNm.out;omega
        have HBx:=Lh ((HQR.out.keep (Mod.of_below HE7.out.2.2 fun _=>False) id).keep hst.mod fun g=>hxe _ g rfl);have HXe:=Lh hxe;have HSt0:=Lh hst;have HTo:=Lh hto;have HEb:=Lh heb;have HR8:=Lh (EStep.refl hst.env);have HX8:Hid (∀k,e1.foot E1.A k→k≠xb):=Lh fun k hk=>by
         rcases hst.foot k hk with g|g
         ·exact hxe k g
         ·have h2:=HNm.out;omega
        clear hxe hst hto heb h67 h77;generalize wr=w8 at*;go_wp2;go_loopw [18] (fun vi wr=>thr4 w8 e1 E1 (fun i=>x.r i) vi wr) (fun vi _=>16 - (intOf vi).toNat)
        case atStart=>exact⟨1,by omega,by omega,by go_num,by
         have h8:=HR8.out;have hr8:E1.r=Cp.regsK (fun i=>x.r i) 1:=HTo.out.rest.1;have he8:E1= {E1 with r:=Cp.regsK (fun i=>x.r i) 1}:=by rw[←hr8]
         rw[←he8];exact h8⟩
        case round=>
         obtain⟨i,i1,i16,rfl,hst⟩:=hrel;have hbx:FBox wr xb x (.slice eo x.m.ext.length ec) (.slice po x.m.ports.length pc) (.slice so x.sp.length sc):=HBx.out.keep hst.mod fun g=>HX8.out _ g rfl
         have HSt:=Lh hst;have HBx9:=Lh hbx
         by_cases hin:i<16
         ·have ii:(i:Int)<16:=by omega
          have i0:(0:Int)≤(i:Int):=by omega
          have hc:wr.cell? ⟨xb,4+i,none⟩=some (.int .u32 (x.r i)):=hbx.cell (4+i) _ (arr_getr _ _ _ _ i hin);have hbd:=HO.out.r i;clear hst hbx;go_wp2_with fail;refine B (fun V=>V.cell? ⟨xb,4+i,none⟩=some (.int .u32 (x.r i))∧True) ⟨hc,trivial⟩ fun wd hwd hS=> ?_
          have HSd:=Lh (show EStep w8 wd e1 _ e1 _ by rw[hwd];exact HSt.out.below Br.drew);have HCp:=Lh (Ev.cpu HSd.out.env);have HSR:=Lh (Cp.setReg_ok HSd.out.env.cp i hin (x.r i) hbd.1 hbd.2);clear hwd hc HSt HBx9 hbd;refine T 0 hS ?_;refine T 2 hS ?_;refine T 3 hS ?_;refine T 4 hS ?_;refine T 5 hS ?_;refine T 6 hS ?_;refine U 1 fun K' hK=> ?_
          go_simp;go_at_call 76;have hcp:=HCp.out;rw[HEb.out] at hcp;refine hcp.mono ?_;rintro r v1 ⟨rfl,rfl⟩;refine V hK hS ?_;clear hK K';refine U 7 fun K' hK=> ?_
          go_simp;go_at_call 93;refine HSR.out.mono ?_;rintro r v1 ⟨rfl,hcp2,hmm⟩;have hst2:=HSd.out.trans (EStep.regs HSd.out.env hcp2 hmm);have Fin:Hid (thr4 w8 e1 E1 (fun i=>x.r i) (.int .i64 ((i:Int)+1)) v1):=Lh ⟨i+1,by omega,by omega,by go_num,by
           rw[←Cp.regsK_succ _ i hin];exact hst2⟩
          have hS1:v1.cell? ⟨xb,4+i,none⟩=some (.int .u32 (x.r i))∧True:=⟨(World.cell?_of_block (w:=wd) (hmm.block xb (Ca.clt hS.1) fun q=>HX8.out _ (.inr (.inl q)) rfl)).trans hS.1,trivial⟩;clear hcp hcp2 hmm hst2 HSd HCp HSR hS;refine V hK hS1 ?_;clear hK K';refine wpAnyH_done (by kernel_rfl) ?_ _;clear hS1;go_wp2;exact⟨Fin.out,by simp[intOf];omega⟩
         ·obtain rfl:i=16:=by omega
          have c22:wr.cell? ⟨xb,22,none⟩=some (.string x.text):=hbx.cell 22 _ rfl;have HPt:=Lh (Ev.put HSt.out.env x.text (by have:=HM.out.tx;omega));clear hst hbx;go_wp2_with fail;have hpt:=HPt.out;rw[HEb.out] at hpt;refine hpt.mono ?_;rintro r w9 ⟨rfl,hs9⟩;have hst9:=HSt0.out.trans (HSt.out.trans hs9);have hbz:=HE7.out.2.2;have hb9:=Mod.below HE7.out.2.2 hst9.mod HE7.out.2.2.size fun i _ g=>HE7.out.2.1 i g
          have hks:=(HKs.out.trans HStR.out).trans (KStep.of_below HStR.out.k hb9);have h66:=HStR.out.mod.size;have h76:=HE7.out.2.2.size;have hend:=HF3.out w9 a6 e1 C E1 hks (HE7.out.1.trans HCo.out) HTo.out hst9.env fun k hk=> ?_
          ·clear hst9 hb9 hs9 hks hbz h66 h76 HSt HBx HBx9 c22 HPt hpt;rw[HEb.out] at hend;have HEnd:=Lh hend;clear hend;go_wp2
           first|exact HEnd.out|(go_ret2;exact HEnd.out)
          ·have h0:=HZ6.out;have h1:_:=hst9.foot k hk;have h2:∀q,a6.tag q≠0→q<_:=fun q=>HStR.out.k.lt q
           rcases h1 with g|g
           ·have g1:=HE7.out.2.1 k g;exact⟨by omega,Decidable.byContradiction fun z=>by have:=h2 k z;omega⟩
           ·exact⟨by omega,Decidable.byContradiction fun z=>by have:=h2 k z;omega⟩
end Go.Proofs.YtehihecknhcggaaGreat.Fz
namespace Go.Proofs.YtehihecknhcggaaGreat
open Go.RowKit
namespace Rc
def all:List Int:=[1,2,3,4,5,6,7,8]
def one(G:Int→Option Gr)(n:Int):Option (Int×Gr):=(G n).map fun g=>(n,g)
def canon(G:Int→Option Gr):List (Int×Gr):=all.filterMap (one G)
def lo(G:Int→Option Gr)(n:Int):List (Int×Gr):=(all.filter fun k=>decide (k<n)).filterMap (one G)
def hi(G:Int→Option Gr)(n:Int):List (Int×Gr):=(all.filter fun k=>decide (n<k)).filterMap (one G)
theorem all_split{n:Int}(n1:1≤n)(n8:n≤8):all=(all.filter fun k=>decide (k<n))++([n]++all.filter fun k=>decide (n<k)):=by
 have hn:n=1∨n=2∨n=3∨n=4∨n=5∨n=6∨n=7∨n=8:=by omega
 rcases hn with rfl|rfl|rfl|rfl|rfl|rfl|rfl|rfl<;>decide
theorem split(G:Int→Option Gr){n:Int}(n1:1≤n)(n8:n≤8):canon G=lo G n++((one G n).toList++hi G n):=by
 unfold canon
 conv=>lhs;rw[all_split n1 n8]
 rw[List.filterMap_append,List.filterMap_append];have:([n]:List Int).filterMap (one G)=(one G n).toList:=by
  rw[List.filterMap_cons];cases one G n<;>rfl
 rw[this];rfl
theorem fm_congr{X:Type}{l:List Int}{f g:Int→Option X}(h:∀k,k∈l→f k=g k):l.filterMap f=l.filterMap g:=by
 induction l with
 |nil=>rfl
 |cons a l ih=>
  rw[List.filterMap_cons,List.filterMap_cons,h a (List.mem_cons_self ..),ih fun k hk=>h k (List.mem_cons_of_mem _ hk)]
theorem lo_upd(G:Int→Option Gr)(n:Int)(g:Option Gr):lo (Gp.upd G n g) n=lo G n:=fm_congr fun k hk=>by
 have:k<n:=by simpa using (List.mem_filter.1 hk).2
 unfold one;rw[Gp.upd_ne _ _ (by omega)]
theorem hi_upd(G:Int→Option Gr)(n:Int)(g:Option Gr):hi (Gp.upd G n g) n=hi G n:=fm_congr fun k hk=>by
 have:n<k:=by simpa using (List.mem_filter.1 hk).2
 unfold one;rw[Gp.upd_ne _ _ (by omega)]
theorem mem_lo{G:Int→Option Gr}{n:Int}{x:Int×Gr}(h:x∈lo G n):x.1<n∧G x.1=some x.2:=by
 obtain⟨k,hk,hx⟩:=List.mem_filterMap.1 h;have hkn:k<n:=by simpa using (List.mem_filter.1 hk).2
 unfold one at hx;cases hG:G k with
 |none=>rw[hG] at hx;cases hx
 |some g=>rw[hG] at hx;cases hx;exact⟨hkn,hG⟩
theorem mem_hi{G:Int→Option Gr}{n:Int}{x:Int×Gr}(h:x∈hi G n):n<x.1∧G x.1=some x.2:=by
 obtain⟨k,hk,hx⟩:=List.mem_filterMap.1 h;have hkn:n<k:=by simpa using (List.mem_filter.1 hk).2
 unfold one at hx;cases hG:G k with
 |none=>rw[hG] at hx;cases hx
 |some g=>rw[hG] at hx;cases hx;exact⟨hkn,hG⟩
theorem mem{G:Int→Option Gr}{x:Int×Gr}(h:x∈canon G):1≤x.1∧x.1≤8∧G x.1=some x.2:=by
 obtain⟨k,hk,hx⟩:=List.mem_filterMap.1 h;have hk8:1≤k∧k≤8:=by
  unfold all at hk;simp at hk;omega
 unfold one at hx;cases hG:G k with
 |none=>rw[hG] at hx;cases hx
 |some g=>rw[hG] at hx;cases hx;exact⟨hk8.1,hk8.2,hG⟩
theorem mem_of{G:Int→Option Gr}{n:Int}{g:Gr}(n1:1≤n)(n8:n≤8)(h:G n=some g):(n,g)∈canon G:=by
 rw[split G n1 n8];refine List.mem_append_right _ (List.mem_append_left _ ?_);unfold one;rw[h]
 simp
theorem canon_some{G:Int→Option Gr}{n:Int}{g:Gr}(n1:1≤n)(n8:n≤8)(h:G n=some g):canon G=lo G n++(n,g)::hi G n:=by
 rw[split G n1 n8];unfold one;rw[h];rfl
theorem canon_none{G:Int→Option Gr}{n:Int}(n1:1≤n)(n8:n≤8)(h:G n=none):canon G=lo G n++hi G n:=by
 rw[split G n1 n8];unfold one;rw[h];rfl
theorem canon_put{G:Int→Option Gr}{n:Int}{g:Gr}(n1:1≤n)(n8:n≤8):canon (Gp.upd G n (some g))=lo G n++(n,g)::hi G n:=by
 rw[canon_some n1 n8 (Gp.upd_at G n (some g)),lo_upd,hi_upd]
theorem len(G:Int→Option Gr):(canon G).length≤8:=Nat.le_trans (List.length_filterMap_le _ _) (by decide)
def sumR(L:List (Int×Gr)):Int:=(L.map fun x=>x.2.m.pages+x.2.pg).sum
theorem sumR_canon(G:Int→Option Gr):sumR (canon G)=Gp.sum G:=by
 have h1:∀k l,sumR ((one G k).toList++l)=Gp.pgs (G k)+sumR l:=fun k l=>by
  unfold one;cases h:G k with
  |none=>simp[Gp.pgs]
  |some g=>simp[Gp.pgs,sumR]
 have h2:canon G=(one G 1).toList++((one G 2).toList++((one G 3).toList++((one G 4).toList++((one G 5).toList++((one G 6).toList++((one G 7).toList++((one G 8).toList++[]))))))):=by
  have hc:∀(k:Int) (l:List Int),(k::l).filterMap (one G)=(one G k).toList++l.filterMap (one G):=fun k l=>by
   rw[List.filterMap_cons];cases one G k<;>rfl
  unfold canon all;rw[hc,hc,hc,hc,hc,hc,hc,hc];rfl
 rw[h2,h1,h1,h1,h1,h1,h1,h1,h1];unfold Gp.sum Gp.sum8;simp[sumR]
end Rc
structure RcE where
 n:Int
 g:Gr
 ev:Value
 pv:Value
def RcE.cells(x:RcE):List Value:=[.int .i64 x.n,.int .u32 x.g.m.pages,x.ev,x.pv,.bool x.g.m.con,.int .u32 x.g.pg,.int .u32 x.g.took]
def RcE.key(x:RcE):Int×Gr:=(x.n,x.g)
def rcC(L:List RcE):List Value:=L.flatMap RcE.cells
theorem rcC_len(L:List RcE):(rcC L).length=L.length*7:=by
 unfold rcC
 induction L with
 |nil=>rfl
 |cons x l ih=>rw[List.flatMap_cons,List.length_append,ih];simp[RcE.cells];omega
theorem rcC_at:∀(L:List RcE) (i:Nat) (x:RcE),L[i]? =some x→∀j,j<7→(rcC L)[i*7+j]? =x.cells[j]?
 |y::l,0,x,h,j,hj=>by
  simp at h;subst h;have e:rcC (y::l)=y.cells++rcC l:=rfl;rw[e,Nat.zero_mul,Nat.zero_add,List.getElem?_append_left (by simpa [RcE.cells] using hj)]
 |y::l,i+1,x,h,j,hj=>by
  have:=rcC_at l i x (by simpa using h) j hj;have e:rcC (y::l)=y.cells++rcC l:=rfl;rw[e,List.getElem?_append_right (by simp[RcE.cells];omega),←this]
  congr 1
  simp[RcE.cells];omega
theorem rcC_one(L:List RcE)(h:∀x,x∈L→x.ev.oneCell'=true∧x.pv.oneCell'=true):∀u,u∈rcC L→u.oneCell'=true:=fun u hu=>by
 unfold rcC at hu;rw[List.mem_flatMap] at hu;obtain⟨x,hm,hx⟩:=hu;simp[RcE.cells] at hx;rcases hx with rfl|rfl|rfl|rfl|rfl|rfl|rfl
 ·rfl
 ·rfl
 ·exact(h x hm).1
 ·exact(h x hm).2
 ·rfl
 ·rfl
 ·rfl
structure Gp.OkG(hp:Int)(G:Int→Option Gr):Prop where
 ok:∀n,Gp.gok (G n)
 dom:∀n,(G n).isSome=true→1≤n∧n≤8
 fit:Gp.sum G≤hp
 may:∀n g,G n=some g→Gp.checkE g.m=0
 h1:hp≤4096
structure RcAt where
 rb:Nat
 hv:Value
 lv:Value
 L:List RcE
structure Rcs(w:World)(a:RcAt)(hp:Int)(G:Int→Option Gr):Prop where
 head:w.heap[a.rb]? =some (.cells #[.int .u32 hp,a.hv,a.lv] 176 (0,0))
 row:SlV w 212 7 a.lv a.L.length (rcC a.L)
 mns:∀x,x∈a.L→MnAt w x.ev x.pv x.g.m
 can:a.L.map RcE.key=Rc.canon G
 ok:Gp.OkG hp G
def RcAt.wf(a:RcAt)(k:Nat):Prop:=k=a.rb∨a.lv.ownBlock=some k
def RcAt.rf(a:RcAt)(k:Nat):Prop:=∃x,x∈a.L∧(x.ev.ownBlock=some k∨x.pv.ownBlock=some k)
namespace Rcs
variable {w w':World} {a:RcAt} {hp:Int} {G:Int→Option Gr}
theorem mod{F:Nat→Prop}(h:Rcs w a hp G)(hm:Mod F w w')(hF:∀k,a.wf k∨a.rf k→¬F k):Rcs w' a hp G:=
 ⟨(hm.block _ (lQ h.head) (hF _ (.inl (.inl rfl)))).trans h.head,h.row.mod hm fun k hk=>hF k (.inl (.inr hk)),fun x hx=>(h.mns x hx).mod hm (fun k hk=>hF k (.inr ⟨x,hx,.inl hk⟩)) fun k hk=>hF k (.inr ⟨x,hx,.inr hk⟩),h.can,h.ok⟩
theorem below(h:Rcs w a hp G)(hb:Below w.heap.size w w'):Rcs w' a hp G:=h.mod (Mod.of_below hb (fun _=>False)) fun _ _ q=>q
theorem cells(h:Rcs w a hp G):w.cell? ⟨a.rb,0,none⟩=some (.int .u32 hp)∧w.cell? ⟨a.rb,1,none⟩=some a.hv∧w.cell? ⟨a.rb,2,none⟩=some a.lv∧∀i,w.frozen? ⟨a.rb,i,none⟩=false:=by
 refine⟨?_, ?_, ?_,fun i=> ?_⟩
 ·unfold World.cell?;rw[h.head];rfl
 ·unfold World.cell?;rw[h.head];rfl
 ·unfold World.cell?;rw[h.head];rfl
 ·unfold World.frozen?;rw[h.head];simp
theorem len(h:Rcs w a hp G):a.L.length≤8:=by
 have:=congrArg List.length h.can;rw[List.length_map] at this;rw[this];exact Rc.len G
theorem key(h:Rcs w a hp G){x:RcE}(hx:x∈a.L):1≤x.n∧x.n≤8∧G x.n=some x.g:=Rc.mem (x:=x.key) (by rw[←h.can];exact List.mem_map_of_mem hx)
theorem at'(h:Rcs w a hp G){i:Nat}{x:RcE}(hx:a.L[i]? =some x):∃g off cap,a.lv=.slice (some ⟨g,off,none⟩) a.L.length cap∧∀j,j<7→w.cell? ⟨g,off+(i*7+j),none⟩=x.cells[j]? :=by
 have hi:=(List.getElem?_eq_some_iff.1 hx).1;have hr:=h.row;rcases hr.2 with⟨h0,_⟩|⟨g,off,cap,cur,hv,_⟩
 ·omega
 ·refine⟨g,off,cap,hv,fun j hj=> ?_⟩;rw[hv] at hr;rw[hr.cell (i*7+j) (by omega)];exact rcC_at _ _ _ hx j hj
theorem seven{g o i:Nat}{x:RcE}(h:∀j,j<7→w.cell? ⟨g,o+(i*7+j),none⟩=x.cells[j]?):w.cell? ⟨g,o+i*7,none⟩=some (.int .i64 x.n)∧w.cell? ⟨g,o+i*7+1,none⟩=some (.int .u32 x.g.m.pages)∧w.cell? ⟨g,o+i*7+2,none⟩=some x.ev∧w.cell? ⟨g,o+i*7+3,none⟩=some x.pv∧w.cell? ⟨g,o+i*7+4,none⟩=some (.bool x.g.m.con)∧w.cell? ⟨g,o+i*7+5,none⟩=some (.int .u32 x.g.pg)∧w.cell? ⟨g,o+i*7+6,none⟩=some (.int .u32 x.g.took):=
 ⟨h 0 (by omega),h 1 (by omega),h 2 (by omega),h 3 (by omega),h 4 (by omega),h 5 (by omega),h 6 (by omega)⟩
end Rcs
namespace Rc
def idx:List RcE→Int→Option Nat
 | [],_=>none
 |x::l,n=>if x.n=n then some 0 else(idx l n).map (·+1)
theorem idx_some:∀ {L:List RcE} {n:Int} {i:Nat},idx L n=some i→∃x,L[i]? =some x∧x.n=n∧∀k y,k<i→L[k]? =some y→y.n≠n
 | [],n,i,h=>by cases h
 |x::l,n,i,h=>by
  unfold idx at h
  split at h
  ·cases h;exact⟨x,rfl,by assumption,fun k y hk=>absurd hk (Nat.not_lt_zero _)⟩
  ·rename_i hne
   cases hr:idx l n with
   |none=>rw[hr] at h;cases h
   |some j=>
    rw[hr] at h;cases h;obtain⟨y,h1,h2,h3⟩:=idx_some hr;refine⟨y,by simpa using h1,h2,fun k z hk hz=> ?_⟩;cases k with
    |zero=>simp at hz;subst hz;exact hne
    |succ k=>exact h3 k z (by have hk:k+1<j+1:=hk;omega) (by simpa using hz)
theorem idx_none:∀ {L:List RcE} {n:Int},idx L n=none→∀x,x∈L→x.n≠n
 | [],n,_,x,hx=>by cases hx
 |y::l,n,h,x,hx=>by
  unfold idx at h
  split at h
  ·cases h
  ·rename_i hne
   cases hr:idx l n with
   |some j=>rw[hr] at h;cases h
   |none=>
    rcases List.mem_cons.1 hx with rfl|q
    ·exact hne
    ·exact idx_none hr x q
theorem idx_at{L:List RcE}{n:Int}{i:Nat}{x:RcE}(hx:L[i]? =some x)(hn:x.n=n)(hno:∀k y,k<i→L[k]? =some y→y.n≠n):idx L n=some i:=by
 cases h:idx L n with
 |none=>exact absurd hn (idx_none h x (List.mem_of_getElem? hx))
 |some j=>
  obtain⟨y,h1,h2,h3⟩:=idx_some h;rcases Nat.lt_trichotomy i j with q|q|q
  ·exact absurd hn (h3 i x q hx)
  ·rw[q]
  ·exact absurd h2 (hno j y q h1)
def idxV(L:List RcE)(n:Int):Int:=match idx L n with|none=> -1|some i=>i
section
variable {w:World} {a:RcAt} {hp:Int} {G:Int→Option Gr}
theorem of_none(h:Rcs w a hp G){n:Int}(hg:G n=none):idx a.L n=none:=by
 cases hi:idx a.L n with
 |none=>rfl
 |some i=>
  obtain⟨x,h1,h2,_⟩:=idx_some hi;have:=(h.key (List.mem_of_getElem? h1)).2.2;rw[h2,hg] at this;cases this
theorem of_some(h:Rcs w a hp G){n:Int}{g:Gr}(hg:G n=some g):∃i x,idx a.L n=some i∧a.L[i]? =some x∧x.n=n∧x.g=g:=by
 obtain⟨n1,n8⟩:=h.ok.dom n (by rw[hg];rfl);have hm:=mem_of n1 n8 hg;rw[←h.can] at hm;obtain⟨y,hy,he⟩:=List.mem_map.1 hm;have hyn:y.n=n:=congrArg Prod.fst he;cases hi:idx a.L n with
 |none=>exact absurd hyn (idx_none hi y hy)
 |some i=>
  obtain⟨x,h1,h2,_⟩:=idx_some hi;have:=(h.key (List.mem_of_getElem? h1)).2.2;rw[h2,hg] at this;exact⟨i,x,rfl,h1,h2,(Option.some.inj this).symm⟩
def fdRel(w:World)(L:List RcE)(n:Int)(vi:Value)(wr:World):Prop:=∃i:Nat,i≤L.length∧vi=.int .i64 i∧(∀(k:Nat) (x:RcE),k<i→L[k]? =some x→x.n≠n)∧wr=w
theorem find(h:Rcs w a hp G)(n:Int):Calls Tryz.prog 109 #[.pointer (some ⟨a.rb,0,none⟩),.int .i64 n] w fun e w'=>e=.returned (.int .i64 (idxV a.L n))∧w=w':=by
 obtain⟨c0,c1,c2,_⟩:=h.cells;have hl:=h.len;have H:=Lh h;obtain⟨ao,ac,hlv⟩:=h.row.form;rw[hlv] at c2;clear h;go_enter func109,ntmps109;go_wp2;go_loopw [5] (fun vi wr=>fdRel w a.L n vi wr) (fun vi _=>a.L.length - (intOf vi).toNat)
 case atStart=>exact⟨0,by omega,rfl,fun k _ hk=>absurd hk (Nat.not_lt_zero _),rfl⟩
 case round=>
  obtain⟨i,hi,rfl,hno,rfl⟩:=hrel;have HNo:=Lh hno;clear hno
  by_cases hin:i<a.L.length
  ·obtain⟨x,hx⟩:∃x,a.L[i]? =some x:=⟨_,Zg hin⟩;obtain⟨g,off,cap,hv,hc⟩:=H.out.at' hx;rw[hlv] at hv;simp only[Value.slice.injEq] at hv;obtain⟨rfl,_,rfl⟩:=hv;obtain⟨x0,_⟩:=Rcs.seven hc;have hi1:(i:Int)<a.L.length:=by omega
   have HX:=Lh hx;clear hc hx hlv
   by_cases hxn:x.n=n
   ·have hb:(x.n == n)=true:=beq_iff_eq.2 hxn;have HV:Hid (idxV a.L n=i):=Lh (by unfold idxV;rw[idx_at HX.out hxn HNo.out]);clear hxn;go_wp2;go_ret;exact⟨by rw[HV.out];rfl,rfl⟩
   ·have hb:(x.n == n)=false:=beq_eq_false_iff_ne.2 hxn;have HXn:=Lh hxn;clear hxn;go_wp2;refine⟨⟨i+1,by omega,by go_num,fun k y hk hy=> ?_,rfl⟩,by simp[intOf];omega⟩;rcases Nat.lt_or_ge k i with q|q
    ·exact HNo.out k y q hy
    ·obtain rfl:k=i:=by omega
     rw[HX.out] at hy;cases hy;exact HXn.out
  ·have hi1:¬(i:Int)<a.L.length:=by omega
   have HV:Hid (idxV a.L n= -1):=Lh (by
    unfold idxV;cases hd:idx a.L n with
    |none=>rfl
    |some j=>
     obtain⟨x,h1,h2,_⟩:=idx_some hd;exact absurd h2 (HNo.out j x (by have:=(List.getElem?_eq_some_iff.1 h1).1;omega) h1))
   clear hlv;go_wp2;go_ret;exact⟨by rw[HV.out];rfl,rfl⟩
end
end Rc
end Go.Proofs.YtehihecknhcggaaGreat
