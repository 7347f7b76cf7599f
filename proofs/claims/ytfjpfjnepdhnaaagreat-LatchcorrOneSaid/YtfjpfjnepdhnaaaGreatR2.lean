/- . -/
import Derived.Calls
import Derived.KernelRfl
import Derived.Orders
import Derived.Laws.World
import Derived.Laws.Cells
import Derived.Laws.AppendOwn
import Derived.Laws.Entries
import Derived.Laws.StructEq
import Derived.Laws.Slices
import Derived.Laws.MakeOwn
import Derived.Laws.CopyRow
import Derived.ChangeArms
import Derived.DataReads
import Derived.SizedLaws
import Derived.Below
import Derived.Carry
import Derived.Test.YtfjpfjnepdhnaaaGreatR1
namespace Go.Proofs.YtfjpfjnepdhnaaaGreat.R
open Go
set_option linter.unusedVariables false
set_option linter.unusedSimpArgs false
section
section
variable {b0:Nat->Prop} {β:bd} {ob:cW} {w:World} {f:Nat->Ln}
theorem Row.sameBlock{bad bad':Nat->Prop}{τ:Ty}{l:List τ.den}{b o c:Nat}(hb:∀b,b<w.heap.size->bad' b->bad b)(h:Row w bad τ l b o c):Row w bad' τ l b o c:=
 h.mono (bad0:=fun _=>False) (bM.refl _ w) (fun _ _ x=>x.elim) hb (fun x=>x)
theorem c9.weaken{bad bad':Nat->Prop}(hb:∀b,b<w.heap.size->bad' b->bad b){a:AV}{v:Value}{bs:Ln}(h:c9 β ob w bad a v bs):c9 β ob w bad' a v bs:=
 fY (bad0:=fun _=>False) (bM.refl _ w) (fun _ _ x=>x.elim) hb (fun _ _ x=>x) h
theorem rM.mono{w':World}{bad0 bad bad':Nat->Prop}(hO:rM b0 β ob w bad)(hs:bM bad0 w w')(h0:∀b,b<w.heap.size->bad0 b->bad b)(hb:∀b,b<w.heap.size->bad' b->bad b)
  (hno:∀b,dd β ob b->¬bad0 b):rM b0 β ob w' bad' where
 row:=fun key τ l hk=>by rcases hO.row key τ l hk with h|⟨b,o,c,hb',hr⟩;exact .inl h;exact .inr ⟨b,o,c,hb',hr.mono hs h0 hb (hno b ⟨key,_,_,_,hk,hb'⟩)⟩
 box:=fun key cs hk=>by obtain⟨b,cells,elem,hb',hh,hv⟩:=hO.box key cs hk;have hlt:=(hO.lt b ⟨key,_,_,_,hk,hb'⟩).1;refine⟨b,cells,elem,hb',by rw[hs.2 b hlt (hno b ⟨key,_,_,_,hk,hb'⟩)];exact hh,hv.imp fun a v bs hbs hr=>dV hs h0 hb (fun x hx=>by have:=hbs x hx;cases this) hr⟩
 apart:=hO.apart
 lt:=fun b h=>⟨uY (hO.lt b h).1 hs.1,(hO.lt b h).2⟩
def iH(tmps:Array Value)(dst:Option Nat)(v:Value):Array Value:=
 match dst with
 |some t=>tmps.setIfInBounds t v
 |none=>tmps
theorem nj(a:Act)(dst:Option Nat)(v:Value):(a.put dst v).tmps=iH a.tmps dst v:=by cases dst<;>rfl
theorem SR.step{sl sl':List AV}{tmps:Array Value}{f':Nat->Ln}{used:Ln}{w':World}{av:AV}{v:Value}{bs:Ln}{dst:Option Nat}(h:SR b0 β ob w sl tmps f)(hd:jF b0 β ob f used w w' av v bs)
  (hlen:sl'.length=sl.length)
  (hdst:∀t,dst=some t->t<sl.length->sl'.getD t .any=av/\f' t=bs)
  (hoth:∀i,(dst≠some i\/¬i<sl.length)->(sl'.getD i .any=sl.getD i .any/\f' i=f i/\(i∈used->f i=[]))\/(f' i=[]/\sl'.getD i .any = .any)) :
  SR b0 β ob w' sl' (iH tmps dst v) f':=by
 have hsub:∀i b,b∈f' i->(b∈bs/\dst=some i/\i<sl.length)\/(b∈f i/\i∉used/\(dst≠some i\/¬i<sl.length)):=by
  intro i b hb;by_cases hi:dst=some i/\i<sl.length;rw[(hdst i hi.1 hi.2).2]at hb;exact .inl ⟨hb,hi⟩;have hn:dst≠some i\/¬i<sl.length:=by rcases Decidable.em (dst=some i) with h|h;exact .inr fun h'=>hi ⟨h,h'⟩;exact .inl h
  rcases hoth i hn with⟨_,h2,h3⟩|⟨h2,_⟩;refine .inr ⟨h2▸hb,fun hu=>?_,hn⟩;rw[h2,h3 hu]at hb;cases hb;rw[h2]at hb;cases hb
 have havd:∀b,Av b0 β ob f' b->b0 b\/dd β ob b\/(∃i,i∉used/\b∈f i)\/b∈bs:=by intro b hb;rcases hb with h|h|⟨i,h⟩;exact .inl h;exact .inr (.inl h);rcases hsub i b h with⟨h,_⟩|⟨h,hu,_⟩;exact .inr (.inr (.inr h));exact .inr (.inr (.inl ⟨i,hu,h⟩))
 have hav:∀b,b<w.heap.size->Av b0 β ob f' b->Av b0 β ob f b:=by intro b hlt hb;rcases havd b hb with h|h|⟨i,_,h⟩|h;exact .inl h;exact .inr (.inl h);exact .inr (.inr ⟨i,h⟩);rcases(hd.from_ b h).2 with⟨i,_,h⟩|h;exact .inr (.inr ⟨i,h⟩);omega
 have hu0:∀b,b<w.heap.size->(∃i,i∈used/\b∈f i)->Av b0 β ob f b:=fun b _ ⟨i,_,h⟩=>.inr (.inr ⟨i,h⟩);have htm:∀i,(iH tmps dst v).getD i undef=if dst=some i/\i<sl.length then v else tmps.getD i undef:=by
  intro i;cases dst with
  |none=>simp[iH]
  |some t=>
   simp only[s8,iH];by_cases hti:t=i/\i<sl.length;obtain⟨rfl,hlt⟩:=hti;have:t<tmps.size:=by rw[h.size];exact hlt
   simp[this,hlt];rw[ab hti];by_cases hti':t=i;subst hti';have:¬t<tmps.size:=by rw[h.size];exact fun h'=>hti ⟨rfl,h'⟩
   simp[Array.setIfInBounds,this];simp[Pm hti']
 refine⟨h.obs.mono hd.same hu0 hav (fun b hb ⟨i,_,hi⟩=>(h.fresh i b hi).2.2 hb),fun i=>?_,?_,fun i b hb=>?_,fun i=>?_,fun i j b hi hj=>?_,fun b hb=>uY (h.b0lt b hb) hd.same.1⟩;rw[htm];by_cases hi:dst=some i/\i<sl.length;rw[aa hi,(hdst i hi.1 hi.2).1,(hdst i hi.1 hi.2).2];exact hd.rel.weaken fun b _ hb=>havd b hb;rw[ab hi];have hn:dst≠some i\/¬i<sl.length:=by rcases Decidable.em (dst=some i) with h|h;exact .inr fun h'=>hi ⟨h,h'⟩;exact .inl h
 rcases hoth i hn with⟨h1,h2,h3⟩|⟨h2,h1⟩;rw[h1,h2];refine fY hd.same hu0 hav (fun b hb ⟨j,hj,hbj⟩=>?_) (h.slot i);have:=h.disj i j b hb hbj;subst this;rw[h3 hj]at hb;cases hb;rw[h1,h2];rfl;rw[hlen,<-h.size];cases dst<;>simp[iH];rcases hsub i b hb with⟨hb',_⟩|⟨hb',hu,_⟩;have hf:=hd.from_ b hb';refine⟨hf.1,?_,?_⟩;rcases hf.2 with⟨j,_,hj⟩|hge;exact(h.fresh j b hj).2.1;intro hb0;have:=h.b0lt b hb0;omega;rcases hf.2 with⟨j,_,hj⟩|hge;exact(h.fresh j b hj).2.2;intro ho;have:=(h.obs.lt b ho).1;omega;obtain⟨h1,h2,h3⟩:=h.fresh i b hb';exact⟨uY h1 hd.same.1,h2,h3⟩;by_cases hi:dst=some i/\i<sl.length;rw[(hdst i hi.1 hi.2).2];exact hd.nodup;have hn:dst≠some i\/¬i<sl.length:=by rcases Decidable.em (dst=some i) with h|h;exact .inr fun h'=>hi ⟨h,h'⟩;exact .inl h
 rcases hoth i hn with⟨_,h2,_⟩|⟨h2,_⟩;rw[h2];exact h.nodup i;rw[h2];exact rN;have cross:∀(j:Nat),b∈bs->b∈f j->j∉used->False:=by intro j h1 h2 h3;rcases(hd.from_ b h1).2 with⟨q,hq,hbq⟩|hge;exact h3 (h.disj j q b h2 hbq▸hq);have:=(h.fresh j b h2).1;omega
 rcases hsub i b hi with⟨h1,h2,_⟩|⟨h1,h2,_⟩<;>rcases hsub j b hj with⟨g1,g2,_⟩|⟨g1,g2,_⟩;rw[h2]at g2;exact uR g2;exact(cross j h1 g1 g2).elim;exact(cross i g1 h1 h2).elim;exact h.disj i j b h1 g1
structure EB(β:bd)(ob:cW)(β':bd)(ob':cW):Prop where
 keep:∀k x,al ob k=some x->al ob' k=some x/\β' k=β k
theorem EB.refl(β:bd)(ob:cW):EB β ob β ob:=⟨fun _ _ h=>⟨h,rfl⟩⟩
theorem EB.trans{β1 β2 β3:bd}{ob1 ob2 ob3:cW}(h:EB β1 ob1 β2 ob2)(h':EB β2 ob2 β3 ob3):EB β1 ob1 β3 ob3:=
 ⟨fun k x hk=>by obtain⟨h1,h2⟩:=h.keep k x hk;obtain⟨h3,h4⟩:=h'.keep k x h1;exact⟨h3,h4.trans h2⟩⟩
theorem sJ.ext{β β':bd}{key size off len:Nat}{v:Value}(he:β' key=β key)(h:sJ β key size off len v):sJ β' key size off len v:=by unfold sJ at *;rw[he];exact h
theorem eO.ext{β β':bd}{ob ob':cW}{bad:Nat->Prop}(hx:EB β ob β' ob'){a:AV}{v:Value}{bs:Ln}(h:eO β ob w bad a v bs):eO β' ob' w bad a v bs:=by
 cases a with
 |ow key=>obtain⟨h1,τ,l,hk,hs⟩:=h;obtain⟨g1,g2⟩:=hx.keep _ _ hk;exact⟨h1,τ,l,g1,hs.ext g2⟩
 |own key off len=>obtain⟨h1,τ,l,hk,hl,hs⟩:=h;obtain⟨g1,g2⟩:=hx.keep _ _ hk;exact⟨h1,τ,l,g1,hl,hs.ext g2⟩
 |ptr key off=>obtain⟨h1,b,c,cs,hb,hk,hv⟩:=h;obtain⟨g1,g2⟩:=hx.keep _ _ hk;exact⟨h1,b,c,cs,g2.trans hb,g1,hv⟩
 |ap key n=>obtain⟨h1,τ,l,b,c,hk,hl,hb,hv⟩:=h;obtain⟨g1,g2⟩:=hx.keep _ _ hk;exact⟨h1,τ,l,b,c,g1,hl,g2.trans hb,hv⟩
 |rptr key j off=>obtain⟨h1,τ,l,b,o,c,hk,hb,hv⟩:=h;obtain⟨g1,g2⟩:=hx.keep _ _ hk;exact⟨h1,τ,l,b,o,c,g1,g2.trans hb,hv⟩
 |_=>exact h
theorem jf.ext{β β':bd}{ob ob':cW}{bad:Nat->Prop}(hx:EB β ob β' ob'){a:AV}{v:Value}{bs:Ln}(h:jf β ob w bad a v bs):jf β' ob' w bad a v bs:=by
 have lift:∀{cs:List AV} {vs:List Value} {bs':Ln},Vs (eO β ob w bad) cs vs bs'->Vs (eO β' ob' w bad) cs vs bs':=fun hv=>hv.imp fun a v b _ hr=>hr.ext hx;cases a with
 |agg cs=>obtain⟨vs,rfl,hv⟩:=h;exact⟨vs,rfl,lift hv⟩
 |nbox cs=>obtain⟨b,cells,elem,bs',rfl,rfl,hh,hv⟩:=h;exact⟨b,cells,elem,bs',rfl,rfl,hh,lift hv⟩
 |fn g caps=>obtain⟨rfl,vs,rfl,hv⟩:=h;exact⟨rfl,vs,rfl,lift hv⟩
 |tup vs=>exact h.elim
 |ow key=>exact eO.ext (w:=w) (bad:=bad) (a:=.ow key) hx h
 |own key off len=>exact eO.ext (w:=w) (bad:=bad) (a:=.own key off len) hx h
 |ptr key off=>exact eO.ext (w:=w) (bad:=bad) (a:=.ptr key off) hx h
 |ap key n=>exact eO.ext (w:=w) (bad:=bad) (a:=.ap key n) hx h
 |rptr key j off=>exact eO.ext (w:=w) (bad:=bad) (a:=.rptr key j off) hx h
 |_=>exact h
theorem c9.ext{β β':bd}{ob ob':cW}{bad:Nat->Prop}(hx:EB β ob β' ob'){a:AV}{v:Value}{bs:Ln}(h:c9 β ob w bad a v bs):c9 β' ob' w bad a v bs:=by
 cases a with
 |tup as=>obtain⟨vs,rfl,hv⟩:=h;exact⟨vs,rfl,hv.imp fun a v b _ hr=>hr.ext hx⟩
 |agg cs=>exact jf.ext (w:=w) (bad:=bad) (a:=.agg cs) hx h
 |nbox cs=>exact jf.ext (w:=w) (bad:=bad) (a:=.nbox cs) hx h
 |fn g caps=>exact jf.ext (w:=w) (bad:=bad) (a:=.fn g caps) hx h
 |ow key=>exact jf.ext (w:=w) (bad:=bad) (a:=.ow key) hx h
 |own key off len=>exact jf.ext (w:=w) (bad:=bad) (a:=.own key off len) hx h
 |ptr key off=>exact jf.ext (w:=w) (bad:=bad) (a:=.ptr key off) hx h
 |ap key n=>exact jf.ext (w:=w) (bad:=bad) (a:=.ap key n) hx h
 |rptr key j off=>exact jf.ext (w:=w) (bad:=bad) (a:=.rptr key j off) hx h
 |_=>exact h
def Bf (β : bd) (key : Nat) (p : Option (Nat × Nat × Nat)) : bd := fun k => if k = key then p else β k
theorem cu {α : Type} {l : List (Nat × α)} {k j : Nat} {x : α} : al ((k, x) :: l) j = if k = j then some x else al l j := by
  simp only [al];cases h : Nat.beq k j with
  | true => have := xN h; simp [this]
  | false => have : k ≠ j := fun e => by subst e; rw [Mu] at h; cases h
             simp [this]
theorem EB.add {key : Nat} (hk : al ob key = none) (p : Option (Nat × Nat × Nat)) (x : Ob) : EB β ob (Bf β key p) ((key, x) :: ob) :=
  ⟨fun k y hy => by
    have hne : key ≠ k := fun e => by subst e; rw [hk] at hy; cases hy
    rw [cu, ab hne];exact ⟨hy, by simp [Bf, Ij hne]⟩⟩
theorem yD{key:Nat}(hk:al ob key=none)(p:Option (Nat×Nat×Nat))(x:Ob){b:Nat}(h:dd (Bf β key p) ((key,x)::ob) b):dd β ob b\/∃o c,p=some (b,o,c):=by obtain⟨k,y,o,c,h1,h2⟩:=h;rw[cu]at h1;split at h1;rename_i he;subst he;simp only[Bf,sq]at h2;exact .inr ⟨o,c,h2⟩;rename_i hne;simp only[Bf,ab (Ij hne)]at h2;exact .inl ⟨k,y,o,c,h1,h2⟩
theorem rM.add{bad:Nat->Prop}(hO:rM b0 β ob w bad){key:Nat}(hk:al ob key=none)(p:Option (Nat×Nat×Nat))(x:Ob)
  (hp:∀b o c,p=some (b,o,c)->b<w.heap.size/\¬b0 b/\¬dd β ob b)
  (hrow:∀τ l,x = .row τ l->(p=none/\l=[])\/∃b o c,p=some (b,o,c)/\Row w bad τ l b o c)
  (hbox:∀cs,x = .box cs->∃b cells elem,p=some (b,0,cs.length)/\w.heap[b]?=some (.cells cells elem (0,0))/\Vs (jf β ob w bad) cs cells.toList []) :
  rM b0 (Bf β key p) ((key,x)::ob) w bad:=by
 have hx:=EB.add (β:=β) hk p x;have old:∀{k y},al ((key,x)::ob) k=some y->(k=key/\y=x)\/(k≠key/\al ob k=some y):=by intro k y h;rw[cu]at h;split at h;rename_i he;exact .inl ⟨he.symm,(uR h).symm⟩;rename_i hne;exact .inr ⟨Ij hne,h⟩
 refine⟨fun k τ l h=>?_,fun k cs h=>?_,fun k1 k2 x1 x2 b o1 c1 o2 c2 h1 h2 h3 h4=>?_,fun b hb=>?_⟩;rcases old h with⟨rfl,he⟩|⟨hne,h⟩;simp only[Bf,sq];exact hrow τ l he.symm;simp only[Bf,ab hne];exact hO.row k τ l h;rcases old h with⟨rfl,he⟩|⟨hne,h⟩;obtain⟨b,cells,elem,h1,h2,h3⟩:=hbox cs he.symm;exact⟨b,cells,elem,by simp only[Bf,sq];exact h1,h2,h3.imp fun a v bs _ hr=>hr.ext hx⟩;obtain⟨b,cells,elem,h1,h2,h3⟩:=hO.box k cs h;exact⟨b,cells,elem,by simp only[Bf,ab hne];exact h1,h2,h3.imp fun a v bs _ hr=>hr.ext hx⟩;rcases old h1 with⟨rfl,_⟩|⟨n1,g1⟩<;>rcases old h2 with⟨rfl,_⟩|⟨n2,g2⟩;rfl;simp only[Bf,sq]at h3;simp only[Bf,ab n2]at h4;exact((hp _ _ _ h3).2.2 ⟨k2,_,_,_,g2,h4⟩).elim;simp only[Bf,ab n1]at h3;simp only[Bf,sq]at h4;exact((hp _ _ _ h4).2.2 ⟨k1,_,_,_,g1,h3⟩).elim;simp only[Bf,ab n1]at h3;simp only[Bf,ab n2]at h4;exact hO.apart _ _ _ _ _ _ _ _ _ g1 g2 h3 h4;rcases yD hk p x hb with h|⟨o,c,h⟩;exact hO.lt b h;exact⟨(hp _ _ _ h).1,(hp _ _ _ h).2.1⟩
structure iv(b0:Nat->Prop)(w:World)(bad:Nat->Prop)(bs:Ln)(β:bd)(ob:cW)(β':bd)(ob':cW):Prop where
 ext:EB β ob β' ob'
 obs:rM b0 β' ob' w bad
 own:∀b,dd β' ob' b->dd β ob b\/b∈bs
theorem iv.refl{bad:Nat->Prop}(hO:rM b0 β ob w bad)(bs:Ln):iv b0 w bad bs β ob β ob:=⟨EB.refl _ _,hO,fun _ h=>.inl h⟩
theorem iv.trans{bad:Nat->Prop}{β1 β2 β3:bd}{ob1 ob2 ob3:cW}{bs1 bs2:Ln}(h:iv b0 w bad bs1 β1 ob1 β2 ob2)(h':iv b0 w bad bs2 β2 ob2 β3 ob3):iv b0 w bad (bs1++bs2) β1 ob1 β3 ob3:=
 ⟨h.ext.trans h'.ext,h'.obs,fun b hb=>by rcases h'.own b hb with h1|h1;rcases h.own b h1 with h2|h2;exact .inl h2;exact .inr (by simp[h2]);exact .inr (by simp[h1])⟩
def lC(b0:Nat->Prop)(β:bd)(ob:cW)(w:World)(bs:Ln):Prop:=bs.Nodup/\∀b∈bs,b<w.heap.size/\¬b0 b/\¬dd β ob b
theorem uv{bad:Nat->Prop}(hO:rM b0 β ob w bad){key:Nat}{a:AV}{v:Value}{bs:Ln}(hl:lC b0 β ob w bs)(h:eO β ob w bad a v bs):
  ∃β',iv b0 w bad bs β ob β' (fi key ob a).2/\eO β' (fi key ob a).2 w bad (fi key ob a).1 v []/\nG (fi key ob a).1=true:=by
 have none_:fi key ob a=(.any,ob)->∃β',iv b0 w bad bs β ob β' (fi key ob a).2/\eO β' (fi key ob a).2 w bad (fi key ob a).1 v []/\nG (fi key ob a).1=true:=by intro he;rw[he];exact⟨β,iv.refl hO bs,rfl,rfl⟩
 have same_:bs=[]->fi key ob a=(a,ob)->nG a=true->∃β',iv b0 w bad bs β ob β' (fi key ob a).2/\eO β' (fi key ob a).2 w bad (fi key ob a).1 v []/\nG (fi key ob a).1=true:=by intro hb he hf;subst hb;rw[he];exact⟨β,iv.refl hO [],h,hf⟩
 cases a with
 |new τ l=>
  cases hk:al ob (fk ob key) with
  |some y=>exact none_ (by simp[fi,hk])
  |none=>
   have he:fi key ob (.new τ l)=(.ow (fk ob key),(fk ob key,.row τ l)::ob):=by simp[fi,hk]
   generalize fk ob key=key at he hk;rw[he];rcases h with⟨hv,hl0,hb⟩|⟨b,o,c,hb,hv,hr⟩;subst hl0;have hOA:=hO.add hk none (.row τ []) (by simp) (fun τ' l' he=>by cases he;exact .inl ⟨rfl,rfl⟩) (by simp);refine⟨Bf β key none,⟨EB.add hk _ _,hOA,fun b hb'=>?_⟩,⟨rfl,τ,[],by rw[cu,aa rfl],?_⟩,rfl⟩;rcases yD hk _ _ hb' with h|⟨o,c,h⟩;exact .inl h;cases h;simp[sJ,Bf,hv];subst hb;have hlb:=hl.2 b (by simp);have hOA:=hO.add hk (some (b,o,c)) (.row τ l) (fun b' o' c' he=>by cases he;exact hlb) (fun τ' l' he=>by cases he;exact .inr ⟨b,o,c,rfl,hr⟩) (by simp);refine⟨Bf β key (some (b,o,c)),⟨EB.add hk _ _,hOA,fun b' hb'=>?_⟩,⟨rfl,τ,l,by rw[cu,aa rfl],?_⟩,rfl⟩;rcases yD hk _ _ hb' with h|⟨o,c,h⟩;exact .inl h;cases h;exact .inr (by simp);have hlc:l.length<=c:=by obtain⟨_,_,_,h,_⟩:=hr;exact h.1
   simp only[sJ,Bf,sq];exact⟨o,c,hv,hlc,by omega,by simp⟩
 |narr n τ l=>
  cases hk:al ob (fk ob key) with
  |some y=>exact none_ (by simp[fi,hk])
  |none=>
   have he:fi key ob (.narr n τ l)=(.ap (fk ob key) n,(fk ob key,.row τ l)::ob):=by simp[fi,hk]
   generalize fk ob key=key at he hk;rw[he];obtain⟨hn,b,hb,hv,hr⟩:=h;subst hb;have hlb:=hl.2 b (by simp);have hOA:=hO.add hk (some (b,0,l.length)) (.row τ l) (fun b' o' c' he=>by cases he;exact hlb) (fun τ' l' he=>by cases he;exact .inr ⟨b,0,_,rfl,hr⟩) (by simp);refine⟨Bf β key (some (b,0,l.length)),⟨EB.add hk _ _,hOA,fun b' hb'=>?_⟩,⟨rfl,τ,l,b,l.length,by rw[cu,aa rfl],hn,by simp[Bf],hv⟩,rfl⟩;rcases yD hk _ _ hb' with h|⟨o,c,h⟩;exact .inl h;cases h;exact .inr (by simp)
 |any=>exact same_ h rfl rfl
 |non=>exact same_ h.2 rfl rfl
 |d τ x=>exact same_ h.1 rfl rfl
 |nil=>exact same_ h.1 rfl rfl
 |full τ l=>exact same_ h.1 rfl rfl
 |ow k=>exact same_ h.1 rfl rfl
 |own k o l=>exact same_ h.1 rfl rfl
 |arr n τ l=>exact same_ h.1 rfl rfl
 |ptr k o=>exact same_ h.1 rfl rfl
 |ap k n=>exact same_ h.1 rfl rfl
 |rop τ x=>exact same_ h.1 rfl rfl
 |rptr k j o=>exact same_ h.1 rfl rfl
 |nbox cs=>exact h.elim
 |agg cs=>exact h.elim
 |tup vs=>exact h.elim
 |fn g caps=>exact h.elim
theorem lC.left{b1 b2:Ln}(h:lC b0 β ob w (b1++b2)):lC b0 β ob w b1:=
 ⟨(D3.1 h.1).1,fun b hb=>h.2 b (by simp[hb])⟩
theorem lC.right{bad:Nat->Prop}{β':bd}{ob':cW}{b1 b2:Ln}(h:lC b0 β ob w (b1++b2))(hn:iv b0 w bad b1 β ob β' ob'):lC b0 β' ob' w b2:=
 ⟨(D3.1 h.1).2.1,fun b hb=>by obtain⟨h1,h2,h3⟩:=h.2 b (by simp[hb]);refine⟨h1,h2,fun ho=>?_⟩;rcases hn.own b ho with h4|h4;exact h3 h4;exact(D3.1 h.1).2.2 b h4 b hb rfl⟩
theorem lM{bad:Nat->Prop}:∀{cs:List AV} {key:Nat} {β:bd} {ob:cW} {vs:List Value} {bs:Ln},rM b0 β ob w bad->lC b0 β ob w bs->Vs (eO β ob w bad) cs vs bs ->
  ∃β',iv b0 w bad bs β ob β' (dB key ob cs).2/\Vs (eO β' (dB key ob cs).2 w bad) (dB key ob cs).1 vs []/\(dB key ob cs).1.all nG=true
 |[],key,β,ob,vs,bs,hO,hl,h=>by cases h;exact⟨β,iv.refl hO [],.nil,rfl⟩
 |c::cs,key,β,ob,vs,bs,hO,hl,h=>by obtain⟨v,vr,b,br,rfl,rfl,h1,h2⟩:=h.split;obtain⟨β1,n1,g1,f1⟩:=uv (key:=key) hO hl.left h1;obtain⟨β2,n2,g2,f2⟩:=lM (cs:=cs) (key:=key+1) n1.obs (hl.right n1) (h2.imp fun a v b _ hr=>hr.ext n1.ext);refine⟨β2,n1.trans n2,?_,?_⟩;have:=Vs.cons (eO.ext n2.ext g1) g2;simpa[dB]using this;simp[dB,f1,f2]
theorem CC{a:AV}(h:nG a=true):lW a=false:=by cases a<;>simp_all [nG,lW]
theorem GT{cs:List AV}(h:cs.all nG=true):lV (.agg cs)=false:=by simp only[lV,HR];intro x hx;simp[CC (uQ.1 h x hx)]
theorem Hf{cs:List AV}(h:cs.all nG=true):cR (.agg cs)=false:=GT h
theorem zi{a:AV}(h:nG a=true):cR a=false:=by cases a<;>simp_all [nG,cR,lV,lW]
theorem Fs{bad:Nat->Prop}(hO:rM b0 β ob w bad){key:Nat}{a:AV}{v:Value}{bs:Ln}(hl:lC b0 β ob w bs)(h:jf β ob w bad a v bs)(hna:∀cs,a ≠ .agg cs):
  ∃β',iv b0 w bad bs β ob β' (nB key ob a).2/\jf β' (nB key ob a).2 w bad (nB key ob a).1 v []/\cR (nB key ob a).1=false:=by
 have zero:eO β ob w bad a v bs->nB key ob a=fi key ob a->∃β',iv b0 w bad bs β ob β' (nB key ob a).2/\jf β' (nB key ob a).2 w bad (nB key ob a).1 v []/\cR (nB key ob a).1=false:=by intro h0 he;obtain⟨β',n1,g1,f1⟩:=uv (key:=key) hO hl h0;rw[he];exact⟨β',n1,pU g1,zi f1⟩
 cases a with
 |nbox cs=>
  cases hk:al ob key with
  |some y=>simp only[nB,hk];exact⟨β,iv.refl hO bs,rfl,rfl⟩
  |none=>
   obtain⟨b,cells,elem,bs',rfl,rfl,hh,hv⟩:=h;have hl':lC b0 β ob w bs':=⟨(zI.1 hl.1).2,fun x hx=>hl.2 x (by simp[hx])⟩;obtain⟨β1,n1,g1,f1⟩:=lM (key:=key+1) hO hl' hv;have hlb:=hl.2 b (by simp);have hnb:¬dd β1 (dB (key+1) ob cs).2 b:=fun ho=>by rcases n1.own b ho with h|h;exact hlb.2.2 h;exact(zI.1 hl.1).1 h
   have hk1:al (dB (key+1) ob cs).2 key=none:=by
    have:∀(cs:List AV) (j:Nat) (ob:cW),key<j->al ob key=none->al (dB j ob cs).2 key=none:=by
     intro cs
     induction cs with
     |nil=>intro j ob _ h;exact h
     |cons c cs ih=>
      intro j ob hj h;simp only[dB];refine ih (j+1) _ (by omega) ?_;have hne:fk ob j≠key:=by unfold fk;split<;>omega
      unfold fi;split<;>first
       |exact h
       |(split<;>first|exact h|(simp only;rw[cu,ab hne];exact h))
    exact this cs (key+1) ob (by omega) hk
   have hlen:(dB (key+1) ob cs).1.length=cells.toList.length:=g1.len;have hOA:=n1.obs.add hk1 (some (b,0,(dB (key+1) ob cs).1.length)) (.box (dB (key+1) ob cs).1) (fun b' o' c' he=>by cases he;exact⟨hlb.1,hlb.2.1,hnb⟩) (by simp)
    (fun cs' he=>by cases he;exact⟨b,cells,elem,rfl,hh,g1.imp fun a v b _ hr=>pU hr⟩)
   have he:nB key ob (.nbox cs)=(.ptr key 0,(key,.box (dB (key+1) ob cs).1)::(dB (key+1) ob cs).2):=by simp[nB,hk]
   rw[he];refine⟨Bf β1 key (some (b,0,(dB (key+1) ob cs).1.length)),⟨n1.ext.trans (EB.add hk1 _ _),hOA,fun b' hb'=>?_⟩,⟨rfl,b,_,_,by simp only[Bf,sq];rfl,by rw[cu,aa rfl],rfl⟩,rfl⟩;rcases yD hk1 _ _ hb' with h|⟨o,c,h⟩;rcases n1.own b' h with h|h;exact .inl h;exact .inr (by simp[h]);cases h;exact .inr (by simp)
 |agg cs=>exact absurd rfl (hna cs)
 |tup vs=>exact h.elim
 |fn g caps=>obtain⟨rfl,vs,rfl,hv⟩:=h;exact⟨β,iv.refl hO [],⟨rfl,vs,rfl,hv⟩,rfl⟩
 |any=>exact zero h rfl
 |non=>exact zero h rfl
 |d τ x=>exact zero h rfl
 |nil=>exact zero h rfl
 |full τ l=>exact zero h rfl
 |new τ l=>exact zero h rfl
 |ow k=>exact zero h rfl
 |own k o l=>exact zero h rfl
 |arr n τ l=>exact zero h rfl
 |narr n τ l=>exact zero h rfl
 |ptr k o=>exact zero h rfl
 |ap k n=>exact zero h rfl
 |rop τ x=>exact zero h rfl
 |rptr k j o=>exact zero h rfl
def xQ(v:AV):Bool:=
 match v with
 |.agg cs=>cs.all nG
 |.nbox _|.new _ _|.narr _ _ _|.tup _=>false
 |_=>true
theorem yU{bad:Nat->Prop}:∀{as:List AV} {key:Nat} {β:bd} {ob:cW} {vs:List Value} {bs:Ln},rM b0 β ob w bad->lC b0 β ob w bs->Vs (jf β ob w bad) as vs bs ->
  ∃β',iv b0 w bad bs β ob β' (kZ key ob as).2/\Vs (jf β' (kZ key ob as).2 w bad) (kZ key ob as).1 vs []/\(kZ key ob as).1.all xQ=true
 |[],key,β,ob,vs,bs,hO,hl,h=>by cases h;exact⟨β,iv.refl hO [],.nil,rfl⟩
 |a::as,key,β,ob,vs,bs,hO,hl,h=>by
  obtain⟨v,vr,b,br,rfl,rfl,h1,h2⟩:=h.split;have go:∀(x:AV×cW),kZ key ob (a::as)=((kZ (key+32) x.2 as).1.cons x.1,(kZ (key+32) x.2 as).2)->(∃β',iv b0 w bad b β ob β' x.2/\jf β' x.2 w bad x.1 v []/\xQ x.1=true) ->
    ∃β',iv b0 w bad (b++br) β ob β' (kZ key ob (a::as)).2/\Vs (jf β' (kZ key ob (a::as)).2 w bad) (kZ key ob (a::as)).1 (v::vr) []/\(kZ key ob (a::as)).1.all xQ=true:=by
   rintro x he ⟨β1,n1,g1,f1⟩;obtain⟨β2,n2,g2,f2⟩:=yU (as:=as) (key:=key+32) n1.obs (hl.right n1) (h2.imp fun a v b _ hr=>hr.ext n1.ext);rw[he];refine⟨β2,n1.trans n2,?_,?_⟩;have:=Vs.cons (jf.ext n2.ext g1) g2;simpa using this;simp only[OP,f1,f2,Pf]
  have zero:eO β ob w bad a v b->kZ key ob (a::as)=((kZ (key+32) (fi key ob a).2 as).1.cons (fi key ob a).1,(kZ (key+32) (fi key ob a).2 as).2)->_:=fun h0 he=>
   go (fi key ob a) he (by obtain⟨β',n1,g1,f1⟩:=uv (key:=key) hO hl.left h0;exact⟨β',n1,pU g1,by generalize (fi key ob a).1=y at f1;cases y<;>simp_all [nG,xQ]⟩)
  cases a with
  |agg cs=>obtain⟨us,rfl,hv⟩:=h1;refine go (.agg (dB key ob cs).1,(dB key ob cs).2) rfl ?_;obtain⟨β',n1,g1,f1⟩:=lM (key:=key) hO hl.left hv;exact⟨β',n1,⟨us,rfl,g1⟩,f1⟩
  |nbox cs=>exact go (.any,ob) rfl ⟨β,iv.refl hO b,rfl,rfl⟩
  |fn g caps=>obtain⟨rfl,us,rfl,hv⟩:=h1;exact go (.fn g caps,ob) rfl ⟨β,iv.refl hO [],⟨rfl,us,rfl,hv⟩,rfl⟩
  |tup vs=>exact h1.elim
  |any=>exact zero h1 rfl
  |non=>exact zero h1 rfl
  |d τ x=>exact zero h1 rfl
  |nil=>exact zero h1 rfl
  |full τ l=>exact zero h1 rfl
  |new τ l=>exact zero h1 rfl
  |ow k=>exact zero h1 rfl
  |own k o l=>exact zero h1 rfl
  |arr n τ l=>exact zero h1 rfl
  |narr n τ l=>exact zero h1 rfl
  |ptr k o=>exact zero h1 rfl
  |ap k n=>exact zero h1 rfl
  |rop τ x=>exact zero h1 rfl
  |rptr k j o=>exact zero h1 rfl
theorem IR{as:List AV}(h:as.all xQ=true):cR (.tup as)=false:=by
 simp only[cR,HR];intro x hx;have:=uQ.1 h x hx;cases x with
 |agg cs=>simp[GT (cs:=cs) (by simpa[xQ]using this)]
 |_=>simp_all [xQ,lV,lW]
theorem r9{bad:Nat->Prop}(hO:rM b0 β ob w bad){key:Nat}{a:AV}{v:Value}{bs:Ln}(hl:lC b0 β ob w bs)(h:c9 β ob w bad a v bs):
  ∃β',iv b0 w bad bs β ob β' (keyed key ob a).2/\c9 β' (keyed key ob a).2 w bad (keyed key ob a).1 v []/\cR (keyed key ob a).1=false:=by
 have one:(∀cs,a ≠ .agg cs)->keyed key ob a=nB key ob a->jf β ob w bad a v bs->∃β',iv b0 w bad bs β ob β' (keyed key ob a).2/\c9 β' (keyed key ob a).2 w bad (keyed key ob a).1 v []/\cR (keyed key ob a).1=false:=by intro hna he h1;obtain⟨β',n1,g1,f1⟩:=Fs (key:=key) hO hl h1 hna;rw[he];exact⟨β',n1,zL g1,f1⟩
 cases a with
 |tup vs=>obtain⟨us,rfl,hv⟩:=h;obtain⟨β',n1,g1,f1⟩:=yU (key:=key) hO hl hv;exact⟨β',n1,⟨us,rfl,g1⟩,IR f1⟩
 |agg cs=>obtain⟨us,rfl,hv⟩:=h;obtain⟨β',n1,g1,f1⟩:=lM (key:=key) hO hl hv;exact⟨β',n1,⟨us,rfl,g1⟩,Hf f1⟩
 |nbox cs=>exact one (by simp) rfl h
 |fn g caps=>exact one (by simp) rfl h
 |any=>exact one (by simp) rfl h
 |non=>exact one (by simp) rfl h
 |d τ x=>exact one (by simp) rfl h
 |nil=>exact one (by simp) rfl h
 |full τ l=>exact one (by simp) rfl h
 |new τ l=>exact one (by simp) rfl h
 |ow k=>exact one (by simp) rfl h
 |own k o l=>exact one (by simp) rfl h
 |arr n τ l=>exact one (by simp) rfl h
 |narr n τ l=>exact one (by simp) rfl h
 |ptr k o=>exact one (by simp) rfl h
 |ap k n=>exact one (by simp) rfl h
 |rop τ x=>exact one (by simp) rfl h
 |rptr k j o=>exact one (by simp) rfl h
theorem kx{α:Type}:∀{l:List α} {t i:Nat} {x d:α},(mZ l t x).getD i d=if i=t/\i<l.length then x else l.getD i d
 |[],t,i,x,d=>by simp[mZ]
 |y::r,0,i,x,d=>by cases i<;>simp[mZ]
 |y::r,t+1,i,x,d=>by
  cases i with
  |zero=>simp[mZ]
  |succ i=>have:=kx (l:=r) (t:=t) (i:=i) (x:=x) (d:=d);simpa[mZ]using this
theorem kY{α:Type}:∀{l:List α} {t:Nat} {x:α},(mZ l t x).length=l.length
 |[],t,x=>rfl
 |y::r,0,x=>rfl
 |y::r,t+1,x=>by simp[mZ,kY]
theorem SR.key{sl:List AV}{tmps:Array Value}{t key:Nat}{a:AV}(h:SR b0 β ob w sl tmps f)(ha:c9 β ob w (Av b0 β ob f) a (tmps.getD t undef) (f t)):
  ∃β',SR b0 β' (keyed key ob a).2 w (mZ sl t (keyed key ob a).1) tmps (fun i=>if i=t then[] else f i)/\cR (keyed key ob a).1=false/\EB β ob β' (keyed key ob a).2/\(∀b,dd β' (keyed key ob a).2 b->dd β ob b\/b∈f t):=by
 have hl:lC b0 β ob w (f t):=⟨h.nodup t,fun b hb=>h.fresh t b hb⟩;obtain⟨β',n1,g1,f1⟩:=r9 (key:=key) h.obs hl ha;have hav:∀b,b<w.heap.size->Av b0 β' (keyed key ob a).2 (fun i=>if i=t then[] else f i) b->Av b0 β ob f b:=by intro b _ hb;rcases hb with h1|h1|⟨i,h1⟩;exact .inl h1;rcases n1.own b h1 with h2|h2;exact .inr (.inl h2);exact .inr (.inr ⟨t,h2⟩);simp only at h1;split at h1;cases h1;exact .inr (.inr ⟨i,h1⟩)
 refine⟨β',⟨n1.obs.mono (bad0:=fun _=>False) (bM.refl _ w) (fun _ _ x=>x.elim) hav (fun _ _ x=>x),fun i=>?_,by rw[kY];exact h.size,fun i b hb=>?_,fun i=>?_,fun i j b hi hj=>?_,h.b0lt⟩,f1,n1.ext,n1.own⟩;rw[kx];split;rename_i hi;simp only[hi.1,sq];exact g1.weaken hav;rename_i hi;by_cases hit:i=t;have hlt:¬i<sl.length:=fun hlt=>hi ⟨hit,hlt⟩;have hsl:=h.slot i;have hd:sl.getD i .any = .any:=by simp[List.getD,qA (Nat.le_of_not_lt hlt)]
 rw[hd];simp only[aa hit];rfl;simp only[ab hit];exact((h.slot i).ext n1.ext).weaken hav;split at hb;cases hb;rename_i hit;obtain⟨h1,h2,h3⟩:=h.fresh i b hb;refine⟨h1,h2,fun ho=>?_⟩;rcases n1.own b ho with h4|h4;exact h3 h4;exact hit (h.disj i t b hb h4);show(if i=t then[] else f i).Nodup;split;exact rN;exact h.nodup i;split at hi;cases hi;split at hj;cases hj;exact h.disj i j b hi hj
end
end
section
section
variable {b0:Nat->Prop} {β:bd} {ob:cW} {w:World}
theorem NS{bad:Nat->Prop}{a:AV}(hn:∀vs,a ≠ .tup vs){v:Value}{bs:Ln}(h:c9 β ob w bad a v bs):jf β ob w bad a v bs:=by cases a<;>first|exact h|exact absurd rfl (hn _)
theorem L4{r:AV->Value->Ln->Prop}{as:List AV}{vs:List Value}{bs:Ln}(h:Vs r as vs bs):(∀a v b,a∈as->r a v b->b=[])->bs=[]:=by
 induction h with
 |nil=>intro _;rfl
 |cons h1 _ ih=>intro hr;rw[hr _ _ _ (by simp) h1,ih fun a v b ha h=>hr a v b (by simp[ha]) h];rfl
theorem mD{bad:Nat->Prop}{a:AV}{v:Value}{bs:Ln}(h:eO β ob w bad a v bs)(hn:lW a=false):bs=[]:=by
 cases a<;>first
  |(simp[lW]at hn;done)
  |exact h.1
  |exact h.2
  |exact h.elim
  |exact h
theorem kA{bad:Nat->Prop}{a:AV}{v:Value}{bs:Ln}(h:jf β ob w bad a v bs)(hn:lV a=false):bs=[]:=by
 cases a with
 |agg cs=>obtain⟨vs,rfl,hv⟩:=h;refine L4 hv fun a v b ha hr=>mD hr ?_;have:=HR.1 hn a ha;simpa using this
 |nbox cs=>simp[lV,lW]at hn
 |fn g caps=>exact h.1
 |tup vs=>exact h.elim
 |any=>exact mD (a:=.any) (v:=v) (β:=β) (ob:=ob) (w:=w) (bad:=bad) h hn
 |non=>exact mD (a:=.non) (β:=β) (ob:=ob) (w:=w) (bad:=bad) h hn
 |d τ x=>exact mD (a:=.d τ x) (β:=β) (ob:=ob) (w:=w) (bad:=bad) h hn
 |nil=>exact mD (a:=.nil) (β:=β) (ob:=ob) (w:=w) (bad:=bad) h hn
 |full τ l=>exact mD (a:=.full τ l) (β:=β) (ob:=ob) (w:=w) (bad:=bad) h hn
 |new τ l=>exact mD (a:=.new τ l) (β:=β) (ob:=ob) (w:=w) (bad:=bad) h hn
 |ow k=>exact mD (a:=.ow k) (β:=β) (ob:=ob) (w:=w) (bad:=bad) h hn
 |own k o l=>exact mD (a:=.own k o l) (β:=β) (ob:=ob) (w:=w) (bad:=bad) h hn
 |arr n τ l=>exact mD (a:=.arr n τ l) (β:=β) (ob:=ob) (w:=w) (bad:=bad) h hn
 |narr n τ l=>exact mD (a:=.narr n τ l) (β:=β) (ob:=ob) (w:=w) (bad:=bad) h hn
 |ptr k o=>exact mD (a:=.ptr k o) (β:=β) (ob:=ob) (w:=w) (bad:=bad) h hn
 |ap k n=>exact mD (a:=.ap k n) (β:=β) (ob:=ob) (w:=w) (bad:=bad) h hn
 |rop τ x=>exact mD (a:=.rop τ x) (β:=β) (ob:=ob) (w:=w) (bad:=bad) h hn
 |rptr k j o=>exact mD (a:=.rptr k j o) (β:=β) (ob:=ob) (w:=w) (bad:=bad) h hn
theorem sv{bad:Nat->Prop}{a:AV}{v:Value}{bs:Ln}(h:c9 β ob w bad a v bs)(hn:cR a=false):bs=[]:=by
 cases a with
 |tup as=>obtain⟨vs,rfl,hv⟩:=h;refine L4 hv fun a v b ha hr=>kA hr ?_;have:=HR.1 hn a ha;simpa using this
 |agg cs=>exact kA (a:=.agg cs) (β:=β) (ob:=ob) (w:=w) (bad:=bad) h hn
 |nbox cs=>exact kA (a:=.nbox cs) (β:=β) (ob:=ob) (w:=w) (bad:=bad) h hn
 |fn g caps=>exact kA (a:=.fn g caps) (β:=β) (ob:=ob) (w:=w) (bad:=bad) h hn
 |any=>exact kA (a:=.any) (v:=v) (β:=β) (ob:=ob) (w:=w) (bad:=bad) h hn
 |non=>exact kA (a:=.non) (β:=β) (ob:=ob) (w:=w) (bad:=bad) h hn
 |d τ x=>exact kA (a:=.d τ x) (β:=β) (ob:=ob) (w:=w) (bad:=bad) h hn
 |nil=>exact kA (a:=.nil) (β:=β) (ob:=ob) (w:=w) (bad:=bad) h hn
 |full τ l=>exact kA (a:=.full τ l) (β:=β) (ob:=ob) (w:=w) (bad:=bad) h hn
 |new τ l=>exact kA (a:=.new τ l) (β:=β) (ob:=ob) (w:=w) (bad:=bad) h hn
 |ow k=>exact kA (a:=.ow k) (β:=β) (ob:=ob) (w:=w) (bad:=bad) h hn
 |own k o l=>exact kA (a:=.own k o l) (β:=β) (ob:=ob) (w:=w) (bad:=bad) h hn
 |arr n τ l=>exact kA (a:=.arr n τ l) (β:=β) (ob:=ob) (w:=w) (bad:=bad) h hn
 |narr n τ l=>exact kA (a:=.narr n τ l) (β:=β) (ob:=ob) (w:=w) (bad:=bad) h hn
 |ptr k o=>exact kA (a:=.ptr k o) (β:=β) (ob:=ob) (w:=w) (bad:=bad) h hn
 |ap k n=>exact kA (a:=.ap k n) (β:=β) (ob:=ob) (w:=w) (bad:=bad) h hn
 |rop τ x=>exact kA (a:=.rop τ x) (β:=β) (ob:=ob) (w:=w) (bad:=bad) h hn
 |rptr k j o=>exact kA (a:=.rptr k j o) (β:=β) (ob:=ob) (w:=w) (bad:=bad) h hn
abbrev F0:Nat->Ln:=fun _=>[]
def uV(sl:List AV):Prop:=∀i,cR (sl.getD i .any)=false
theorem pA{b:Nat}:Av b0 β ob F0 b↔b0 b\/dd β ob b:=by constructor;rintro(h|h|⟨i,h⟩);exact .inl h;exact .inr h;cases h;rintro(h|h);exact .inl h;exact .inr (.inl h)
theorem Qh{f:Nat->Ln}{sl:List AV}{tmps:Array Value}(h:SR b0 β ob w sl tmps f)(hn:uV sl):SR b0 β ob w sl tmps F0:=by
 have:f=F0:=funext fun i=>sv (h.slot i) (hn i)
 rwa [this]at h
theorem ou{sl:List AV}{t:Nat}{a:AV}(h:uV sl)(ha:cR a=false):uV (mZ sl t a):=by intro i;rw[kx];split;exact ha;exact h i
theorem SR.put{sl:List AV}{tmps:Array Value}{used:Ln}{w':World}{av:AV}{v:Value}{bs:Ln}{key:Nat}(h:SR b0 β ob w sl tmps F0)(hd:jF b0 β ob F0 used w w' av v bs)(t:Nat):
  ∃β',SR b0 β' (keyed key ob av).2 w' (mZ sl t (keyed key ob av).1) (tmps.setIfInBounds t v) F0/\cR (keyed key ob av).1=false /\
   (∀b,dd β' (keyed key ob av).2 b->dd β ob b\/w.heap.size<=b):=by
 have hsame:bM (fun _=>False) w w':=hd.same.mono fun b _ ⟨i,_,hi⟩=>by cases hi
 have hbs:∀b∈bs,w.heap.size<=b:=fun b hb=>by rcases(hd.from_ b hb).2 with⟨i,_,hi⟩|h;cases hi;exact h
 have hsub:∀b,b<w.heap.size->(b0 b\/dd β ob b\/b∈bs)->Av b0 β ob F0 b:=by intro b hlt hb;rcases hb with h|h|h;exact .inl h;exact .inr (.inl h);have:=hbs b h;omega
 have hO:=h.obs.mono hsame (fun _ _ x=>x.elim) hsub (fun _ _ x=>x);have hrel:c9 β ob w' (fun b=>b0 b\/dd β ob b\/b∈bs) av v bs:=hd.rel.weaken fun b _ hb=>by rcases hb with h|h|h;exact .inl h;exact .inr (.inl h);exact .inr (.inr (.inr h))
 have hl:lC b0 β ob w' bs:=⟨hd.nodup,fun b hb=>⟨(hd.from_ b hb).1,fun h0=>by have:=h.b0lt b h0;have:=hbs b hb;omega,fun ho=>by have:=(h.obs.lt b ho).1;have:=hbs b hb;omega⟩⟩;obtain⟨β',n1,g1,f1⟩:=r9 (key:=key) hO hl hrel;have hav:∀b,b<w'.heap.size->Av b0 β' (keyed key ob av).2 F0 b->(b0 b\/dd β ob b\/b∈bs):=by intro b _ hb;rcases pA.1 hb with h1|h1;exact .inl h1;rcases n1.own b h1 with h2|h2;exact .inr (.inl h2);exact .inr (.inr h2)
 refine⟨β',⟨n1.obs.mono (bad0:=fun _=>False) (bM.refl _ w') (fun _ _ x=>x.elim) hav (fun _ _ x=>x),fun i=>?_,by rw[kY];simpa using h.size,(fun i b hb=>by cases hb),fun i=>rN,(fun i j b hi=>by cases hi),
  fun b hb=>uY (h.b0lt b hb) hsame.1⟩,f1,fun b hb=>?_⟩
 rw[kx];by_cases hi:i=t/\i<sl.length;rw[aa hi];have hlt:t<tmps.size:=by rw[h.size];exact hi.1▸hi.2
 have:(tmps.setIfInBounds t v).getD i undef=v:=by rw[hi.1];simp[hlt]
 rw[this];exact g1.weaken hav;rw[ab hi];have:(tmps.setIfInBounds t v).getD i undef=tmps.getD i undef:=by
  by_cases hit:t=i;subst hit;have:¬t<tmps.size:=by rw[h.size];exact fun h'=>hi ⟨rfl,h'⟩
  simp[Array.setIfInBounds,this];simp[Pm hit]
 rw[this];exact((fY hsame (fun _ _ x=>x.elim) hsub (fun _ _ x=>x) (h.slot i)).ext n1.ext).weaken hav;rcases n1.own b hb with h1|h1;exact .inl h1;exact .inr (hbs b h1)
theorem wL{r:AV->Value->Ln->Prop}{r':AV->Value->Ln->Prop}{g:AV->AV}{as:List AV}{vs:List Value}(h:Vs r as vs [])(hg:∀a v,a∈as->r a v []->r' (g a) v []):Vs r' (as.map g) vs []:=by
 generalize hb:([]:Ln)=bs at h
 induction h with
 |nil=>exact .nil
 |cons h1 _ ih=>have hb':=hb.symm;rw[N6]at hb';obtain⟨rfl,rfl⟩:=hb';have:=Vs.cons (hg _ _ (by simp) h1) (ih (fun a v ha hr=>hg a v (by simp[ha]) hr) rfl);simpa using this
section
variable {β':bd} {ob':cW} {bad bad':Nat->Prop} {g:AV->AV}
theorem vJ(h0:∀a v,eO β ob w bad a v []->eO β' ob' w bad' (g a) v []){a:AV}{v:Value}(h:jf β ob w bad a v []):jf β' ob' w bad' (tx g a) v []:=by
 cases a with
 |agg cs=>obtain⟨vs,rfl,hv⟩:=h;exact⟨vs,rfl,wL hv fun a v _ hr=>h0 a v hr⟩
 |fn f caps=>obtain⟨_,vs,rfl,hv⟩:=h;exact⟨rfl,vs,rfl,wL hv fun a v _ hr=>h0 a v hr⟩
 |nbox cs=>obtain⟨b,_,_,_,_,hb,_⟩:=h;cases hb
 |tup vs=>exact h.elim
 |any=>exact pU (h0 .any v h)
 |non=>exact pU (h0 .non v h)
 |d τ x=>exact pU (h0 (.d τ x) v h)
 |nil=>exact pU (h0 .nil v h)
 |full τ l=>exact pU (h0 (.full τ l) v h)
 |new τ l=>exact pU (h0 (.new τ l) v h)
 |ow k=>exact pU (h0 (.ow k) v h)
 |own k o l=>exact pU (h0 (.own k o l) v h)
 |arr n τ l=>exact pU (h0 (.arr n τ l) v h)
 |narr n τ l=>exact pU (h0 (.narr n τ l) v h)
 |ptr k o=>exact pU (h0 (.ptr k o) v h)
 |ap k n=>exact pU (h0 (.ap k n) v h)
 |rop τ x=>exact pU (h0 (.rop τ x) v h)
 |rptr k j o=>exact pU (h0 (.rptr k j o) v h)
theorem G4(h0:∀a v,eO β ob w bad a v []->eO β' ob' w bad' (g a) v []){a:AV}{v:Value}(h:c9 β ob w bad a v []):c9 β' ob' w bad' (lR g a) v []:=by
 cases a with
 |tup as=>obtain⟨vs,rfl,hv⟩:=h;exact⟨vs,rfl,wL hv fun a v _ hr=>vJ h0 hr⟩
 |_=>exact zL (vJ h0 (NS (by simp) h))
theorem II(h0:∀a v,eO β ob w bad a v []->eO β' ob' w bad' (g a) v []){a:AV}{v:Value}(h:jf β ob w bad a v []):jf β' ob' w bad' (lR g a) v []:=by
 cases a with
 |tup as=>exact h.elim
 |_=>exact vJ h0 h
end
def DN(g:AV->AV):Prop:=∀a,lW a=false->nG (g a)=true\/g a=a
theorem DN.new0{g:AV->AV}(h:DN g){a:AV}(ha:lW a=false):lW (g a)=false:=by rcases h a ha with h|h;exact CC h;rw[h];exact ha
theorem IT{a:AV}(h:nG a=true):lV a=false:=by cases a<;>simp_all [nG,lV,lW]
theorem DN.new1{g:AV->AV}(h:DN g){a:AV}(ha:lV a=false):lV (tx g a)=false:=by
 have flat:lW a=false->lV a=false->lV (g a)=false:=fun h0 h1=>by rcases h a h0 with hf|hf;exact IT hf;rw[hf];exact h1
 cases a with
 |agg cs=>simp only[tx,lV,HR,jC]at ha ⊢;rintro x ⟨y,hy,rfl⟩;have:=ha y hy;simp[h.new0 (by simpa using this)]
 |fn f cs=>rfl
 |_=>exact flat (by first|rfl|exact ha) ha
theorem DN.new2{g:AV->AV}(h:DN g){a:AV}(ha:cR a=false):cR (lR g a)=false:=by
 have base:∀x,lW x=false->cR x=false->cR (g x)=false:=fun x h0 h1=>by rcases h x h0 with hf|hf;exact zi hf;rw[hf];exact h1
 have one:lV a=false->(∀vs,tx g a ≠ .tup vs)->cR (tx g a)=false:=by
  intro h1 hne;have:=h.new1 h1;generalize tx g a=y at this hne;cases y with
  |tup vs=>exact absurd rfl (hne vs)
  |_=>exact this
 cases a with
 |tup vs=>simp only[lR,cR,HR,jC]at ha ⊢;rintro x ⟨y,hy,rfl⟩;have:=ha y hy;simp[h.new1 (by simpa using this)]
 |agg cs=>exact one ha (by simp[tx])
 |fn f cs=>exact one ha (by simp[tx])
 |_=>simp only[lR,tx];exact base _ ha ha
theorem SR.regroup{sl:List AV}{tmps:Array Value}(h:SR b0 β ob w sl tmps F0){β':bd}{ob':cW}{g:AV->AV}(ρ:Nat->Nat){b0':Nat->Prop}
  (hrow:∀k τ l,al ob' k=some (.row τ l)->al ob (ρ k)=some (.row τ l)/\β' k=β (ρ k))
  (hbox:∀k cs',al ob' k=some (.box cs')->∃cs,al ob (ρ k)=some (.box cs)/\β' k=β (ρ k)/\cs'=cs.map (lR g))
  (hinj:∀k1 k2 x1 x2,al ob' k1=some x1->al ob' k2=some x2->ρ k1=ρ k2->k1=k2)
  (hb0:∀b,b0' b->b0 b\/dd β ob b) (hdis:∀b,dd β' ob' b->¬b0' b)
  (hg:(∀b,b<w.heap.size->Av b0' β' ob' F0 b->Av b0 β ob F0 b)->∀a v,eO β ob w (Av b0 β ob F0) a v []->eO β' ob' w (Av b0' β' ob' F0) (g a) v [])
  {sl':List AV} (hlen:sl'.length=sl.length) (hsl:∀i,sl'.getD i .any=lR g (sl.getD i .any)\/sl'.getD i .any = .any) :
  SR b0' β' ob' w sl' tmps F0/\(∀b,dd β' ob' b->dd β ob b):=by
 have old:∀k x,al ob' k=some x->∃y,al ob (ρ k)=some y/\β' k=β (ρ k):=by
  intro k x hk;cases x with
  |row τ l=>obtain⟨h1,h2⟩:=hrow k τ l hk;exact⟨_,h1,h2⟩
  |box cs=>obtain⟨cs0,h1,h2,_⟩:=hbox k cs hk;exact⟨_,h1,h2⟩
 have hown:∀b,dd β' ob' b->dd β ob b:=by rintro b ⟨k,x,o,c,hk,hb⟩;obtain⟨y,h1,h2⟩:=old k x hk;exact⟨ρ k,y,o,c,h1,h2▸hb⟩
 have hav:∀b,b<w.heap.size->Av b0' β' ob' F0 b->Av b0 β ob F0 b:=by intro b _ hb;rcases pA.1 hb with h|h;exact pA.2 (hb0 b h);exact .inr (.inl (hown b h))
 have h0:=hg hav;refine⟨⟨⟨fun k τ l hk=>?_,fun k cs' hk=>?_,fun k1 k2 x1 x2 b o1 c1 o2 c2 h1 h2 h3 h4=>?_,fun b hb=>⟨(h.obs.lt b (hown b hb)).1,hdis b hb⟩⟩,fun i=>?_,by rw[hlen];exact h.size,(fun i b hb=>by cases hb),fun i=>rN,(fun i j b hi=>by cases hi),fun b hb=>?_⟩,hown⟩;obtain⟨h1,h2⟩:=hrow k τ l hk;rw[h2];rcases h.obs.row (ρ k) τ l h1 with h|⟨b,o,c,hb,hr⟩;exact .inl h;exact .inr ⟨b,o,c,hb,hr.sameBlock hav⟩;obtain⟨cs,h1,h2,rfl⟩:=hbox k cs' hk;obtain⟨b,cells,elem,hb,hh,hv⟩:=h.obs.box (ρ k) cs h1;exact⟨b,cells,elem,by rw[h2,hb,pH],hh,wL hv fun a v _ hr=>II h0 hr⟩;obtain⟨y1,e1,f1⟩:=old k1 x1 h1;obtain⟨y2,e2,f2⟩:=old k2 x2 h2;exact hinj k1 k2 x1 x2 h1 h2 (h.obs.apart _ _ _ _ _ _ _ _ _ e1 e2 (f1▸h3) (f2▸h4));rcases hsl i with hi|hi;rw[hi];exact G4 h0 (h.slot i);rw[hi];rfl;rcases hb0 b hb with h1|h1;exact h.b0lt b h1;exact(h.obs.lt b h1).1
theorem kt{k j:Nat}:∀{l:cW},al (fW l k) j=if j=k then none else al l j
 |[]=>by simp[fW,al]
 |(i,x)::r=>by
  simp only[fW];cases hb:Nat.beq i k with
  |true=>have:=xN hb;subst this;simp only[pD];rw[kt,cu];by_cases hj:j=i;simp[hj];simp[hj,Ij hj]
  |false=>
   have hne:i≠k:=fun e=>by subst e;rw[Mu]at hb;cases hb
   simp only[uP];rw[cu,cu,kt];by_cases hj:j=k;subst hj;simp[hne];by_cases hij:i=j;simp[hij,hj];simp[hij,hj]
theorem uu{g:AV->AV}{j:Nat}:∀{l:cW},al (nu g l) j=(al l j).map fun|.box cs=>.box (cs.map g)|o=>o
 |[]=>rfl
 |(i,x)::r=>by show al ((i,_)::nu g r) j=_;rw[cu,cu,uu];split<;>rfl
theorem eO.keep{bad:Nat->Prop}{β':bd}{ob':cW}{a:AV}{v:Value}{bs:Ln}(h:eO β ob w bad a v bs){bad':Nat->Prop}(hb:∀b,b<w.heap.size->bad' b->bad b)
  (hk:∀k∈gF a,(∀τ l,al ob k=some (.row τ l)->al ob' k=some (.row τ l))/\(∀cs,al ob k=some (.box cs)->∃cs',al ob' k=some (.box cs'))/\β' k=β k):eO β' ob' w bad' a v bs:=by
 have h':eO β ob w bad' a v bs:=fO (bad0:=fun _=>False) (bM.refl _ w) (fun _ _ x=>x.elim) hb (fun _ _ x=>x) h;cases a with
 |ow key=>obtain⟨h1,τ,l,h2,hs⟩:=h;obtain⟨g1,_,g3⟩:=hk key (by simp[gF]);exact⟨h1,τ,l,g1 _ _ h2,hs.ext g3⟩
 |own key off len=>obtain⟨h1,τ,l,h2,hl,hs⟩:=h;obtain⟨g1,_,g3⟩:=hk key (by simp[gF]);exact⟨h1,τ,l,g1 _ _ h2,hl,hs.ext g3⟩
 |ptr key off=>obtain⟨h1,b,c,cs,h2,h3,hv⟩:=h;obtain⟨_,g2,g3⟩:=hk key (by simp[gF]);obtain⟨cs',g2⟩:=g2 _ h3;exact⟨h1,b,c,cs',g3.trans h2,g2,hv⟩
 |ap key n=>obtain⟨h1,τ,l,b,c,h2,hl,h3,hv⟩:=h;obtain⟨g1,_,g3⟩:=hk key (by simp[gF]);exact⟨h1,τ,l,b,c,g1 _ _ h2,hl,g3.trans h3,hv⟩
 |rptr key j off=>obtain⟨h1,τ,l,b,o,c,h2,h3,hv⟩:=h;obtain⟨g1,_,g3⟩:=hk key (by simp[gF]);exact⟨h1,τ,l,b,o,c,g1 _ _ h2,g3.trans h3,hv⟩
 |_=>exact h'
theorem getD_map{g:AV->AV}(hg:g .any = .any){sl:List AV}{i:Nat}:(sl.map g).getD i .any=g (sl.getD i .any):=by simp only[iB,Kv];cases sl[i]?<;>simp[hg]
theorem uV.lift{sl:List AV}{g:AV->AV}(hn:uV sl)(ht:DN g)(hg:g .any = .any):uV (sl.map (lR g)):=by intro i;rw[getD_map (by simpa[lR,tx]using hg)];exact ht.new2 (hn i)
theorem tu{g:AV->AV}{key k:Nat}{x:Ob}(h:al (nu g (fW ob key)) k=some x):k≠key/\∃y,al ob k=some y/\x=(match y with|.box cs=>.box (cs.map g)|o=>o):=by rw[uu,kt]at h;split at h;cases h;rename_i hne;rw[LV]at h;obtain⟨y,h1,h2⟩:=h;exact⟨hne,y,h1,h2.symm⟩
theorem kr{g:AV->AV}{key k:Nat}(hk:k≠key):(∀τ l,al ob k=some (.row τ l)->al (nu g (fW ob key)) k=some (.row τ l))/\(∀cs,al ob k=some (.box cs)->∃cs',al (nu g (fW ob key)) k=some (.box cs'))/\β k=β k:=by refine⟨fun τ l h=>?_,fun cs h=>?_,rfl⟩;rw[uu,kt,ab hk,h];rfl;rw[uu,kt,ab hk,h];exact⟨_,rfl⟩
theorem SR.drop{sl:List AV}{tmps:Array Value}(h:SR b0 β ob w sl tmps F0){g:AV->AV}(key:Nat){b0':Nat->Prop}(hany:g .any = .any)
  (hb0:∀b,b0' b->b0 b\/dd β ob b) (hdis:∀b,dd β (nu (lR g) (fW ob key)) b->¬b0' b)
  (hg:(∀b,b<w.heap.size->Av b0' β (nu (lR g) (fW ob key)) F0 b->Av b0 β ob F0 b)->∀a v,eO β ob w (Av b0 β ob F0) a v [] ->
   eO β (nu (lR g) (fW ob key)) w (Av b0' β (nu (lR g) (fW ob key)) F0) (g a) v []) :
  SR b0' β (nu (lR g) (fW ob key)) w (sl.map (lR g)) tmps F0/\(∀b,dd β (nu (lR g) (fW ob key)) b->dd β ob b):=by
 refine h.regroup (fun k=>k) (fun k τ l hk=>?_) (fun k cs' hk=>?_) (fun _ _ _ _ _ _ he=>he) hb0 hdis hg (by simp) (fun i=>.inl (getD_map (by simpa[lR,tx]using hany)))
 .obtain⟨_,y,h1,h2⟩:=tu hk;cases y with
  |row σ m=>cases h2;exact⟨h1,rfl⟩
  |box cs=>cases h2
 .obtain⟨_,y,h1,h2⟩:=tu hk;cases y with
  |row σ m=>cases h2
  |box cs=>cases h2;exact⟨cs,h1,rfl,rfl⟩
theorem vL(key:Nat):yT key .any = .any:=rfl
theorem wX(key:Nat):DN (yT key):=by
 intro a ha;cases a<;>first
  |exact .inr rfl
  |(simp only[yT];cases Nat.beq _ key<;>first|exact .inl rfl|exact .inr rfl)
theorem iC{a b:Nat}(h:Nat.beq a b=false):a≠b:=fun e=>by subst e;rw[Mu]at h;cases h
theorem GQ{g:AV->AV}{key b:Nat}(h:dd β (nu g (fW ob key)) b):∃k x o c,k≠key/\al ob k=some x/\β k=some (b,o,c):=by obtain⟨k,x,o,c,hk,hb⟩:=h;obtain⟨hne,y,hy,_⟩:=tu hk;exact⟨k,y,o,c,hne,hy,hb⟩
def dm(β:bd)(ob:cW)(key b:Nat):Prop:=∃x o c,al ob key=some x/\β key=some (b,o,c)
theorem SR.kill{sl:List AV}{tmps:Array Value}(h:SR b0 β ob w sl tmps F0)(key:Nat):
  SR (fun b=>b0 b\/dm β ob key b) β (nu (pv key) (fW ob key)) w (sl.map (pv key)) tmps F0/\(∀b,dd β (nu (pv key) (fW ob key)) b->dd β ob b):=by
 refine h.drop key (vL key) (fun b hb=>hb.imp id fun⟨x,o,c,h1,h2⟩=>⟨key,x,o,c,h1,h2⟩) (fun b hb hb'=>?_) fun hav a v ha=>?_;obtain⟨k,x,o,c,hne,hk,hbk⟩:=GQ hb;rcases hb' with hb'|⟨x',o',c',hk',hbk'⟩;exact(h.obs.lt b ⟨k,x,o,c,hk,hbk⟩).2 hb';exact hne (h.obs.apart _ _ _ _ _ _ _ _ _ hk hk' hbk hbk');cases a with
 |ow k=>
  simp only[yT];cases hb:Nat.beq k key with
  |true=>rfl
  |false=>exact eO.keep (a:=.ow k) ha hav fun k' hk'=>by simp[gF]at hk';subst hk';exact kr (iC hb)
 |own k o l=>
  simp only[yT];cases hb:Nat.beq k key with
  |true=>rfl
  |false=>exact eO.keep (a:=.own k o l) ha hav fun k' hk'=>by simp[gF]at hk';subst hk';exact kr (iC hb)
 |ptr k o=>
  simp only[yT];cases hb:Nat.beq k key with
  |true=>rfl
  |false=>exact eO.keep (a:=.ptr k o) ha hav fun k' hk'=>by simp[gF]at hk';subst hk';exact kr (iC hb)
 |ap k n=>
  simp only[yT];cases hb:Nat.beq k key with
  |true=>rfl
  |false=>exact eO.keep (a:=.ap k n) ha hav fun k' hk'=>by simp[gF]at hk';subst hk';exact kr (iC hb)
 |rptr k j o=>
  simp only[yT];cases hb:Nat.beq k key with
  |true=>rfl
  |false=>exact eO.keep (a:=.rptr k j o) ha hav fun k' hk'=>by simp[gF]at hk';subst hk';exact kr (iC hb)
 |_=>exact eO.keep ha hav fun k' hk'=>by simp[gF]at hk'
theorem MU(key:Nat)(o:Ob):vU key o .any = .any:=rfl
theorem La(key:Nat)(τ:Ty)(l:List τ.den):DN (vU key (.row τ l)):=by
 intro a ha;cases a<;>first
  |exact .inr rfl
  |(simp only[vU];cases Nat.beq _ key<;>first|exact .inl rfl|exact .inr rfl)
theorem SR.freeze{sl:List AV}{tmps:Array Value}(h:SR b0 β ob w sl tmps F0){key:Nat}{τ:Ty}{l:List τ.den}(hk:al ob key=some (.row τ l)):
  SR b0 β (nu (Hh key (.row τ l)) (fW ob key)) w (sl.map (Hh key (.row τ l))) tmps F0/\(∀b,dd β (nu (Hh key (.row τ l)) (fW ob key)) b->dd β ob b):=by
 refine h.drop key (MU key _) (fun b hb=>.inl hb) (fun b hb hb'=>by obtain⟨k,x,o,c,hne,hk',hbk⟩:=GQ hb;exact(h.obs.lt b ⟨k,x,o,c,hk',hbk⟩).2 hb') fun hav a v ha=>?_
 have data:∀{off len:Nat} {v:Value},off+len<=l.length->sJ β key τ.size off len v ->
   eO β (nu (lR (vU key (.row τ l))) (fW ob key)) w (Av b0 β (nu (lR (vU key (.row τ l))) (fW ob key)) F0) (.d (.list τ) (cN l off len)) v []:=by
  intro off len v hol hs;obtain⟨h1,h2⟩:=qC h.obs hk hol hs;refine⟨rfl,[v],rfl,(h1.mono hav).enc fun hpos a n c hv hb=>?_⟩;have ho:∃o c',β key=some (a.block,o,c'):=by unfold sJ at hs;split at hs;simp only[cN,lE,F7]at hpos;omega;rename_i b o c0 hb';obtain⟨A,c',rfl,_⟩:=hs;cases hv;exact⟨o,c0,hb'⟩
  obtain⟨o,c',ho⟩:=ho;rcases pA.1 hb with hb|⟨k,x,o2,c2,hkx,hb2⟩;exact(h.obs.lt _ ⟨key,_,_,_,hk,ho⟩).2 hb;obtain⟨hne,y,hy,_⟩:=tu hkx;exact hne (h.obs.apart _ _ _ _ _ _ _ _ _ hy hk hb2 ho)
 cases a with
 |ow k=>
  simp only[vU];cases hb:Nat.beq k key with
  |true=>
   have:=xN hb;subst this;obtain⟨_,σ,m,h1,h2⟩:=ha;rw[hk]at h1;cases h1;have:=data (off:=0) (len:=l.length) (by omega) h2
   rwa [mL]at this
  |false=>exact eO.keep (a:=.ow k) ha hav fun k' hk'=>by simp[gF]at hk';subst hk';exact kr (iC hb)
 |own k o n=>
  simp only[vU];cases hb:Nat.beq k key with
  |true=>have:=xN hb;subst this;obtain⟨_,σ,m,h1,hol,h2⟩:=ha;rw[hk]at h1;cases h1;exact data hol h2
  |false=>exact eO.keep (a:=.own k o n) ha hav fun k' hk'=>by simp[gF]at hk';subst hk';exact kr (iC hb)
 |ptr k o=>
  simp only[vU];cases hb:Nat.beq k key with
  |true=>rfl
  |false=>exact eO.keep (a:=.ptr k o) ha hav fun k' hk'=>by simp[gF]at hk';subst hk';exact kr (iC hb)
 |ap k n=>
  simp only[vU];cases hb:Nat.beq k key with
  |true=>rfl
  |false=>exact eO.keep (a:=.ap k n) ha hav fun k' hk'=>by simp[gF]at hk';subst hk';exact kr (iC hb)
 |rptr k j o=>
  simp only[vU];cases hb:Nat.beq k key with
  |true=>rfl
  |false=>exact eO.keep (a:=.rptr k j o) ha hav fun k' hk'=>by simp[gF]at hk';subst hk';exact kr (iC hb)
 |_=>exact eO.keep ha hav fun k' hk'=>by simp[gF]at hk'
structure Rel(b0:Nat->Prop)(β:bd)(st:St)(w:World)(tmps:Array Value):Prop where
 sr:SR b0 β st.ob w st.sl tmps F0
 nn:uV st.sl
theorem zh{st:St}{tmps:Array Value}(h:Rel b0 β st w tmps)(key:Nat):Rel b0 β (freeze st key) w tmps/\(∀b,dd β (freeze st key).ob b->dd β st.ob b)/\(freeze st key).f=st.f:=by unfold freeze;split;rename_i τ l hk;obtain⟨h1,h2⟩:=h.sr.freeze hk;exact⟨⟨h1,h.nn.lift (La key τ l) rfl⟩,h2,rfl⟩;exact⟨h,fun _ h=>h,rfl⟩
theorem mi{tmps:Array Value}:∀(ks:Ln) {st:St},Rel b0 β st w tmps->Rel b0 β (kG st ks) w tmps/\(∀b,dd β (kG st ks).ob b->dd β st.ob b)/\(kG st ks).f=st.f
 |[],st,h=>⟨h,fun _ h=>h,rfl⟩
 |k::ks,st,h=>by obtain⟨h1,h2,h3⟩:=zh h k;obtain⟨g1,g2,g3⟩:=mi ks h1;exact⟨g1,fun b hb=>h2 b (g2 b hb),g3.trans h3⟩
theorem vV{tmps:Array Value}:∀(ts:Ln) {st:St},Rel b0 β st w tmps->Rel b0 β (vW st ts) w tmps/\(∀b,dd β (vW st ts).ob b->dd β st.ob b)/\(vW st ts).f=st.f
 |[],st,h=>⟨h,fun _ h=>h,rfl⟩
 |t::ts,st,h=>by obtain⟨h1,h2,h3⟩:=mi (MN st (st.sl.getD t .any)) h;obtain⟨g1,g2,g3⟩:=vV ts h1;exact⟨g1,fun b hb=>h2 b (g2 b hb),g3.trans h3⟩
theorem Rel.put{st:St}{tmps:Array Value}{used:Ln}{w':World}{av:AV}{v:Value}{bs:Ln}(h:Rel b0 β st w tmps)(hd:jF b0 β st.ob F0 used w w' av v bs)(dst:Option Nat):
  ∃β',Rel b0 β' (st.put dst av) w' (iH tmps dst v)/\(∀b,dd β' (st.put dst av).ob b->dd β st.ob b\/w.heap.size<=b):=by
 cases dst with
 |some t=>obtain⟨β',h1,h2,h3⟩:=h.sr.put (key:=keyOf t) hd t;exact⟨β',⟨h1,ou h.nn h2⟩,h3⟩
 |none=>have:=h.sr.step (f':=F0) (dst:=none) hd rfl (fun t ht=>by cases ht) (fun i _=>.inl ⟨rfl,rfl,fun _=>rfl⟩);exact⟨β,⟨this,h.nn⟩,fun b hb=>.inl hb⟩
end
end
section
def noβ:bd:=fun _=>none
def Enters(P : Program)(g : FuncId): Prop := ∃ fn, P.funcs[g]? = some fn ∧ (fn.name == "runtime.NumGoroutine") = false ∧ fn.body.isSome = true
theorem Enters.run{P:Program}{g:FuncId}(h:Enters P g)(args:Array Value)(w:World):(callFunc g args).run P w = .ok (.enter g args) w:=by
 obtain⟨fn,h1,h2,h3⟩:=h
 have h2' : ¬ fn.name = "runtime.NumGoroutine" := by simpa using h2
 have h3':¬fn.body=none:=by intro h;rw[h]at h3;cases h3
 simp[callFunc,h1,h2',h3']
def mF:List Mode->List Value->List Value
 |.io _::ms,v::vs=>v::mF ms vs
 |_::ms,_::vs=>mF ms vs
 |_,_=>[]
structure se(b0:Nat->Prop)(ms:List Mode)(rs:List Sh)(vs:List Value)(bs:Ln)(w w':World)(r:eU (rs++df ms))(v:Value):Prop where
 same:bM (· ∈ bs) w w'
 res:∃b1 b2,(b1++b2).Nodup/\(∀b∈b1++b2,b<w'.heap.size/\(b∈bs\/w.heap.size<=b)) /\
  c9 noβ [] w' (fun b=>b0 b\/b∈b1++b2) (lQ rs (eP rs (df ms) r).1) v b1 /\
  Vs (c9 noβ [] w' (fun b=>b0 b\/b∈b1++b2)) ((gL (df ms) (eP rs (df ms) r).2).map Au) (mF ms vs) b2
def fP(P:Program)(E:Env)(C:bC):Prop:=
 ∀g ms rs,al E.sg g=some (ms,rs)->∀xs r,C g xs (rs++df ms)=some r->Enters P g /\
  ∀(b0:Nat->Prop) (w:World) (vs:List Value) (bs:Ln),Vs (c9 noβ [] w (fun b=>b0 b\/b∈bs)) xs vs bs->bs.Nodup->(∀b∈bs,b<w.heap.size/\¬b0 b)->(∀b,b0 b->b<w.heap.size) ->
   Calls P g vs.toArray w fun e w'=>∃v,e = .returned v/\se b0 ms rs vs bs w w' r v
def Kb(P:Program)(E:Env):Prop:=
 ∀g e,al E.cl g=some e->Enters P g/\∀(bad:Nat->Prop) (w:World) (l:List e.den) (v:Value),Reads w bad e l v->l.length<=mR ->
  Calls P g #[v] w fun en w'=>∃u bs,en = .returned u/\bM (fun _=>False) w w'/\bs.Nodup/\(∀b∈bs,b<w'.heap.size/\w.heap.size<=b) /\
   ∀bad',(∀b,b<w.heap.size->bad' b->bad b)->qM w' bad' e l u bs
def Ns(P:Program)(E:Env):Prop:=
 ∀g e,al E.gr g=some e->Enters P g/\∀(w:World) (n:Int),0<=n->n<=(mR:Int) ->
  Calls P g #[.slice none 0 0,.int .i64 n] w fun en w'=>∃u bs,en = .returned u/\bM (fun _=>False) w w'/\bs.Nodup/\(∀b∈bs,b<w'.heap.size/\w.heap.size<=b) /\
   ∀bad',qM w' bad' e ([]:List e.den) u bs
def FJ:Option FuncId->List Value
 |none=>[]
 |some g=>[.func (.func g) #[] #[]]
inductive F9(r:AV->Value->Prop):List AV->List Value->Prop
 |nil:F9 r [] []
 |cons {a v as vs}:r a v->F9 r as vs->F9 r (a::as) (v::vs)
def PL(P:Program)(g:FuncId)(f:List (Nat×Ob)->List AV->Option (Bool×AV)):Prop:=
 ∀(b0:Nat->Prop) (β:bd) (ob:cW) (w:World) (av:Nat->Prop),rM b0 β ob w av->(∀b,b0 b->b<w.heap.size)->∀(xs:List AV) (us:List Value) (r:AV),F9 (fun v u=>c9 β ob w av v u []) xs us->f ob xs=some (true,r) ->
  Calls P g us.toArray w fun e w'=>∃v,e = .returned v/\bM (fun _=>False) w w'/\∀bad',c9 β ob w' bad' r v []
def wJ(P:Program)(g:FuncId):Xt->Prop
 |.calc f=>PL P g f
 |.inplace τ f c=>(∀l,(f l).length=l.length) /\
   (∀(w:World) (A:Option Addr) (C:Nat),Calls P g (.slice A 0 C::FJ c).toArray w fun e w'=>e = .returned (.tuple #[])/\w'=w) /\
   ∀(bad:Nat->Prop) (w:World) (l:List τ.den) (b o c' C:Nat),Row w bad τ l b o c'->l≠[]->l.length<=C->l.length<=mR ->
    Calls P g (.slice (some ⟨b,o,none⟩) l.length C::FJ c).toArray w fun e w'=>e = .returned (.tuple #[])/\bM (· = b) w w'/\∀bad',Row w' bad' τ (f l) b o c'
 |.take τ f=>τ.hasList=false/\f []=[] /\
   (∀(w:World) (A:Option Addr) (C:Nat),Calls P g #[.slice A 0 C] w fun e w'=>e = .returned (.slice A 0 C)/\w'=w) /\
   ∀(bad:Nat->Prop) (w:World) (l:List τ.den) (b o c' C:Nat),Row w bad τ l b o c'->l≠[]->l.length<=C->C<=c'->l.length<=mR ->
    Calls P g #[.slice (some ⟨b,o,none⟩) l.length C] w fun e w'=>e = .returned (.slice (some ⟨b,o,none⟩) (f l).length C)/\bM (· = b) w w'/\∀bad',Row w' bad' τ (f l) b o C
 |.cut τ=>τ.hasList=false /\
   (∀(w:World) (A:Option Addr) (C:Nat),Calls P g #[.slice A 0 C,.int .i64 0,.int .i64 0] w fun e w'=>e = .returned (.slice A 0 C)/\w'=w) /\
   ∀(bad:Nat->Prop) (w:World) (l:List τ.den) (b o c' C i j:Nat),Row w bad τ l b o c'->l≠[]->l.length<=C->C<=c'->C<=9223372036854775807->l.length<=mR->i<=j->j<=l.length ->
    Calls P g #[.slice (some ⟨b,o,none⟩) l.length C,.int .i64 i,.int .i64 j] w fun e w'=>e = .returned (.slice (some ⟨b,o,none⟩) (l.take i++l.drop j).length C)/\bM (· = b) w w'/\∀bad',Row w' bad' τ (l.take i++l.drop j) b o C
def O7(P:Program)(E:Env):Prop:=∀g x,al E.so g=some x->Enters P g/\wJ P g x
def LH(P:Program)(E:Env)(g:FuncId)(h:HK):Prop:=
 ∀(C:bC),fP P E C->∀ms rs,al E.sg g=some (ms,rs)->∀xs r,h.run C xs (rs++df ms)=some r ->
  ∀(b0:Nat->Prop) (w:World) (vs:List Value) (bs:Ln),Vs (c9 noβ [] w (fun b=>b0 b\/b∈bs)) xs vs bs->bs.Nodup->(∀b∈bs,b<w.heap.size/\¬b0 b)->(∀b,b0 b->b<w.heap.size) ->
   Calls P g vs.toArray w fun e w'=>∃v,e = .returned v/\se b0 ms rs vs bs w w' r v
def RP(P:Program)(E:Env):Prop:=∀g h,al E.hk g=some h->Enters P g/\LH P E g h
section
variable {b0:Nat->Prop} {β:bd} {ob:cW} {w:World} {f:Nat->Ln}
theorem N8{a c:AV}(hc:c∈cellsOf a)(ho:ju c=true):nk a=true:=by
 have hd:∀(τ:Ty) (x:τ.den) (c:AV),c∈nM τ x->ju c=false:=by
  intro τ
  induction τ with
  |pair a b iha ihb=>intro x c hc;simp only[nM,jR]at hc;rcases hc with h|h;exact iha _ _ h;exact ihb _ _ h
  |_=>intro x c hc;simp only[nM,fQ]at hc;subst hc;rfl
 cases a with
 |agg cs=>simp only[nk,nh];exact⟨c,hc,by cases c<;>simp_all [ju,AS]⟩
 |d τ x=>rw[hd τ x c hc]at ho;cases ho
 |tup vs=>simp[cellsOf]at hc
 |any=>simp[cellsOf]at hc
 |arr n τ l=>simp[cellsOf]at hc
 |_=>
  simp only[cellsOf,fQ]at hc;subst hc
  first|rfl|(simp[ju]at ho)
theorem L5{τ:Ty}{u:Value}{ds:List Value}(hp:xU τ=false)(h:kj τ u ds):ds=[u]:=by
 cases τ with
 |pair a b=>cases hp
 |_=>exact h
theorem E7{bad:Nat->Prop}:∀{cs:List AV} {vs:List Value} {x:(τ:Ty)×τ.den},Vs (jf β ob w bad) cs vs []->pairUp cs=some x->enc w bad x.1 x.2 vs:=by
 intro cs
 induction cs with
 |nil=>intro vs x _ h;unfold pairUp at h;cases h
 |cons c r ih=>
  intro vs x hv h;cases c with
  |d τ v=>
   unfold pairUp at h;cases hp:xU τ with
   |true=>rw[hp]at h;cases h
   |false=>
    rw[hp]at h;generalize hbs:([]:Ln)=bs at hv;cases hv with
    |cons h1 h2=>rename_i u us b bs';obtain⟨e1,e2⟩:=N6.1 hbs.symm;subst e1;subst e2;obtain⟨_,ds,hrep,he⟩:=h1;have hds:ds=[u]:=L5 hp hrep;subst hds;simp only[uP]at h;split at h;cases h;cases h2;exact he;simp only[LV]at h;obtain⟨y,hy,rfl⟩:=h;exact⟨[u],us,rfl,he,ih h2 hy⟩
  |_=>unfold pairUp at h;cases h
theorem xh{bad bad':Nat->Prop}(hO:rM b0 β ob w bad)(hno:∀b,¬bad' b){key off:Nat}{u:Value}(h:eO β ob w bad (.ptr key off) u []):eO noβ [] w bad' (Bl ob key off) u []:=by
 obtain⟨_,b,c,cs,hb,hk,rfl⟩:=h;obtain⟨b',cells,elem,hb',hh,hv⟩:=hO.box key cs hk;rw[hb]at hb';cases hb';have hat:∀{x:AV},cs[off]?=some x->∃y,cells[off]?=some y/\jf β ob w bad x y []/\At w b off [y]:=by
  intro x hx;obtain⟨y,h1,h2⟩:=hv.pointwise.2 off x hx;simp only[Qa]at h1;refine⟨y,h1,h2,fun j z hj=>?_⟩;cases j with
  |zero=>simp at hj;subst hj;rw[cell_of hh];exact h1
  |succ j=>simp at hj
 simp only[Bl,hk];split
 .rename_i x hx;cases hc:(Nat.beq off 0&&Nat.ble 2 cs.length) with
  |false=>rw[hc]at hx;cases hx
  |true=>rw[hc]at hx;rw[eJ]at hc;have h0:off=0:=xN hc.1;subst h0;have he:=E7 hv hx;refine⟨rfl,⟨b,0,none⟩,cells.toList,rfl,rfl,hno _,fe (bad0:=fun _=>False) (bM.refl _ w) (fun _ _ x=>x.elim) (fun b _ h=>(hno b h).elim) he,fun j z hj=>?_⟩;rw[cell_of hh,Dk];simpa using hj
 split
 .rename_i τ x hx;cases hp:xU τ with
  |true=>rfl
  |false=>
   obtain⟨y,h1,h2,h3⟩:=hat hx;obtain⟨_,ds,hrep,he⟩:=h2;have hds:ds=[y]:=by cases τ<;>simp_all [xU,kj]
   subst hds;exact⟨rfl,_,_,rfl,rfl,hno _,fe (bad0:=fun _=>False) (bM.refl _ w) (fun _ _ x=>x.elim) (fun b _ h=>(hno b h).elim) he,h3⟩
 rename_i key' hx;obtain⟨y,h1,h2,h3⟩:=hat hx;split;rename_i σ l hkey;obtain⟨_,τ,l',hl',hs⟩:=h2;rw[hkey]at hl';cases hl';obtain⟨g1,g2⟩:=qC (off:=0) hO hkey (by omega) hs;rw[mL]at g1;exact⟨rfl,_,_,rfl,rfl,hno _,(g1.mono (fun b _ h=>(hno b h).elim)).enc fun _ _ _ _ _=>hno _,h3⟩;rfl;rfl
theorem AU{bad bad':Nat->Prop}(hO:rM b0 β ob w bad)(hb:∀b,b<w.heap.size->bad' b->bad b){c:AV}{u:Value}(hown:AS c=true->∀b,¬bad' b)(h:eO β ob w bad c u []):eO noβ [] w bad' (JV ob c) u []:=by
 have keep:eO β ob w bad' c u []:=fO (bad0:=fun _=>False) (bM.refl _ w) (fun _ _ x=>x.elim) hb (fun _ _ x=>x) h;cases c with
 |d τ x=>exact keep
 |rop τ x=>exact keep
 |ptr key off=>exact xh hO (hown rfl) h
 |_=>rfl
theorem Ez{R:Type}{E:Env}{bad bad':Nat->Prop}(hO:rM b0 β ob w bad)(hb:∀b,b<w.heap.size->bad' b->bad b){t:TypeId}{v:AV}{k:AV->Option R}{r:R}(hk:Jl E ob t v k=some r){u:Value}{bs:Ln}
  (h:c9 β ob w bad v u bs) (hbs:∀b∈bs,¬bad' b) (hown:nk v=true->∀b,¬bad' b):∃x,k x=some r/\c9 noβ [] w bad' x u []:=by
 unfold Jl at hk;split at hk
 .rename_i τ hτ;obtain⟨x,h1,h2,h3⟩:=xz hO hb hk h hbs fun c hc ho _ b _=>hown (N8 hc ho) b;refine⟨_,h1,?_⟩;cases τ with
  |pair a b=>exact⟨_,h3,jY h2⟩
  |int κ=>exact⟨rfl,_,h3,h2⟩
  |bool=>exact⟨rfl,_,h3,h2⟩
  |list e=>exact⟨rfl,_,h3,h2⟩
 have keep:c9 β ob w bad' v u bs:=h.weaken hb;split at hk;rename_i g caps;obtain⟨rfl,vs,rfl,hv⟩:=h;refine⟨_,hk,rfl,vs,rfl,wL hv fun a u ha hr=>AU hO hb (fun ho=>hown ?_) hr⟩;simp only[nk,nh];exact⟨a,ha,ho⟩;rename_i key off;have h':=h;obtain⟨rfl,_⟩:=h;exact⟨_,hk,zL (pU (xh hO (hown rfl) h'))⟩;obtain⟨rfl,h2⟩:=keep;exact⟨_,hk,rfl,h2⟩;split at hk;obtain⟨_,hk1⟩:=bO hk;obtain⟨rfl,h2⟩:=keep;exact⟨_,hk1,rfl,h2⟩;cases hk;cases hk
theorem Jk{R:Type}{E:Env}{bad bad':Nat->Prop}(hO:rM b0 β ob w bad)(hb:∀b,b<w.heap.size->bad' b->bad b):∀{ts:List TypeId} {vs:List AV} {us:List Value} {k:List AV->Option R} {r:R},
  xu E ob ts vs k=some r->F9 (fun v u=>∃bs,c9 β ob w bad v u bs/\(∀b∈bs,¬bad' b)/\(nk v=true->∀b,¬bad' b)) vs us->∃xs,k xs=some r/\Vs (c9 noβ [] w bad') xs us []:=by
 intro ts
 induction ts with
 |nil=>
  intro vs us k r hk h2;cases h2 with
  |nil=>exact⟨[],hk,.nil⟩
  |cons _ _=>simp[xu]at hk
 |cons t ts ih=>
  intro vs us k r hk h2;cases h2 with
  |nil=>simp[xu]at hk
  |cons h3 h4=>obtain⟨bs,g1,g2,g3⟩:=h3;simp only[xu]at hk;obtain⟨x,hk1,hx⟩:=Ez hO hb hk g1 g2 g3;obtain⟨xs,hk2,hxs⟩:=ih hk1 h4;exact⟨x::xs,hk2,.cons (b:=[]) hx hxs⟩
def vA:AV->Bool
 |.d τ _=>!τ.hasList
 |.new τ _=>!τ.hasList
 |_=>false
theorem uI:∀{τ:Ty} {x:τ.den},τ.hasList=false->(nM τ x).all vA=true
 |.pair a b,x,h=>by simp only[Ty.hasList,Ms]at h;simp only[nM,Qj,uI h.1,uI h.2,Pf]
 |.int _,x,_=>rfl
 |.bool,x,_=>rfl
 |.list e,x,h=>by simp[Ty.hasList]at h
theorem xI:∀{s:Sh} {x:s.den},s.hasList=false->(Dm s x).all vA=true
 |.d τ,x,h=>uI h
 |.own τ,x,h=>by simpa[Dm,vA,Sh.hasList]using h
 |.agg a b,x,h=>by simp only[Sh.hasList,Ms]at h;simp only[Dm,Qj,xI h.1,xI h.2,Pf]
theorem mP{bad bad':Nat->Prop}{w':World}:∀{τ:Ty} {x:τ.den} {cs:List Value},τ.hasList=false->enc w bad τ x cs->enc w' bad' τ x cs
 |.pair a b,x,cs,hl,h=>by simp only[Ty.hasList,Ms]at hl;obtain⟨c1,c2,rfl,h1,h2⟩:=h;exact⟨c1,c2,rfl,mP hl.1 h1,mP hl.2 h2⟩
 |.int _,x,cs,_,h=>h
 |.bool,x,cs,_,h=>h
 |.list e,x,cs,hl,h=>by simp[Ty.hasList]at hl
theorem Cg{bad bad':Nat->Prop}{τ:Ty}{l:List τ.den}(hl:τ.hasList=false){v:Value}{bs:Ln}(h:qM w bad τ l v bs):qM w bad' τ l v bs:=by rcases h with h|⟨b,o,c,hb,hv,cells,elem,hh,h1,h2,h3⟩;exact .inl h;exact .inr ⟨b,o,c,hb,hv,cells,elem,hh,h1,h2,fun i x hx=>let ⟨ds,he,hd⟩:=h3 i x hx;⟨ds,mP hl he,hd⟩⟩
theorem Kf{bad bad':Nat->Prop}{β':bd}{ob':cW}{a:AV}(hp:vA a=true){v:Value}{bs:Ln}(h:eO β ob w bad a v bs):eO β' ob' w bad' a v bs:=by
 cases a with
 |d τ x=>obtain⟨rfl,cs,hv,he⟩:=h;exact⟨rfl,cs,hv,mP (by simpa[vA]using hp) he⟩
 |new τ l=>exact Cg (by simpa[vA]using hp) h
 |_=>simp[vA]at hp
theorem L3{bad bad':Nat->Prop}{β':bd}{ob':cW}{as:List AV}{vs:List Value}{bs:Ln}(h:Vs (eO β ob w bad) as vs bs)(hp:as.all vA=true):Vs (eO β' ob' w bad') as vs bs:=
 h.imp' fun a v b ha _ hr=>Kf (uQ.1 hp a ha) hr
theorem vp{bad bad':Nat->Prop}{β':bd}{ob':cW}{s:Sh}{x:s.den}(hs:s.hasList=false){v:Value}{bs:Ln}(h:jf β ob w bad (nY s x) v bs):jf β' ob' w bad' (nY s x) v bs:=by
 cases s with
 |d τ=>obtain⟨rfl,cs,hv,he⟩:=h;exact⟨rfl,cs,hv,mP hs he⟩
 |own τ=>exact Cg hs h
 |agg a b=>obtain⟨vs,rfl,hv⟩:=h;exact⟨vs,rfl,L3 hv (by have:=xI (s:=.agg a b) (x:=x) hs;simpa[Dm]using this)⟩
theorem yy{bad bad':Nat->Prop}{β':bd}{ob':cW}:∀{s:List Sh} {x:eU s},s.any Sh.hasList=false->∀{vs:List Value} {bs:Ln},Vs (jf β ob w bad) (gL s x) vs bs->Vs (jf β' ob' w bad') (gL s x) vs bs
 |[],x,_,vs,bs,h=>by cases h;exact .nil
 |[s],x,hs,vs,bs,h=>by simp only[NC,List.any_nil,Bool.or_false]at hs;obtain⟨v,vr,b,br,rfl,rfl,h1,h2⟩:=h.split;cases h2;exact .cons (vp hs h1) .nil
 |s::t::r,x,hs,vs,bs,h=>by simp only[NC,Ms]at hs;obtain⟨v,vr,b,br,rfl,rfl,h1,h2⟩:=Vs.split (a:=nY s x.1) (as:=gL (t::r) x.2) h;exact .cons (vp hs.1 h1) (yy (s:=t::r) (x:=x.2) (by simp[hs.2]) h2)
theorem GC{bad bad':Nat->Prop}{β':bd}{ob':cW}{s:List Sh}{x:eU s}(hs:s.any Sh.hasList=false){v:Value}{bs:Ln}(h:c9 β ob w bad (lQ s x) v bs):c9 β' ob' w bad' (lQ s x) v bs:=by
 match s,x,hs,h with
 |[],x,hs,h=>obtain⟨vs,rfl,hv⟩:=h;cases hv;exact⟨[],rfl,.nil⟩
 |[s],x,hs,h=>simp only[NC,List.any_nil,Bool.or_false]at hs;have h1:jf β ob w bad (nY s x) v bs:=NS (a:=nY s x) (fun vs=>by cases s<;>simp[nY]) h;exact zL (vp hs h1)
 |s::t::r,x,hs,h=>
  have he:lQ (s::t::r) x = .tup (gL (s::t::r) x):=by cases r<;>rfl
  rw[he]at h ⊢;obtain⟨vs,rfl,hv⟩:=h;exact⟨vs,rfl,yy (s:=s::t::r) hs hv⟩
theorem CG(β:bd)(ob:cW):EB noβ [] β ob:=⟨fun k x h=>by cases h⟩
theorem G8:∀{ms:List Mode},ms.all Mode.isRo=true->df ms=[]
 |[],_=>rfl
 |.ro::ms,h=>by simp only[df];exact G8 (by simpa[Mode.isRo]using h)
 |.mv _::ms,h=>by simp[Mode.isRo]at h
 |.io _::ms,h=>by simp[Mode.isRo]at h
theorem Ov {sl : List AV} {a : Act} (hS : SR b0 β ob w sl a.tmps f) {used : Ln} {bad' : Nat → Prop} (hu : ∀ b, bad' b → C8 b0 β ob f used b) (xs : List Operand) (hx : ∀ x ∈ xs, ∀ t, x = .tmp t → t ∈ used) (hown : (xs.map (bk sl)).any nk = true → ∀ b, ¬ bad' b) :
    F9 (fun v u => ∃ bs, c9 β ob w (Av b0 β ob f) v u bs ∧ (∀ b ∈ bs, ¬ bad' b) ∧ (nk v = true → ∀ b, ¬ bad' b)) (xs.map (bk sl)) (xs.map a.eval) := by
  induction xs with
  | nil => exact .nil
  | cons x xs ih =>obtain ⟨bs, h1, h2, h3, _⟩ := uZ hS x;refine .cons ⟨bs, h1, fun b hb hbad => ?_, fun ho => hown (by simp [ho])⟩ (ih (fun y hy => hx y (by simp [hy])) fun ho => hown (by rw [xe, NC, ho, Bool.or_true]));obtain ⟨t, ht, hbt⟩ := h3 b hb;exact Ey hS (hx x (by simp) t ht) hbt (hu b hbad)
theorem Hw {P : Program} {R : Type} {E : Env} (hE : jJ P E) {C : bC} (hC : fP P E C) (hCl : Kb P E) (hGr : Ns P E) {sl : List AV} {a : Act} (hS : SR b0 β ob w sl a.tmps f) {o : Oper} {fn : Operand} {args : Array Operand} {ts : Array TypeId} (ho : o.op = .call ⟨.value fn, args, ts⟩) {k : AV → Option R} {r : R}
    (hk : tJ E C ob (bk sl fn) ts.toList (args.toList.map (bk sl)) k = some r) :
    ∃ av, k av = some r ∧ ∀ next Q, (∀ v w' bs, jF b0 β ob f (de o) w w' av v bs → next (a.put o.dst v) w') → o.wp P a w next Q := by
  have hmem : ∀ x ∈ args.toList, ∀ t, x = .tmp t → t ∈ de o := fun x hx t ht => qD.2 (by
    rw [ho, ← ht]; have : x ∈ args := by simpa using hx
    simp [Op.operands, Call.operands, this])
  have enter : ∀ {g : FuncId} {caps : List AV} {cv : List Value}, a.eval fn = .func (.func g) #[] cv.toArray → Enters P g → (execOp a.eval o).run P w = .ok (.enter g (args.toList.map a.eval ++ cv).toArray) w := by
    intro g caps cv hv hent
    have hr := hent.run (args.toList.map a.eval ++ cv).toArray w
    have he : (Array.map a.eval args ++ cv.toArray) = (args.toList.map a.eval ++ cv).toArray := by
      apply JK; simp
    unfold execOp
    rw [ho]
    simp only [resolve, hv, Deferred.ofValue, u7, Dt, u9, invoke, Rm, he, hr]
  unfold tJ at hk
  split at hk
  · rename_i g caps hfn
    obtain ⟨bf, hf1, _⟩ := uZ hS fn
    rw [hfn] at hf1
    obtain ⟨hbf, cv, hfv, hcv⟩ := hf1
    split at hk
    · rename_i e hcl
      split at hk
      · rename_i x hargs
        obtain ⟨y, hy, hyx⟩ : ∃ y, args.toList = [y] ∧ bk sl y = x := by
          match h : args.toList, hargs with
          | [y], h2 => exact ⟨y, rfl, by simpa using h2⟩
          | [], h2 => simp at h2
          | _ :: _ :: _, h2 => simp at h2
        cases hcv
        obtain ⟨bs, g1, g2, g3⟩ := OV hS (o := o) (x := y) (by rw [ho]; have : y ∈ args := (by rw [← Array.mem_toList_iff, hy]; simp); simp [Op.operands, Call.operands, this])
        rw [hyx] at g1
        obtain ⟨l, hk1, hr, _⟩ := pq hk hS.obs g1
        obtain ⟨l', hl', hk2⟩ := bind_some hk1
        obtain ⟨hll, hlim⟩ := wF hl'
        rw [Ac] at hll
        subst hll
        obtain ⟨hent, hcall⟩ := hCl g e hcl
        refine ⟨_, hk2, fun next Q hn => ?_⟩
        have hrun := enter (caps := []) hfv hent
        rw [hy] at hrun
        simp only [Oper.wp, hrun, Oper.upon]
        refine (hcall _ w l' _ hr (by simpa using hlim)).mono fun en w' h => ?_
        obtain ⟨u, b1, rfl, hsame, hnd, hfr, hnew⟩ := h
        refine hn u w' b1 ⟨hsame.mono fun _ _ x => x.elim, ?_, hnd, fun b hb => ⟨(hfr b hb).1, .inr (hfr b hb).2⟩⟩
        refine hnew _ fun b hlt hc => ?_
        rcases hc with h | h | ⟨i, _, h⟩ | h
        · exact .inl h
        · exact .inr (.inl h)
        · exact .inr (.inr ⟨i, h⟩)
        · have := (hfr b h).2; omega
      · cases hk
    · rename_i hcl
      split at hk
      · rename_i e hgr
        split at hk
        · rename_i x hargs
          obtain ⟨y0, y, hy, hy0, hyx⟩ : ∃ y0 y, args.toList = [y0, y] ∧ bk sl y0 = .nil ∧ bk sl y = x := by
            match h : args.toList, hargs with
            | [y0, y], h2 => exact ⟨y0, y, rfl, by simpa using h2⟩
            | [], h2 => simp at h2
            | [_], h2 => simp at h2
            | _ :: _ :: _ :: _, h2 => simp at h2
          cases hcv
          obtain ⟨bs0, q1, _⟩ := uZ hS y0
          obtain ⟨bs, g1, _⟩ := uZ hS y
          rw [hy0] at q1
          rw [hyx] at g1
          obtain ⟨_, hv0⟩ := q1
          cases x with
          | d τ n =>
            cases τ with
            | int κ =>
              simp only [ux] at hk
              cases κ with
              | i64 =>
                simp only at hk
                cases hc : (decide (0 ≤ n) && decide (n ≤ (mR : Int))) with
                | false => rw [hc] at hk; cases hk
                | true =>
                  rw [hc] at hk
                  simp only [eJ, ir] at hc
                  obtain ⟨_, cs, hv1, he1⟩ := g1
                  have hvn : a.eval y = .int .i64 n := by
                    cases hv1
                    exact by simpa [enc] using he1
                  obtain ⟨hent, hcall⟩ := hGr g e hgr
                  refine ⟨_, hk, fun next Q hn => ?_⟩
                  have hrun := enter (caps := []) hfv hent
                  rw [hy] at hrun
                  simp only [xe, JO, hv0, hvn, s7] at hrun
                  simp only [Oper.wp, hrun, Oper.upon]
                  refine (hcall w n hc.1 hc.2).mono fun en w' h => ?_
                  obtain ⟨u, b1, rfl, hsame, hnd, hfr, hnew⟩ := h
                  exact hn u w' b1 ⟨hsame.mono fun _ _ x => x.elim, hnew _, hnd, fun b hb => ⟨(hfr b hb).1, .inr (hfr b hb).2⟩⟩
              | _ => cases hk
            | _ => cases hk
          | _ => cases hk
        · cases hk
      rename_i hgr
      split at hk
      · rename_i ms s hsg
        cases hg : (s.any Sh.hasList && ((args.toList.map (bk sl)).any nk || caps.any AS)) || !ms.all Mode.isRo with
        | true => rw [hg] at hk; cases hk
        | false =>
          rw [hg] at hk
          simp only [uP] at hk
          simp only [Ms, Bool.not_eq_false', Bool.and_eq_false_iff] at hg
          obtain ⟨hg, hro⟩ := hg
          let bad' : Nat → Prop := fun b => s.any Sh.hasList = true ∧ C8 b0 β ob f (de o) b
          have hbu : ∀ b, bad' b → C8 b0 β ob f (de o) b := fun b h => h.2
          have hba : ∀ b, b < w.heap.size → bad' b → Av b0 β ob f b := fun b _ h => zC h.2
          have two := Ov hS hbu args.toList hmem (fun ho b hb => by
            rcases hg with h | h
            · have := hb.1; rw [h] at this; cases this
            · rw [ho] at h; exact absurd h.1 (by simp))
          obtain ⟨xs, hk1, hxs⟩ := Jk hS.obs hba hk two
          obtain ⟨z, hz, hk2⟩ := bind_some hk1
          obtain ⟨hent, hcall⟩ := hC g ms s hsg _ _ hz
          refine ⟨_, hk2, fun next Q hn => ?_⟩
          have hcaps : Vs (c9 noβ [] w bad') (caps.map (JV ob)) cv [] := (wL hcv fun c u hc hr => AU (bad' := bad') hS.obs hba (fun ho b hb => by
            rcases hg with h | h
            · have := hb.1; rw [h] at this; cases this
            · have := HR.1 h.2 c hc; exact this ho) hr).imp fun a v b _ hr => zL (pU hr)
          have hall := hxs.app hcaps
          rw [s7] at hall
          have hcalls := hcall bad' w _ [] (hall.imp fun a v b _ hr => hr.weaken fun c _ hc => by
            rcases hc with h | h
            · exact h
            · cases h) rN (by simp) (fun b hb => by
              rcases hb.2 with h | h | ⟨i, _, h⟩
              · exact hS.b0lt b h
              · exact (hS.obs.lt b h).1
              · exact (hS.fresh i b h).1)
          simp only [Oper.wp, enter (caps := caps) hfv hent, Oper.upon]
          refine hcalls.mono fun en w' h => ?_
          obtain ⟨v, rfl, hres⟩ := h
          obtain ⟨b1, b2, hnd, hfr, hv, hio⟩ := hres.res
          refine hn v w' b1 ⟨hres.same.mono (fun b _ hb => by cases hb), ?_, (D3.1 hnd).1, fun b hb => ?_⟩
          · cases hl : s.any Sh.hasList with
            | false => exact GC hl hv
            | true =>
              refine ((hv.ext (CG β ob)).weaken fun b _ hb => ?_)
              rcases hb with h | h | h | h
              · exact .inl ⟨hl, .inl h⟩
              · exact .inl ⟨hl, .inr (.inl h)⟩
              · exact .inl ⟨hl, .inr (.inr h)⟩
              · exact .inr (by simp [h])
          · obtain ⟨h1, h2⟩ := hfr b (by simp [hb])
            exact ⟨h1, .inr (h2.resolve_left (by simp))⟩
      · cases hk
  · cases hk
end
end
section
section
variable {b0:Nat->Prop} {β:bd} {ob:cW} {w:World}
theorem SR.weakB{b0':Nat->Prop}{sl:List AV}{tmps:Array Value}(h:SR b0' β ob w sl tmps F0)(hb:∀b,b0 b->b0' b):SR b0 β ob w sl tmps F0:=by
 have hav:∀b,b<w.heap.size->Av b0 β ob F0 b->Av b0' β ob F0 b:=fun b _ h=>by rcases pA.1 h with h|h;exact .inl (hb b h);exact .inr (.inl h)
 have hO:=h.obs.mono (bad0:=fun _=>False) (bM.refl _ w) (fun _ _ x=>x.elim) hav (fun _ _ x=>x);exact⟨⟨hO.row,hO.box,hO.apart,fun b hb'=>⟨(h.obs.lt b hb').1,fun h0=>(h.obs.lt b hb').2 (hb b h0)⟩⟩,fun i=>(h.slot i).weaken hav,h.size,(fun i b hb=>by cases hb),fun i=>rN,(fun i j b hi=>by cases hi),fun b h0=>h.b0lt b (hb b h0)⟩
theorem SR.world{sl:List AV}{tmps:Array Value}{w':World}{bad0:Nat->Prop}(h:SR b0 β ob w sl tmps F0)(hs:bM bad0 w w')(hb:∀b,b<w.heap.size->bad0 b->b0 b):SR b0 β ob w' sl tmps F0:=by
 have h0:∀b,b<w.heap.size->bad0 b->Av b0 β ob F0 b:=fun b hlt h=>.inl (hb b hlt h);exact⟨h.obs.mono hs h0 (fun _ _ h=>h) (fun b ho hbad=>(h.obs.lt b ho).2 (hb b (h.obs.lt b ho).1 hbad)),fun i=>fY hs h0 (fun _ _ h=>h) (fun b hb=>by cases hb) (h.slot i),h.size,(fun i b hb=>by cases hb),fun i=>rN,(fun i j b hi=>by cases hi),
  fun b h0=>uY (h.b0lt b h0) hs.1⟩
theorem SR.putL{sl:List AV}{tmps:Array Value}{av:AV}{v:Value}{bs:Ln}{key:Nat}(h:SR (fun b=>b0 b\/b∈bs) β ob w sl tmps F0)(hl:lC b0 β ob w bs)(hrel:c9 β ob w (fun b=>b0 b\/dd β ob b\/b∈bs) av v bs)(t:Nat):
  ∃β',SR b0 β' (keyed key ob av).2 w (mZ sl t (keyed key ob av).1) (tmps.setIfInBounds t v) F0/\cR (keyed key ob av).1=false /\
   (∀b,dd β' (keyed key ob av).2 b->dd β ob b\/b∈bs):=by
 have hsub:∀b,b<w.heap.size->(b0 b\/dd β ob b\/b∈bs)->Av (fun b=>b0 b\/b∈bs) β ob F0 b:=by intro b _ hb;rcases hb with h|h|h;exact .inl (.inl h);exact .inr (.inl h);exact .inl (.inr h)
 have hO0:=h.obs.mono (bad0:=fun _=>False) (bM.refl _ w) (fun _ _ x=>x.elim) hsub (fun _ _ x=>x);have hO:rM b0 β ob w (fun b=>b0 b\/dd β ob b\/b∈bs):=⟨hO0.row,hO0.box,hO0.apart,fun b hb=>⟨(h.obs.lt b hb).1,fun h0=>(h.obs.lt b hb).2 (.inl h0)⟩⟩;obtain⟨β',n1,g1,f1⟩:=r9 (key:=key) hO hl hrel;have hav:∀b,b<w.heap.size->Av b0 β' (keyed key ob av).2 F0 b->(b0 b\/dd β ob b\/b∈bs):=by intro b _ hb;rcases pA.1 hb with h1|h1;exact .inl h1;rcases n1.own b h1 with h2|h2;exact .inr (.inl h2);exact .inr (.inr h2)
 refine⟨β',⟨n1.obs.mono (bad0:=fun _=>False) (bM.refl _ w) (fun _ _ x=>x.elim) hav (fun _ _ x=>x),fun i=>?_,by rw[kY];simpa using h.size,(fun i b hb=>by cases hb),fun i=>rN,(fun i j b hi=>by cases hi),
  fun b hb=>h.b0lt b (.inl hb)⟩,f1,fun b hb=>n1.own b hb⟩
 rw[kx];by_cases hi:i=t/\i<sl.length;rw[aa hi];have hlt:t<tmps.size:=by rw[h.size];exact hi.1▸hi.2
 have:(tmps.setIfInBounds t v).getD i undef=v:=by rw[hi.1];simp[hlt]
 rw[this];exact g1.weaken hav;rw[ab hi];have:(tmps.setIfInBounds t v).getD i undef=tmps.getD i undef:=by
  by_cases hit:t=i;subst hit;have:¬t<tmps.size:=by rw[h.size];exact fun h'=>hi ⟨rfl,h'⟩
  simp[Array.setIfInBounds,this];simp[Pm hit]
 rw[this];exact(((h.slot i).weaken hsub).ext n1.ext).weaken hav
def Alike:Ob->Ob->Prop
 |.row τ l,.row σ m=>σ=τ/\m.length=l.length
 |.box cs,.box ds=>ds.length=cs.length
 |_,_=>False
theorem qi{key k:Nat}{x:Ob}:∀{l:cW},(∃y,al l key=some y)->al (fx l key x) k=if k=key then some x else al l k
 |[],h=>by obtain⟨y,h⟩:=h;simp[al]at h
 |(i,y)::r,h=>by
  simp only[fx];cases hb:Nat.beq i key with
  |true=>have:=xN hb;subst this;simp only[pD];rw[cu,cu];by_cases hk:k=i;simp[hk];simp[hk,Ij hk]
  |false=>have hne:=iC hb;simp only[uP];rw[cu,ab hne]at h;rw[cu,cu,qi h];by_cases hk:k=key;subst hk;simp[hne];by_cases hik:i=k;simp[hik,hk];simp[hik,hk]
theorem eO.alike{bad:Nat->Prop}{key:Nat}{x x':Ob}(hk:al ob key=some x)(ha:Alike x x'){a:AV}{v:Value}{bs:Ln}(h:eO β ob w bad a v bs):eO β (fx ob key x') w bad a v bs:=by
 have hl:=fun k=>qi (key:=key) (k:=k) (x:=x') ⟨x,hk⟩;have row:∀{k τ l},al ob k=some (.row τ l)->∃l':List τ.den,al (fx ob key x') k=some (.row τ l')/\l'.length=l.length:=by
  intro k τ l h;rw[hl k];by_cases he:k=key
  .subst he;rw[h]at hk;cases hk;cases x' with
   |row σ m=>obtain⟨rfl,hm⟩:=ha;exact⟨m,by simp,hm⟩
   |box cs=>exact ha.elim
  rw[ab he];exact⟨l,h,rfl⟩
 have box:∀{k cs},al ob k=some (.box cs)->∃cs',al (fx ob key x') k=some (.box cs'):=by
  intro k cs h;rw[hl k];by_cases he:k=key
  .subst he;rw[h]at hk;cases hk;cases x' with
   |row σ m=>exact ha.elim
   |box ds=>exact⟨ds,by simp⟩
  rw[ab he];exact⟨cs,h⟩
 cases a with
 |ow key=>obtain⟨h1,τ,l,h2,hs⟩:=h;obtain⟨l',g1,g2⟩:=row h2;exact⟨h1,τ,l',g1,by rw[g2];exact hs⟩
 |own key off len=>obtain⟨h1,τ,l,h2,hol,hs⟩:=h;obtain⟨l',g1,g2⟩:=row h2;exact⟨h1,τ,l',g1,by rw[g2];exact hol,hs⟩
 |ptr key off=>obtain⟨h1,b,c,cs,h2,h3,hv⟩:=h;obtain⟨cs',g1⟩:=box h3;exact⟨h1,b,c,cs',h2,g1,hv⟩
 |ap key n=>obtain⟨h1,τ,l,b,c,h2,hn,h3,hv⟩:=h;obtain⟨l',g1,g2⟩:=row h2;exact⟨h1,τ,l',b,c,g1,by rw[g2];exact hn,h3,hv⟩
 |rptr key j off=>obtain⟨h1,τ,l,b,o,c,h2,h3,hv⟩:=h;obtain⟨l',g1,_⟩:=row h2;exact⟨h1,τ,l',b,o,c,g1,h3,hv⟩
 |_=>exact h
theorem jf.alike{bad:Nat->Prop}{key:Nat}{x x':Ob}(hk:al ob key=some x)(ha:Alike x x'){a:AV}{v:Value}{bs:Ln}(h:jf β ob w bad a v bs):jf β (fx ob key x') w bad a v bs:=by
 have lift:∀{cs:List AV} {vs:List Value} {bs':Ln},Vs (eO β ob w bad) cs vs bs'->Vs (eO β (fx ob key x') w bad) cs vs bs':=fun hv=>hv.imp fun a v b _ hr=>hr.alike hk ha;cases a with
 |agg cs=>obtain⟨vs,rfl,hv⟩:=h;exact⟨vs,rfl,lift hv⟩
 |nbox cs=>obtain⟨b,cells,elem,bs',rfl,rfl,hh,hv⟩:=h;exact⟨b,cells,elem,bs',rfl,rfl,hh,lift hv⟩
 |fn g caps=>obtain⟨rfl,vs,rfl,hv⟩:=h;exact⟨rfl,vs,rfl,lift hv⟩
 |tup vs=>exact h.elim
 |ow key=>exact eO.alike (w:=w) (bad:=bad) (a:=.ow key) hk ha h
 |own key off len=>exact eO.alike (w:=w) (bad:=bad) (a:=.own key off len) hk ha h
 |ptr key off=>exact eO.alike (w:=w) (bad:=bad) (a:=.ptr key off) hk ha h
 |ap key n=>exact eO.alike (w:=w) (bad:=bad) (a:=.ap key n) hk ha h
 |rptr key j off=>exact eO.alike (w:=w) (bad:=bad) (a:=.rptr key j off) hk ha h
 |_=>exact h
theorem c9.alike{bad:Nat->Prop}{key:Nat}{x x':Ob}(hk:al ob key=some x)(ha:Alike x x'){a:AV}{v:Value}{bs:Ln}(h:c9 β ob w bad a v bs):c9 β (fx ob key x') w bad a v bs:=by
 cases a with
 |tup as=>obtain⟨vs,rfl,hv⟩:=h;exact⟨vs,rfl,hv.imp fun a v b _ hr=>hr.alike hk ha⟩
 |_=>exact zL (jf.alike hk ha (NS (by simp) h))
theorem jd{key:Nat}{x x':Ob}(hk:al ob key=some x){b:Nat}:dd β (fx ob key x') b↔dd β ob b:=by have hl:=fun k=>qi (key:=key) (k:=k) (x:=x') ⟨x,hk⟩;constructor;rintro⟨k,y,o,c,h1,h2⟩;rw[hl k]at h1;split at h1;rename_i he;subst he;exact⟨k,x,o,c,hk,h2⟩;exact⟨k,y,o,c,h1,h2⟩;rintro⟨k,y,o,c,h1,h2⟩;by_cases he:k=key;subst he;exact⟨k,x',o,c,by rw[hl k,aa rfl],h2⟩;exact⟨k,y,o,c,by rw[hl k,ab he];exact h1,h2⟩
theorem SR.write{sl:List AV}{tmps:Array Value}(h:SR b0 β ob w sl tmps F0){key b o c:Nat}{x x':Ob}{w':World}(hk:al ob key=some x)(hb:β key=some (b,o,c))(ha:Alike x x')(hs:bM (· = b) w w')
  (hrow:∀τ l,x' = .row τ l->Row w' (Av b0 β ob F0) τ l b o c)
  (hbox:∀cs,x' = .box cs->o=0/\c=cs.length/\∃cells elem,w'.heap[b]?=some (.cells cells elem (0,0))/\Vs (jf β ob w' (Av b0 β ob F0)) cs cells.toList []) :
  SR b0 β (fx ob key x') w' sl tmps F0:=by
 have hl:=fun k=>qi (key:=key) (k:=k) (x:=x') ⟨x,hk⟩;have hob:dd β ob b:=⟨key,x,o,c,hk,hb⟩;have h0:∀y,y<w.heap.size->y=b->Av b0 β ob F0 y:=fun y _ he=>he ▸ .inr (.inl hob);have hav:∀y,y<w.heap.size->Av b0 β (fx ob key x') F0 y->Av b0 β ob F0 y:=by intro y _ hy;rcases pA.1 hy with h|h;exact .inl h;exact .inr (.inl ((jd hk).1 h))
 have hav':∀y,y<w'.heap.size->Av b0 β (fx ob key x') F0 y->Av b0 β ob F0 y:=by intro y _ hy;rcases pA.1 hy with h|h;exact .inl h;exact .inr (.inl ((jd hk).1 h))
 refine⟨⟨fun k τ l hk'=>?_,fun k cs hk'=>?_,fun k1 k2 x1 x2 b' o1 c1 o2 c2 h1 h2 h3 h4=>?_,fun b' hb'=>?_⟩,fun i=>?_,h.size,(fun i b hb=>by cases hb),fun i=>rN,(fun i j b hi=>by cases hi),fun y hy=>uY (h.b0lt y hy) hs.1⟩;rw[hl k]at hk';split at hk';rename_i he;subst he;exact .inr ⟨b,o,c,hb,(hrow τ l (uR hk')).sameBlock hav'⟩;rename_i hne;rcases h.obs.row k τ l hk' with h1|⟨b',o',c',hb',hr⟩;exact .inl h1;refine .inr ⟨b',o',c',hb',hr.mono hs h0 hav fun he=>?_⟩;subst he;exact hne (h.obs.apart _ _ _ _ _ _ _ _ _ hk' hk hb' hb);rw[hl k]at hk';split at hk';rename_i he;subst he;obtain⟨ho,hc,cells,elem,hh,hv⟩:=hbox cs (uR hk');subst ho;subst hc;exact⟨b,cells,elem,hb,hh,hv.imp fun a v b _ hr=>(dV (bad0:=fun _=>False) (bM.refl _ w') (fun _ _ x=>x.elim) hav' (fun _ _ x=>x) hr).alike hk ha⟩;rename_i hne;obtain⟨b',cells,elem,hb',hh,hv⟩:=h.obs.box k cs hk';have hbb:b'≠b:=fun he=>by subst he;exact hne (h.obs.apart _ _ _ _ _ _ _ _ _ hk' hk hb' hb)
 have hlt:=(h.obs.lt b' ⟨k,_,_,_,hk',hb'⟩).1;refine⟨b',cells,elem,hb',by rw[hs.2 b' hlt hbb];exact hh,hv.imp fun a v bs hbs hr=>(dV hs h0 hav (fun y hy=>by have:=hbs y hy;cases this) hr).alike hk ha⟩;have old:∀{k y},al (fx ob key x') k=some y->∃z,al ob k=some z:=by intro k y hy;rw[hl k]at hy;split at hy;rename_i he;subst he;exact⟨x,hk⟩;exact⟨y,hy⟩
 obtain⟨z1,e1⟩:=old h1;obtain⟨z2,e2⟩:=old h2;exact h.obs.apart _ _ _ _ _ _ _ _ _ e1 e2 h3 h4;obtain⟨h1,h2⟩:=h.obs.lt b' ((jd hk).1 hb');exact⟨uY h1 hs.1,h2⟩;exact(fY hs h0 hav (fun y hy=>by cases hy) (h.slot i)).alike hk ha
theorem Ki{A:Type}{c1 c2 ds:List A}{o:Nat}(ho:o+ds.length<=c1.length):(c1++c2).take o++ds++(c1++c2).drop (o+ds.length)=(c1.take o++ds++c1.drop (o+ds.length))++c2:=by rw[N4 (by omega),List.drop_append_of_le_length (by omega)];simp
theorem H8{A:Type}{c1 c2 ds:List A}{o:Nat}(ho:c1.length<=o):(c1++c2).take o++ds++(c1++c2).drop (o+ds.length)=c1++(c2.take (o-c1.length)++ds++c2.drop (o-c1.length+ds.length)):=by rw[List.take_append,List.drop_append,BQ ho,Qp (by omega)];simp only[Ac,Dw];rw[show o+ds.length-c1.length=o-c1.length+ds.length from by omega]
theorem Lk{bad:Nat->Prop}:∀{τ:Ty} {y:τ.den} {cs:List Value} {o:Nat} {σ:Ty} {x:σ.den} {ds:List Value} {z:τ.den},enc w bad τ y cs->enc w bad σ x ds->setAt τ y o σ x=some z ->
  enc w bad τ z (cs.take o++ds++cs.drop (o+ds.length))/\o+ds.length<=cs.length:=by
 intro τ;have leaf:∀{τ:Ty} {cs:List Value} {o:Nat} {σ:Ty} {x:σ.den} {ds:List Value} {z:τ.den},cs.length=τ.size->enc w bad σ x ds->(if h:o=0/\σ=τ then some (h.2▸x) else none)=some z ->
   enc w bad τ z (cs.take o++ds++cs.drop (o+ds.length))/\o+ds.length<=cs.length:=by
  intro τ cs o σ x ds z hl hx hz;split at hz;rename_i h;obtain⟨rfl,rfl⟩:=h;simp only[s8]at hz;subst hz;have hd:=dK hx;have:cs.drop (0+ds.length)=[]:=Qp (by omega);rw[this];simpa using⟨hx,by omega⟩;cases hz
 induction τ with
 |pair a b iha ihb=>intro y cs o σ x ds z hy hx hz;obtain⟨c1,c2,rfl,h1,h2⟩:=hy;have hl1:=dK h1;have hl2:=dK h2;unfold setAt at hz;split at hz;rename_i h;obtain⟨rfl,rfl⟩:=h;exact leaf (τ:=.pair a b) (cs:=c1++c2) (o:=0) (by simp[Ty.size,hl1,hl2]) hx (by rw[dif_pos ⟨rfl,rfl⟩];exact hz);split at hz;rename_i hlt;rw[LV]at hz;obtain⟨z1,hz1,rfl⟩:=hz;obtain⟨g1,g2⟩:=iha h1 hx hz1;rw[Ki g2];exact⟨⟨_,_,rfl,g1,h2⟩,by simp;omega⟩;rename_i hge;rw[LV]at hz;obtain⟨z2,hz2,rfl⟩:=hz;obtain⟨g1,g2⟩:=ihb h2 hx hz2;rw[H8 (by omega),hl1];exact⟨⟨_,_,rfl,h1,g1⟩,by simp;omega⟩
 |int κ=>intro y cs o σ x ds z hy hx hz;exact leaf (dK hy) hx hz
 |bool=>intro y cs o σ x ds z hy hx hz;exact leaf (dK hy) hx hz
 |list e ih=>intro y cs o σ x ds z hy hx hz;exact leaf (dK hy) hx hz
theorem qB{cells:Array Value}{ds:List Value}{o:Nat}(h:o+ds.length<=cells.size):(cells.toList.take o++ds++cells.toList.drop (o+ds.length)).toArray.size=cells.size:=by simp only[P6,ey,lE,F7,OT];omega
theorem vS{cs ds:List Value}{o k:Nat}(ho:o<=cs.length):(cs.take o++ds++cs.drop (o+ds.length))[k]?=if k<o then cs[k]? else if k<o+ds.length then ds[k-o]? else cs[k]?:=by
 have htl:(cs.take o).length=o:=by simp;omega
 rw[Dw];by_cases hk:k<o;rw[aa hk,su (by omega),Qs hk];rw[ab hk,vw (by omega),htl];by_cases hk2:k<o+ds.length;rw[aa hk2,su (by omega)];rw[ab hk2,vw (by omega),Ku];congr 1;omega
theorem fR{A:Type}{l:List A}{i:Nat}{x:A}(h:l[i]?=some x):i<l.length:=by rcases iQ i l.length with hl|hl;exact hl;rw[qA hl]at h;cases h
theorem NV{bad:Nat->Prop}{τ σ:Ty}{l:List τ.den}{b o c j off:Nat}{y z:τ.den}{x:σ.den}{ds:List Value}(hr:Row w bad τ l b o c)(hb:bad b)(hy:l[j]?=some y)(hx:enc w bad σ x ds)(hz:setAt τ y off σ x=some z):
  ∃cells elem,w.heap[b]?=some (.cells cells elem (0,0))/\o+j*τ.size+off+ds.length<=cells.size /\
   Row (w.setRow b (cells.toList.take (o+j*τ.size+off)++ds++cells.toList.drop (o+j*τ.size+off+ds.length)).toArray) bad τ (l.set j z) b o c:=by
 obtain⟨cells,elem,hh,hl,hc,hrd⟩:=hr;obtain⟨cs,he,hd⟩:=hrd j y hy;obtain⟨g1,g2⟩:=Lk he hx hz;have hcs:=dK he;have hj:=fR hy;have hroom:j*τ.size+τ.size<=c*τ.size:=by have:(j+1)*τ.size<=c*τ.size:=yk _ (by omega);rw[Ad]at this;omega
 have hfit:o+j*τ.size+off+ds.length<=cells.size:=by omega
 have hsame:bM (· = b) w (w.setRow b (cells.toList.take (o+j*τ.size+off)++ds++cells.toList.drop (o+j*τ.size+off+ds.length)).toArray):=kP hh (qB (by first|omega|(simp only[OT]at *;omega)));have hget:∀k,(cells.toList.take (o+j*τ.size+off)++ds++cells.toList.drop (o+j*τ.size+off+ds.length)).toArray[k]?=if k<o+j*τ.size+off then cells[k]? else if k<o+j*τ.size+off+ds.length then ds[k-(o+j*τ.size+off)]? else cells[k]?:=by intro k;rw[Pl,vS (by simp;omega)];simp only[Qa]
 refine⟨cells,elem,hh,hfit,_,elem,P2 w b cells _ elem _ hh,by simpa using hl,by simp;omega,fun i u hu=>?_⟩;have up:∀{σ:Ty} {x:σ.den} {ds':List Value},enc w bad σ x ds'->enc (w.setRow b (cells.toList.take (o+j*τ.size+off)++ds++cells.toList.drop (o+j*τ.size+off+ds.length)).toArray) bad σ x ds':=
  fun h=>fe hsame (fun y _ hy=>hy▸hb) (fun _ _ h=>h) h
 rw[zH]at hu;split at hu;rename_i hij;subst hij;cases hu;refine⟨_,up g1,fun k v hk=>?_⟩;rw[vS (by omega)]at hk;rw[hget];have hkl:k<τ.size:=by rcases iQ k τ.size with h|h;exact h;rw[ab (by omega),ab (by omega),qA (by omega)]at hk;cases hk
 by_cases h1:k<off;rw[aa h1]at hk;rw[aa (by omega)];exact hd k v hk;rw[ab h1]at hk;rw[ab (by omega)];by_cases h2:k<off+ds.length;rw[aa h2]at hk;rw[aa (by omega),show o+j*τ.size+k-(o+j*τ.size+off)=k-off from by omega];exact hk;rw[ab h2]at hk;rw[ab (by omega)];exact hd k v hk;rename_i hij;obtain⟨es,ee,ed⟩:=hrd i u hu;refine⟨es,up ee,fun k v hk=>?_⟩;have hkl:k<τ.size:=by rw[<-dK ee];exact fR hk
 rw[hget];rcases iQ i j with h|h;have:(i+1)*τ.size<=j*τ.size:=yk _ h;rw[Ad]at this;rw[aa (by omega)];exact ed k v hk;have:(j+1)*τ.size<=i*τ.size:=yk _ (by omega);rw[Ad]at this;rw[ab (by omega),ab (by omega)];exact ed k v hk
theorem pZ{P:Program}{t:TypeId}{n:Nat}(hn:∃i,P.info? t=some i/\i.size=n){b o:Nat}{cells:Array Value}{elem:TypeId}{v:Value}(hh:w.heap[b]?=some (.cells cells elem (0,0)))(hv:v.cells.size=n)(hfit:o+n<=cells.size)(h1:∀u∈v.cells.toList,u.oneCell'=true):
  (Instr.storeAt t (.pointer (some ⟨b,o,none⟩)) v).run P w = .ok () (w.setRow b (cells.toList.take o++v.cells.toList++cells.toList.drop (o+v.cells.toList.length)).toArray):=by
 obtain⟨i,hi,hs⟩:=hn;have hst:=Ra P b o elem v.cells.toList 0 cells w hh (by simpa[hv]using hfit) h1;simp only[Ds]at hst;simp[Instr.storeAt,storeVar,Instr.sureAddr,sizeOf,typeInfo,hi,hs,hv,hst]
end
end
section
section
variable {b0:Nat->Prop} {β:bd} {ob:cW} {w:World} {f:Nat->Ln}
structure iw(P:Program)(E:Env):Prop where
 env:jJ P E
 ot:HJ P E
 cl:Kb P E
 gr:Ns P E
 so:O7 P E
 hk:RP P E
theorem BU{P:Program}{R:Type}{E:Env}(hA:iw P E){C:bC}(hC:fP P E C){sl:List AV}{a:Act}(hS:SR b0 β ob w sl a.tmps f){o:Oper}{k:AV->Option R}{r:R}(hk:ec E C ob (bk sl) o k=some r):
  ∃av,k av=some r/\∀next Q,(∀v w' bs,jF b0 β ob f (de o) w w' av v bs->next (a.put o.dst v) w')->o.wp P a w next Q:=by
 by_cases hc:∃c g,o.op = .call c/\c.callee = .value g;obtain⟨⟨callee,args,ts⟩,g,ho,hg⟩:=hc;simp only at hg;subst hg;refine Hw hA.env hC hA.cl hA.gr hS ho ?_;unfold ec at hk;rw[ho]at hk;exact hk;.obtain⟨av,v,w',bs,h1,h2,h3⟩:=Ir hA.env hA.ot hS hk fun c hc' g hg=>hc ⟨c,g,hc',hg⟩;exact⟨av,h1,fun next Q hn=>oV h2 (hn v w' bs h3)⟩
structure jE(b0:Nat->Prop)(β:bd)(st st':St)(w w':World)(tmps:Array Value):Prop where
 rel:∃β',Rel b0 β' st' w' tmps/\(∀b,dd β' st'.ob b->dd β st.ob b\/w.heap.size<=b)
 same:bM (dd β st.ob) w w'
theorem qf{P:Program}{R:Type}{E:Env}(hA:iw P E){C:bC}(hC:fP P E C){st:St}{a:Act}(hS:Rel b0 β st w a.tmps){o:Oper}{k:St->Option R}{r:R}(hk:ec E C st.ob (bk st.sl) o (fun v=>k (st.put o.dst v))=some r):
  ∃st',k st'=some r/\st'.f=st.f/\∀next Q,(∀v w',jE b0 β st st' w w' (iH a.tmps o.dst v)->next (a.put o.dst v) w')->o.wp P a w next Q:=by
 obtain⟨av,h1,h2⟩:=BU hA hC hS.sr hk;refine⟨_,h1,by cases o.dst<;>rfl,fun next Q hn=>h2 next Q fun v w' bs hd=>?_⟩;obtain⟨β',h3,h4⟩:=hS.put hd o.dst;exact hn v w' ⟨⟨β',h3,h4⟩,hd.same.mono fun b _ ⟨i,_,hi⟩=>by cases hi⟩
theorem jE.frozen{st st1 st':St}{w':World}{tmps:Array Value}(h:jE b0 β st1 st' w w' tmps)(ho:∀b,dd β st1.ob b->dd β st.ob b):jE b0 β st st' w w' tmps:=by obtain⟨⟨β',h1,h2⟩,h3⟩:=h;exact⟨⟨β',h1,fun b hb=>(h2 b hb).imp (ho b) id⟩,h3.mono fun b _ hb=>ho b hb⟩
theorem rX{st:St}{w':World}{tmps:Array Value}{dst:Option Nat}{β':bd}(h:Rel b0 β' st w' tmps)(hs:bM (dd β ob) w w')(ho:∀b,dd β' st.ob b->dd β ob b\/w.heap.size<=b):
  ∃β'',Rel b0 β'' (st.put dst .non) w' (iH tmps dst undef)/\(∀b,dd β'' (st.put dst .non).ob b->dd β ob b\/w.heap.size<=b):=by
 obtain⟨β'',h1,h2⟩:=h.put (w':=w') (used:=[]) (av:=.non) (v:=undef) (bs:=[]) (jF.stay ⟨rfl,rfl⟩) dst;refine⟨β'',h1,fun b hb=>?_⟩;rcases h2 b hb with h3|h3;exact ho b h3;exact .inr (kz hs.1 h3)
theorem Be{P:Program}{o:Oper}{a:Act}{w w':World}{next:Act->World->Prop}{Q:Exit->Act->World->Prop}
  (h:(execOp a.eval o).run P w = .ok .skip w') (hn:next (a.put o.dst undef) w'):o.wp P a w next Q:=by
 simp only[Oper.wp,h,Oper.upon];exact hn
theorem Lv{bad:Nat->Prop}{a:AV}(hc:Ew a=true){v:Value}{bs:Ln}(h:jf β ob w bad a v bs):v.oneCell'=true:=by
 cases a with
 |d τ x=>
  obtain⟨_,cs,hv,he⟩:=h;cases τ with
  |pair a b=>simp[Ew]at hc
  |_=>simp only[kj]at hv;subst hv;exact zu he v (by simp)
 |nil=>obtain⟨_,rfl⟩:=h;rfl
 |full τ l=>obtain⟨_,A,rfl,_⟩:=h;rfl
 |new τ l=>rcases h with⟨⟨A,rfl⟩,_⟩|⟨b,o,c,_,rfl,_⟩;rfl;rfl
 |ow key=>obtain⟨_,τ,l,_,hs⟩:=h;unfold sJ at hs;split at hs;obtain⟨⟨A,rfl⟩,_⟩:=hs;rfl;obtain⟨A,c,rfl,_⟩:=hs;rfl
 |own key off len=>obtain⟨_,τ,l,_,_,hs⟩:=h;unfold sJ at hs;split at hs;obtain⟨⟨A,rfl⟩,_⟩:=hs;rfl;obtain⟨A,c,rfl,_⟩:=hs;rfl
 |narr n τ l=>obtain⟨_,b,_,rfl,_⟩:=h;rfl
 |ptr key off=>obtain⟨_,b,c,cs,_,_,rfl⟩:=h;rfl
 |ap key n=>obtain⟨_,τ,l,b,c,_,_,_,rfl⟩:=h;rfl
 |rop τ x=>obtain⟨_,ad,cs,rfl,_⟩:=h;rfl
 |rptr key j off=>obtain⟨_,τ,l,b,o,c,_,_,rfl⟩:=h;rfl
 |_=>simp[Ew]at hc
theorem I4{a:AV}(h:Ew a=true):xk a=true:=by cases a<;>simp_all [Ew,xk]
theorem Ic{P:Program}{E:Env}(hE:jJ P E){t:TypeId}{n:Nat}(h:E.sizeOf t=some n):0<n:=by unfold Env.sizeOf at h;split at h;rename_i m l hfs;cases h;obtain⟨_,τ,_,_,_,hn,_⟩:=hE.fs _ _ _ hfs;rw[<-hn];exact τ.size_pos;split at h;rename_i τ hty;cases h;exact τ.size_pos;split at h;cases h;omega;cases h
theorem SR.named{sl:List AV}{tmps:Array Value}(h:SR b0 β ob w sl tmps F0){β':bd}{ob':cW}(hn:iv b0 w (Av b0 β ob F0) [] β ob β' ob'):SR b0 β' ob' w sl tmps F0:=by
 have hav:∀b,b<w.heap.size->Av b0 β' ob' F0 b->Av b0 β ob F0 b:=by intro b _ hb;rcases pA.1 hb with h|h;exact .inl h;exact .inr (.inl ((hn.own b h).resolve_right (by simp)))
 exact⟨hn.obs.mono (bad0:=fun _=>False) (bM.refl _ w) (fun _ _ x=>x.elim) hav (fun _ _ x=>x),fun i=>((h.slot i).ext hn.ext).weaken hav,h.size,(fun i b hb=>by cases hb),fun i=>rN,(fun i j b hi=>by cases hi),h.b0lt⟩
theorem yv{P:Program}{R:Type}{E:Env}(hA:iw P E){st:St}{a:Act}(hS:Rel b0 β st w a.tmps){o:Oper}{t:TypeId}{x y:Operand}(ho:o.op = .store t x y){k:St->Option R}{r:R}(hk:xB E o.dst st t (bk st.sl x) (bk st.sl y) k=some r):
  ∃st',k st'=some r/\st'.f=st.f/\∀next Q,(∀v w',jE b0 β st st' w w' (iH a.tmps o.dst v)->next (a.put o.dst v) w')->o.wp P a w next Q:=by
 obtain⟨bx,hx,_⟩:=uZ hS.sr x;obtain⟨by_,hy,_,_,hyf⟩:=uZ hS.sr y;have hby:by_=[]:=by
  cases y with
  |tmp t=>exact hyf t rfl
  |_=>exact sv hy (by first|rfl|(simp only[bk];unfold zx;split<;>rfl))
 subst hby;have run:∀{w':World},(Instr.storeAt t (a.eval x) (a.eval y)).run P w = .ok () w'->(execOp a.eval o).run P w = .ok .skip w':=by intro w' h;unfold execOp;rw[ho];simp[h]
 unfold xB at hk;split at hk
 .rename_i key off hpx;rw[hpx]at hx;split at hk
  .rename_i cs hbox;simp only at hk;obtain⟨hc,hk⟩:=bO hk;simp only[eJ,ir]at hc;obtain⟨⟨hfit,hsz⟩,hcell⟩:=hc;obtain⟨n,hn,hnn⟩:∃n,E.sizeOf t=some n/\n=(dB (key+64+off) st.ob (E.freshC t (cellsOf (bk st.sl y)))).1.length:=by
    cases h:E.sizeOf t with
    |none=>rw[h]at hsz;simp at hsz
    |some n=>rw[h]at hsz;exact⟨n,rfl,by simpa using hsz⟩
   have hpos:=Ic hA.env hn;have hne:cellsOf (bk st.sl y)≠[]:=by
    intro he;rw[he]at hnn;have:E.freshC t []=[]:=by
     unfold Env.freshC;split;rename_i τ _;have:=τ.size_pos;have h0:(([]:List AV).length==τ.size)=false:=by simp;omega
     rw[h0];rfl;rfl
    rw[this]at hnn;simp[dB]at hnn;omega
   have hcs:=ln hy hne;have hone:∀u∈(a.eval y).cells.toList,u.oneCell'=true:=by intro u hu;obtain⟨i,hi⟩:=P4 hu;have hlt:=fR hi;rw[<-hcs.len]at hlt;obtain⟨u',h1,h2⟩:=hcs.pointwise.2 i _ (c6 hlt);rw[hi]at h1;cases h1;exact Lv (uQ.1 hcell _ (dW hlt)) h2
   have hcs0:=hcs.imp' fun c v b hm _ hr=>EE hr (I4 (uQ.1 hcell c hm));obtain⟨β1,n1,g1,_⟩:=lM (key:=key+64+off) hS.sr.obs ⟨rN,by simp⟩ (uB (E:=E) (t:=t) hcs0);have hS1:=hS.sr.named n1;obtain⟨_,b,c,cs',hb,hk',hv⟩:=hx;rw[hbox]at hk';cases hk';obtain⟨hbox1,hβ1⟩:=n1.ext.keep key _ hbox;obtain⟨b',cells,elem,hb',hh,hvs⟩:=hS.sr.obs.box key cs hbox;rw[hb]at hb';cases hb';have hlen:=g1.len;have hl2:cs.length=cells.size:=by have:=hvs.len;simpa using this
   have hrun:=pZ (P:=P) (sizeOf_eq hA.env hA.ot hn) (v:=a.eval y) (o:=off) hh (by rw[<-Array.length_toList,<-hlen,<-hnn]) (by rw[hnn,hlen];rw[hlen]at hfit;omega) hone
   let w':=w.setRow b (cells.toList.take off++(a.eval y).cells.toList++cells.toList.drop (off+(a.eval y).cells.toList.length)).toArray
   have hsame:bM (· = b) w w':=kP hh (qB (by first|omega|(simp only[OT]at *;omega)));have hob:dd β st.ob b:=⟨key,_,_,_,hbox,hb⟩;have hW:=hS1.write (w':=w') (x':=.box (cs.take off++(dB (key+64+off) st.ob (E.freshC t (cellsOf (bk st.sl y)))).1++cs.drop (off+(dB (key+64+off) st.ob (E.freshC t (cellsOf (bk st.sl y)))).1.length)))
    hbox1 (hβ1.trans hb) (by simp only[Alike,ey,lE,F7];omega) hsame (by simp) (fun ds hd=>by
     cases hd;refine⟨rfl,by simp only[ey,lE,F7];omega,_,elem,P2 w b cells _ elem _ hh,?_⟩;have up:∀{c:AV} {v:Value},jf β1 (dB (key+64+off) st.ob (E.freshC t (cellsOf (bk st.sl y)))).2 w (Av b0 β1 (dB (key+64+off) st.ob (E.freshC t (cellsOf (bk st.sl y)))).2 F0) c v [] ->
       jf β1 (dB (key+64+off) st.ob (E.freshC t (cellsOf (bk st.sl y)))).2 w' (Av b0 β1 (dB (key+64+off) st.ob (E.freshC t (cellsOf (bk st.sl y)))).2 F0) c v []:=fun h=>
      dV hsame (fun y _ hy=>hy ▸ .inr (.inl ⟨key,_,_,_,hbox1,hβ1.trans hb⟩)) (fun _ _ h=>h) (fun y hy=>by cases hy) h
     obtain⟨b2,cells2,elem2,hb2,hh2,hvs2⟩:=hS1.obs.box key cs hbox1;rw[hβ1,hb]at hb2;cases hb2;rw[hh]at hh2;cases hh2;have g1':Vs (jf β1 (dB (key+64+off) st.ob (E.freshC t (cellsOf (bk st.sl y)))).2 w (Av b0 β1 (dB (key+64+off) st.ob (E.freshC t (cellsOf (bk st.sl y)))).2 F0)) (dB (key+64+off) st.ob (E.freshC t (cellsOf (bk st.sl y)))).1 (a.eval y).cells.toList []:=
      g1.imp fun a v b _ hr=>dV (bad0:=fun _=>False) (bM.refl _ w) (fun _ _ x=>x.elim) (fun y _ hy=>by rcases pA.1 hy with h|h;exact .inl h;exact .inr (.inl ((n1.own y h).resolve_right (by simp)))) (fun _ _ x=>x) (pU hr)
     have cat:∀{r:AV->Value->Ln->Prop} {as:List AV} {vs:List Value} (i j:Nat),Vs r as vs []->Vs r (as.take i) (vs.take i) []/\Vs r (as.drop j) (vs.drop j) []:=by intro r as vs i j h;obtain⟨hl,hp⟩:=h.pointwise;refine⟨Vs.of (by simp[hl]) fun q a v h1 h2=>?_,Vs.of (by simp[hl]) fun q a v h1 h2=>?_⟩;rw[D5]at h1 h2;split at h1;rw[aa (by assumption)]at h2;obtain⟨v',e1,e2⟩:=hp q a h1;rw[h2]at e1;cases e1;exact e2;cases h1;rw[Ku]at h1 h2;obtain⟨v',e1,e2⟩:=hp _ a h1;rw[h2]at e1;cases e1;exact e2
     obtain⟨t1,_⟩:=cat off off hvs2;obtain⟨_,t2⟩:=cat 0 (off+(dB (key+64+off) st.ob (E.freshC t (cellsOf (bk st.sl y)))).1.length) hvs2;have:=(t1.app g1').app t2;rw[hlen]at this ⊢;exact this.imp fun a v b hbs hr=>by
      have:b=[]:=by
       cases b with
       |nil=>rfl
       |cons x b=>have:=hbs x (by simp);simp at this
      subst this;exact up hr)
   have hR:Rel b0 β1 { st with ob:=fx (dB (key+64+off) st.ob (E.freshC t (cellsOf (bk st.sl y)))).2 key (.box (cs.take off++(dB (key+64+off) st.ob (E.freshC t (cellsOf (bk st.sl y)))).1++cs.drop (off+(dB (key+64+off) st.ob (E.freshC t (cellsOf (bk st.sl y)))).1.length))) } w' a.tmps:=⟨hW,hS.nn⟩;have hs2:bM (dd β st.ob) w w':=hsame.mono fun y _ hy=>hy▸hob;obtain⟨β2,h1,h2⟩:=rX (dst:=o.dst) (β:=β) (ob:=st.ob) hR hs2 (fun y hy=>by have:=(jd hbox1).1 hy;exact .inl ((n1.own y this).resolve_right (by simp)))
   refine⟨_,hk,by cases o.dst<;>rfl,fun next Q hn=>Be (run (by rw[hv];exact hrun)) (hn _ _ ⟨⟨β2,h1,h2⟩,hs2⟩)⟩
  cases hk
 .rename_i key n hpx;rw[hpx]at hx;split at hk
  .rename_i τ l n' σ m n'' e hrow hpy har;split at hk
   .rename_i hστ;subst hστ;obtain⟨hc,hk1⟩:=bO hk;clear hk;simp only[eJ,ir]at hc;obtain⟨⟨hn1,hn2⟩,he⟩:=hc;have hn1:=xN hn1;have hn2:=xN hn2;subst hn1;subst hn2;subst he;obtain⟨_,τ',l',b,c,hrow',hl',hb,hv⟩:=hx;rw[hrow]at hrow';cases hrow';rw[hpy]at hy;obtain⟨_,hm,css,hvy,h1,h2⟩:=hy;obtain⟨te,i,hu,hte,hi,hsz,_⟩:=hA.env.ar _ _ _ har;have hR:=(hS.sr.obs.row key _ l hrow).resolve_left (fun h=>by rw[hb]at h;cases h.1);obtain⟨b',o',c',hb',cells,elem,hh,hlc,hcs,_⟩:=hR;rw[hb]at hb';cases hb';have hfl:=nF h1 h2;have hroom:n*e.size<=c*e.size:=yk _ (by omega);have hvc:(a.eval y).cells.toList=css.flatten:=by rw[hvy];simp[Value.cells]
    have hrun:=pZ (P:=P) (w:=w) ⟨i,hi,hsz⟩ (v:=a.eval y) (o:=0) hh (by rw[<-Array.length_toList,hvc,hfl,hm]) (by omega) (by rw[hvc];exact Ho h1 h2);rw[hvc]at hrun;have hob:dd β st.ob b:=⟨key,_,_,_,hrow,hb⟩;have hsame:bM (· = b) w (w.setRow b (cells.toList.take 0++css.flatten++cells.toList.drop (0+css.flatten.length)).toArray):=kP hh (qB (by rw[hfl,hm];omega));have hW:=hS.sr.write (x':=.row e m) hrow hb ⟨rfl,by omega⟩ hsame (fun τ' l' he=>by
     cases he;refine⟨_,elem,P2 w b cells _ elem _ hh,by omega,by simp;omega,?_⟩;have hH:=kv (w:=w) (bad:=Av b0 β st.ob F0) (cells:=(cells.toList.take 0++css.flatten++cells.toList.drop (0+css.flatten.length)).toArray) (o:=0) h1 h2 (fun j u hj=>by rw[Pl,vS (by omega),ab (by omega),aa (by have:=fR hj;omega)];simpa using hj)
     exact hH.mono hsame (fun y _ hy=>hy ▸ .inr (.inl hob)) (fun _ _ h=>h)) (by simp)
    have hR2:Rel b0 β { st with ob:=fx st.ob key (.row e m) } _ a.tmps:=⟨hW,hS.nn⟩;have hs2:bM (dd β st.ob) w (w.setRow b (cells.toList.take 0++css.flatten++cells.toList.drop (0+css.flatten.length)).toArray):=hsame.mono fun y _ hy=>hy▸hob;obtain⟨β2,g1,g2⟩:=rX (dst:=o.dst) (β:=β) (ob:=st.ob) hR2 hs2 (fun y hy=>.inl ((jd hrow).1 hy));refine⟨_,hk1,by cases o.dst<;>rfl,fun next Q hn=>Be (run (by rw[hv];exact hrun)) (hn _ _ ⟨⟨β2,g1,g2⟩,hs2⟩)⟩
   cases hk
  cases hk
 cases hk
end
end
section
section
variable {R:Type} {ob:cW}
theorem CM{α:Type}{c:Prop}[Decidable c](x:c->α)(k:α->Option R):(if h:c then k (x h) else none)=(if h:c then some (x h) else none:Option α).bind k:=by by_cases h:c<;>simp[h]
theorem ny(e:Ty)(v:AV)(k:List e.den->Option R):pr ob e v k=(pr ob e v some).bind k:=by unfold pr;split;rfl;exact CM _ k;exact CM _ k;exact CM _ k;split;exact CM _ k;rfl;split;exact CM _ k;rfl;rfl
end
section
variable {b0:Nat->Prop} {β:bd} {ob:cW} {w:World}
def Part(ob' ob:cW):Prop:=∀k x,al ob' k=some x->al ob k=some x
theorem Part.refl(ob:cW):Part ob ob:=fun _ _ h=>h
theorem Part.trans{ob1 ob2 ob3:cW}(h:Part ob1 ob2)(h':Part ob2 ob3):Part ob1 ob3:=fun k x hk=>h' k x (h k x hk)
theorem Part.del(ob:cW)(key:Nat):Part (fW ob key) ob:=fun k x h=>by rw[kt]at h;split at h;cases h;exact h
def AM(ob ob':cW)(key:Nat):Prop:=(∃x,al ob key=some x)/\al ob' key=none
theorem AM.left{ob1 ob2 ob3:cW}{k:Nat}(h:AM ob1 ob2 k)(hp:Part ob3 ob2):AM ob1 ob3 k:=by
 refine⟨h.1,?_⟩;cases h3:al ob3 k with
 |none=>rfl
 |some x=>have:=hp _ _ h3;rw[h.2]at this;cases this
theorem AM.right{ob1 ob2 ob3:cW}{k:Nat}(hp:Part ob2 ob1)(h:AM ob2 ob3 k):AM ob1 ob3 k:=by obtain⟨⟨x,hx⟩,h2⟩:=h;exact⟨⟨x,hp _ _ hx⟩,h2⟩
theorem EW{bad:Nat->Prop}{τ:Ty}{l:List τ.den}{key off len:Nat}{v:Value}(hr:(β key=none/\l=[])\/∃b o c,β key=some (b,o,c)/\Row w bad τ l b o c)(hol:off+len<=l.length)(hs:sJ β key τ.size off len v):
  ∃bs:Ln,(∀bad':Nat->Prop,(∀b,b<w.heap.size->bad' b->bad b)->qM w bad' τ (cN l off len) v bs)/\bs.Nodup/\∀b∈bs,∃o c,β key=some (b,o,c):=by
 have hsl:(cN l off len).length=len:=by simp[cN];omega
 unfold sJ at hs;split at hs;obtain⟨hA,hl⟩:=hs;subst hl;exact⟨[],fun _ _=>.inl ⟨hA,by simp[cN],rfl⟩,by simp,by simp⟩;rename_i b o c0 hb';obtain⟨A,c,rfl,h1,h2,h3⟩:=hs;rcases NH c with hc|hc;subst hc;have hl:len=0:=by omega
 subst hl;exact⟨[],fun _ _=>.inl ⟨⟨_,rfl⟩,by simp[cN],rfl⟩,by simp,by simp⟩;obtain⟨b2,o2,c2,hb2,cells,elem,hh,hlc,hcs,hrd⟩:=hr.resolve_left (fun h=>by rw[hb']at h;cases h.1);rw[hb']at hb2;cases hb2;have hA:A=o+off*τ.size:=h3 (by omega);subst hA;refine⟨[b],fun bad' hb=>.inr ⟨b,_,c,rfl,by rw[hsl],cells,elem,hh,by omega,?_,fun i x hx=>?_⟩,by simp,fun y hy=>?_⟩;have:=yk τ.size (show off+c<=c0 by omega);rw[Ad]at this;omega;have hi:i<len:=by have:=fR hx;omega
 have hx':l[off+i]?=some x:=by simp only[cN,D5,Ku]at hx;rw[aa hi]at hx;exact hx
 obtain⟨ds,he,hd⟩:=hrd _ _ hx';refine⟨ds,fe (bad0:=fun _=>False) (bM.refl _ w) (fun _ _ x=>x.elim) hb he,fun j v hj=>?_⟩;have:=hd j v hj;rw[Ad]at this;rw[show o+off*τ.size+i*τ.size+j=o+(off*τ.size+i*τ.size)+j from by omega];exact this;have:y=b:=by simpa using hy
 subst this;exact⟨o,c0,hb'⟩
theorem ye{key b:Nat}{x:Ob}{o c:Nat}(hk:al ob key=some x)(hb:β key=some (b,o,c)):dm β ob key b:=⟨x,o,c,hk,hb⟩
theorem QC{R:Type}{ob0:cW}{av:Nat->Prop}(hO:rM b0 β ob0 w av)(hp:Part ob ob0):∀{τ:Ty} {cs:List AV} {k:τ.den->List AV->Option R} {r:R} {vs:List Value},
  da ob true τ cs k=some r->Vs (jf β ob0 w av) cs vs []->∃x v1 v2,k x (cs.drop τ.size)=some r/\vs=v1++v2/\Vs (jf β ob0 w av) (cs.drop τ.size) v2 []/\τ.size<=cs.length /\
   (∀c∈cs.take τ.size,ju c=true->∀key∈gF c,∃y,al ob key=some y) /\
   ∀bad',(∀b,b<w.heap.size->bad' b->av b)->(∀c∈cs.take τ.size,ju c=true->∀key∈gF c,∀b,dm β ob0 key b->¬bad' b)->enc w bad' τ x v1:=by
 intro τ
 induction τ with
 |pair a b iha ihb=>
  intro cs k r vs hk hv;simp only[da]at hk;obtain⟨x,v1,v2,h1,rfl,h3,h4,h5,h6⟩:=iha hk hv;obtain⟨y,v3,v4,g1,rfl,g3,g4,g5,g6⟩:=ihb h1 h3;rw[F7]at g4;have ht:cs.take (Ty.pair a b).size=cs.take a.size++(cs.drop a.size).take b.size:=by simp only[Ty.size];rw[List.take_add]
  refine⟨(x,y),v1++v3,v4,by simp only[Ty.size];rw[<-List.drop_drop];exact g1,by rw[Dw],by simp only[Ty.size];rw[<-List.drop_drop];exact g3,by simp only[Ty.size];omega,fun c hc=>?_,fun bad' hb hn=>⟨v1,v3,rfl,h6 bad' hb fun c hc=>hn c (by rw[ht];simp[hc]),g6 bad' hb fun c hc=>hn c (by rw[ht];simp[hc])⟩⟩;rw[ht,jR]at hc;exact hc.elim (h5 c) (g5 c)
 |list e ih=>
  intro cs k r vs hk hv;cases cs with
  |nil=>simp[da]at hk
  |cons c cs=>
   obtain⟨v,vr,b1,br,rfl,hb,hc,hr⟩:=hv.split;have hb':=hb.symm;rw[N6]at hb';obtain⟨rfl,rfl⟩:=hb';have hk':pr ob e c (fun l=>k l cs)=some r:=by simpa only[da]using hk
   have hk0:∃l,k l cs=some r/\(ju c=true->∀key∈gF c,∃y,al ob key=some y)/\∀bad',(∀b,b<w.heap.size->bad' b->av b)->(ju c=true->∀key∈gF c,∀b,dm β ob0 key b->¬bad' b)->enc w bad' (.list e) l [v]:=by
    have full:∀{l:List e.den},(∃bad,(∀bad':Nat->Prop,(∀b,b<w.heap.size->bad' b->av b)->∀b,b<w.heap.size->bad' b->bad b)/\enc w bad (.list e) l [v])->∀bad',(∀b,b<w.heap.size->bad' b->av b)->enc w bad' (.list e) l [v]:=by rintro l ⟨bad,h1,h2⟩ bad' hb;exact fe (bad0:=fun _=>False) (bM.refl _ w) (fun _ _ x=>x.elim) (h1 bad' hb) h2
    unfold pr at hk';split at hk';obtain⟨_,rfl⟩:=hc;exact⟨[],hk',by simp[ju],fun bad' hb _=>⟨none,0,rfl,dD _,fun _=>rfl,fun a h=>by cases h⟩⟩;split at hk';rename_i σ l hσ;subst hσ;obtain⟨_,ds,hd,he⟩:=hc;simp only[kj]at hd;subst hd;exact⟨l,hk',by simp[ju],fun bad' hb _=>full ⟨av,fun _ h=>h,he⟩ bad' hb⟩;cases hk';split at hk';rename_i σ l hσ;subst hσ;obtain⟨_,A,rfl,he⟩:=hc;exact⟨l,hk',by simp[ju],fun bad' hb _=>full ⟨av,fun _ h=>h,he⟩ bad' hb⟩;cases hk';split at hk';rename_i σ l hσ;subst hσ;rcases hc with⟨⟨A,rfl⟩,rfl,_⟩|⟨b,o,c,hb,_⟩;exact⟨[],hk',by simp[ju],fun bad' hb _=>⟨A,0,rfl,dD _,fun _=>rfl,fun a h i x hx=>by simp at hx⟩⟩;cases hb;cases hk';rename_i key;split at hk';split at hk';rename_i _ σ l hrow hσ;subst hσ;obtain⟨_,τ',l',hl',hs⟩:=hc;have h0:=hp _ _ hrow;rw[h0]at hl';cases hl';obtain⟨g1,g2⟩:=qC (off:=0) hO h0 (by omega) hs;rw[mL]at g1;refine⟨l,hk',fun _ k' hk'=>by simp[gF]at hk';subst hk';exact⟨_,hrow⟩,fun bad' hb hn=>(g1.mono hb).enc fun hpos a n c hv hbad=>?_⟩;refine hn rfl key (by simp[gF]) a.block ?_ hbad;unfold sJ at hs;split at hs;omega;rename_i b o c0 hβ;obtain⟨A,c',hv',_⟩:=hs;rw[hv]at hv';cases hv';exact⟨_,o,c0,h0,hβ⟩;cases hk';cases hk';rename_i key off len;split at hk';split at hk';rename_i _ σ l hrow hσ;subst hσ;obtain⟨_,τ',l',hl',hol,hs⟩:=hc;have h0:=hp _ _ hrow;rw[h0]at hl';cases hl';obtain⟨g1,g2⟩:=qC hO h0 hol hs;refine⟨_,hk',fun _ k' hk'=>by simp[gF]at hk';subst hk';exact⟨_,hrow⟩,fun bad' hb hn=>(g1.mono hb).enc fun hpos a n c hv hbad=>?_⟩;refine hn rfl key (by simp[gF]) a.block ?_ hbad;unfold sJ at hs;split at hs;simp only[cN,lE,F7]at hpos;omega;rename_i b o c0 hβ;obtain⟨A,c',hv',_⟩:=hs;rw[hv]at hv';cases hv';exact⟨_,o,c0,h0,hβ⟩;cases hk';cases hk';cases hk'
   obtain⟨l,g1,g2,g3⟩:=hk0;exact⟨l,[v],vr,g1,rfl,hr,by simp[Ty.size],fun c' hc'=>by simp[Ty.size]at hc';subst hc';exact g2,fun bad' hb hn=>g3 bad' hb (hn c (by simp[Ty.size]))⟩
 |int κ=>
  intro cs k r vs hk hv;cases cs with
  |nil=>simp[da]at hk
  |cons c cs=>obtain⟨v,vr,b1,br,rfl,hb,hc,hr⟩:=hv.split;have hb':=hb.symm;rw[N6]at hb';obtain⟨rfl,rfl⟩:=hb';simp only[da]at hk;split at hk;split at hk;rename_i σ x hσ;subst hσ;obtain⟨hv',_⟩:=cP (β:=β) (ob:=ob0) (w:=w) (bad:=av) hc;subst hv';exact⟨x,[_],vr,hk,rfl,hr,by simp[Ty.size],fun c' hc'=>by simp[Ty.size]at hc';subst hc';simp[ju],fun _ _ _=>rfl⟩;cases hk;cases hk
 |bool=>
  intro cs k r vs hk hv;cases cs with
  |nil=>simp[da]at hk
  |cons c cs=>obtain⟨v,vr,b1,br,rfl,hb,hc,hr⟩:=hv.split;have hb':=hb.symm;rw[N6]at hb';obtain⟨rfl,rfl⟩:=hb';simp only[da]at hk;split at hk;split at hk;rename_i σ x hσ;subst hσ;obtain⟨hv',_⟩:=iG (β:=β) (ob:=ob0) (w:=w) (bad:=av) hc;subst hv';exact⟨x,[_],vr,hk,rfl,hr,by simp[Ty.size],fun c' hc'=>by simp[Ty.size]at hc';subst hc';simp[ju],fun _ _ _=>rfl⟩;cases hk;cases hk
end
end
section
section
variable {b0:Nat->Prop} {β:bd} {ob:cW} {w:World}
theorem ya{ow:Bool}{R:Type}:∀{τ:Ty} {cs:List AV} {k:τ.den->List AV->Option R} {r:R},da ob ow τ cs k=some r->∃x,k x (cs.drop τ.size)=some r
 |.pair a b,cs,k,r,h=>by simp only[da]at h;obtain⟨x,h1⟩:=ya (τ:=a) h;obtain⟨y,h2⟩:=ya (τ:=b) h1;exact⟨(x,y),by simp only[Ty.size];rw[<-List.drop_drop];exact h2⟩
 |.list e,[],k,r,h=>by simp[da]at h
 |.int _,[],k,r,h=>by simp[da]at h
 |.bool,[],k,r,h=>by simp[da]at h
 |.list e,c::cs,k,r,h=>by
  have hl:∀{k':List e.den->Option R},pr ob e c k'=some r->∃l,k' l=some r:=by intro k' h';rw[ny]at h';obtain⟨l,_,h2⟩:=bind_some h';exact⟨l,h2⟩
  simp only[da]at h;split at h;cases h;cases h;exact hl h
 |.int _,c::cs,k,r,h=>by simp only[da]at h;split at h;split at h;exact⟨_,h⟩;cases h;cases h
 |.bool,c::cs,k,r,h=>by simp only[da]at h;split at h;split at h;exact⟨_,h⟩;cases h;cases h
theorem Pv{R:Type}:∀{τ:Ty} {cs:List AV} {k:τ.den->List AV->Option R} {r:R},da ob true τ cs k=some r->∀ob1,Part (sV.frz ob1 τ cs) ob1/\∀c∈cs.take τ.size,ju c=true->∀key∈gF c,al (sV.frz ob1 τ cs) key=none
 |.pair a b,cs,k,r,h,ob1=>by
  simp only[da]at h;obtain⟨x,h1⟩:=ya (τ:=a) h;obtain⟨p1,g1⟩:=Pv (τ:=a) h ob1;obtain⟨p2,g2⟩:=Pv (τ:=b) h1 (sV.frz ob1 a cs);simp only[sV.frz];refine⟨p2.trans p1,fun c hc ho key hk=>?_⟩;simp only[Ty.size,List.take_add,jR]at hc;rcases hc with hc|hc
  .have:=g1 c hc ho key hk;cases h3:al (sV.frz (sV.frz ob1 a cs) b (cs.drop a.size)) key with
   |none=>rfl
   |some y=>have:=p2 _ _ h3;rw[g1 c hc ho key hk]at this;cases this
  exact g2 c hc ho key hk
 |.list e,[],k,r,h,ob1=>by simp[da]at h
 |.int _,[],k,r,h,ob1=>by simp[da]at h
 |.bool,[],k,r,h,ob1=>by simp[da]at h
 |.list e,c::cs,k,r,h,ob1=>by
  have hd:∀key,al (fW ob1 key) key=none:=fun key=>by rw[kt];simp
  refine⟨?_,fun c' hc' ho key hk=>?_⟩
  .cases c<;>first
    |exact Part.refl _
    |exact Part.del _ _
  .have hc':c'=c:=by simpa[Ty.size]using hc'
   subst hc';cases c'<;>first
    |(simp[ju]at ho;done)
    |(simp only[gF,fQ]at hk;subst hk;exact hd _)
 |.int _,c::cs,k,r,h,ob1=>by refine⟨by simp only[sV.frz];exact Part.refl _,fun c' hc' ho=>?_⟩;simp only[Ty.size,List.take_succ_cons,JI,fQ]at hc';subst hc';simp only[da]at h;split at h;simp[ju]at ho;cases h
 |.bool,c::cs,k,r,h,ob1=>by refine⟨by simp only[sV.frz];exact Part.refl _,fun c' hc' ho=>?_⟩;simp only[Ty.size,List.take_succ_cons,JI,fQ]at hc';subst hc';simp only[da]at h;split at h;simp[ju]at ho;cases h
def LW(w:World)(bad:Nat->Prop):(s:Sh)->s.den->List Value->Ln->Prop
 |.d τ,x,vs,bs=>bs=[]/\enc w bad τ x vs
 |.own τ,l,vs,bs=>∃v,vs=[v]/\qM w bad τ l v bs
 |.agg a b,x,vs,bs=>∃v1 v2 b1 b2,vs=v1++v2/\bs=b1++b2/\LW w bad a x.1 v1 b1/\LW w bad b x.2 v2 b2
theorem LW.cells{bad:Nat->Prop}:∀{s:Sh} {x:s.den} {vs:List Value} {bs:Ln},LW w bad s x vs bs->Vs (eO β ob w bad) (Dm s x) vs bs
 |.d τ,x,vs,bs,h=>by obtain⟨rfl,he⟩:=h;exact jY he
 |.own τ,l,vs,bs,h=>by obtain⟨v,rfl,hn⟩:=h;have:=Vs.cons (r:=eO β ob w bad) (a:=.new τ l) (v:=v) (b:=bs) hn .nil;rw[s7]at this;exact this
 |.agg a b,x,vs,bs,h=>by obtain⟨v1,v2,b1,b2,rfl,rfl,h1,h2⟩:=h;exact(LW.cells h1).app (LW.cells h2)
structure mJ(β:bd)(ob0 ob ob':cW)(rk ok:Ln)(bs:Ln):Prop where
 part:Part ob' ob
 gr:∀key∈rk,AM ob ob' key
 go:∀key∈ok,AM ob ob' key
 dis:∀key∈rk,key∉ok
 nd:bs.Nodup
 own:∀b∈bs,∃key∈ok,dm β ob0 key b
theorem mJ.refl(β:bd)(ob0 ob:cW):mJ β ob0 ob ob [] [] []:=⟨Part.refl _,by simp,by simp,by simp,rN,by simp⟩
theorem AL{av:Nat->Prop}(hO:rM b0 β ob w av){k1 k2 b:Nat}(h1:dm β ob k1 b)(h2:dm β ob k2 b):k1=k2:=by obtain⟨x,o,c,h1,g1⟩:=h1;obtain⟨x',o',c',h2,g2⟩:=h2;exact hO.apart _ _ _ _ _ _ _ _ _ h1 h2 g1 g2
theorem mJ.cross{ob0 ob1 ob2:cW}{k1 k2:Nat}(h1:AM ob1 ob2 k1)(h2:∃x,al ob2 k2=some x):k1≠k2:=by rintro rfl;obtain⟨x,hx⟩:=h2;rw[h1.2]at hx;cases hx
theorem mJ.trans{av:Nat->Prop}{ob0 ob1 ob2 ob3:cW}(hO:rM b0 β ob0 w av){rk1 ok1 bs1 rk2 ok2 bs2:Ln}(h:mJ β ob0 ob1 ob2 rk1 ok1 bs1)(h':mJ β ob0 ob2 ob3 rk2 ok2 bs2):mJ β ob0 ob1 ob3 (rk1++rk2) (ok1++ok2) (bs1++bs2) where
 part:=h'.part.trans h.part
 gr:=fun key hk=>(jR.1 hk).elim (fun hk=>(h.gr key hk).left h'.part) (fun hk=>AM.right h.part (h'.gr key hk))
 go:=fun key hk=>(jR.1 hk).elim (fun hk=>(h.go key hk).left h'.part) (fun hk=>AM.right h.part (h'.go key hk))
 dis:=fun key hk ho=>by rcases jR.1 hk with hk|hk<;>rcases jR.1 ho with ho|ho;exact h.dis key hk ho;exact mJ.cross (ob0:=ob0) (h.gr key hk) (h'.go key ho).1 rfl;exact mJ.cross (ob0:=ob0) (h.go key ho) (h'.gr key hk).1 rfl;exact h'.dis key hk ho
 nd:=D3.2 ⟨h.nd,h'.nd,fun b hb c hc he=>by subst he;obtain⟨k1,hk1,hb1⟩:=h.own b hb;obtain⟨k2,hk2,hb2⟩:=h'.own b hc;exact mJ.cross (ob0:=ob0) (h.go k1 hk1) (h'.go k2 hk2).1 (AL hO hb1 hb2)⟩
 own:=fun b hb=>by rcases jR.1 hb with hb|hb;obtain⟨k,hk,h1⟩:=h.own b hb;exact⟨k,by simp[hk],h1⟩;obtain⟨k,hk,h1⟩:=h'.own b hb;exact⟨k,by simp[hk],h1⟩
def Calm(β:bd)(ob0:cW)(w:World)(av:Nat->Prop)(rk:Ln)(bad:Nat->Prop):Prop:=
 (∀b,b<w.heap.size->bad b->av b)/\∀key∈rk,∀b,dm β ob0 key b->¬bad b
theorem Calm.sub{ob0:cW}{av:Nat->Prop}{rk rk':Ln}{bad:Nat->Prop}(h:Calm β ob0 w av rk bad)(hs:∀k∈rk',k∈rk):Calm β ob0 w av rk' bad:=⟨h.1,fun k hk=>h.2 k (hs k hk)⟩
theorem Q0{R:Type}{ob0:cW}{av:Nat->Prop}(hO:rM b0 β ob0 w av):∀{s:Sh} {ob:cW},Part ob ob0->∀{cs:List AV} {k:s.den->List AV->cW->Option R} {r:R} {vs:List Value},
  sV ob s cs k=some r->Vs (jf β ob0 w av) cs vs []->∃x rest ob' v1 v2 rk ok bs,k x rest ob'=some r/\vs=v1++v2/\Vs (jf β ob0 w av) rest v2 []/\mJ β ob0 ob ob' rk ok bs/\∀bad',Calm β ob0 w av rk bad'->LW w bad' s x v1 bs:=by
 intro s
 induction s with
 |d τ=>
  intro ob hp cs k r vs hk hv;simp only[sV]at hk;obtain⟨x,v1,v2,h1,h2,h3,h4,h5,h6⟩:=QC hO hp hk hv;obtain⟨p1,g1⟩:=Pv hk ob;refine⟨x,_,_,v1,v2,(cs.take τ.size).flatMap (fun c=>bif ju c then gF c else[]),[],[],h1,h2,h3,⟨p1,fun key hkey=>?_,by simp,by simp,rN,by simp⟩,fun bad' hb=>⟨rfl,h6 bad' hb.1 fun c hc ho key hkey b hbl=>?_⟩⟩
  .obtain⟨c,hc,hkey⟩:=List.mem_flatMap.1 hkey;cases ho:ju c with
   |false=>rw[ho]at hkey;cases hkey
   |true=>rw[ho]at hkey;exact⟨h5 c hc ho key hkey,g1 c hc ho key hkey⟩
  exact hb.2 key (List.mem_flatMap.2 ⟨c,hc,by rw[ho];exact hkey⟩) b hbl
 |own τ=>
  intro ob hp cs k r vs hk hv;cases cs with
  |nil=>simp[sV]at hk
  |cons c cs=>
   obtain⟨v,vr,b1,br,rfl,hb,hc,hr⟩:=hv.split;have hb':=hb.symm;rw[N6]at hb';obtain⟨rfl,rfl⟩:=hb';have own:∀{key off len:Nat} {σ:Ty} {l:List σ.den} (h:σ=τ) {kk:List τ.den},al ob key=some (.row σ l)->off+len<=l.length->sJ β key σ.size off len v->kk=h▸cN l off len->k kk cs (fW ob key)=some r ->
     ∃x rest ob' v1 v2 rk ok bs,k x rest ob'=some r/\v::vr=v1++v2/\Vs (jf β ob0 w av) rest v2 []/\mJ β ob0 ob ob' rk ok bs/\∀bad',Calm β ob0 w av rk bad'->LW w bad' (.own τ) x v1 bs:=by
    intro key off len σ l h kk hrow hol hs hkk hk;subst h;subst hkk;have h0:=hp _ _ hrow;have hRow:=hO.row key σ l h0;obtain⟨bs,hnew,hnd,hbs⟩:=EW hRow hol hs;refine⟨_,cs,fW ob key,[v],vr,[],[key],bs,hk,rfl,hr,⟨Part.del _ _,by simp,fun k' hk'=>?_,by simp,hnd,fun b hb=>?_⟩,fun bad' hb=>⟨v,rfl,hnew bad' hb.1⟩⟩;have:k'=key:=by simpa using hk'
    subst this;exact⟨⟨_,hrow⟩,by rw[kt];simp⟩;obtain⟨o,c,hβ⟩:=hbs b hb;exact⟨key,by simp,ye h0 hβ⟩
   simp only[sV]at hk;split at hk;obtain⟨_,rfl⟩:=hc;exact⟨[],cs,ob,[.slice none 0 0],vr,[],[],[],hk,rfl,hr,mJ.refl _ _ _,fun bad' hb=>⟨_,rfl,.inl ⟨⟨_,rfl⟩,rfl,rfl⟩⟩⟩;rename_i key;split at hk;rename_i σ l hrow;split at hk;rename_i hσ;obtain⟨_,τ',l',hl',hs⟩:=hc;rw[hp _ _ hrow]at hl';cases hl';exact own (off:=0) (len:=l.length) hσ hrow (by omega) hs (by rw[mL]) hk;cases hk;cases hk;rename_i key off len;split at hk;rename_i σ l hrow;split at hk;rename_i hσ;obtain⟨_,τ',l',hl',hol,hs⟩:=hc;rw[hp _ _ hrow]at hl';cases hl';exact own hσ hrow hol hs rfl hk;cases hk;cases hk;cases hk
 |agg a b iha ihb=>
  intro ob hp cs k r vs hk hv;simp only[sV]at hk;obtain⟨x,rest,ob1,v1,v2,rk1,ok1,bs1,h1,rfl,h3,h4,h5⟩:=iha hp hk hv;obtain⟨y,rest',ob2,v3,v4,rk2,ok2,bs2,g1,rfl,g3,g4,g5⟩:=ihb (h4.part.trans hp) h1 h3;exact⟨(x,y),rest',ob2,v1++v3,v4,rk1++rk2,ok1++ok2,bs1++bs2,g1,by rw[Dw],g3,h4.trans hO g4,fun bad' hb=>
   ⟨v1,v3,bs1,bs2,rfl,rfl,h5 bad' (hb.sub fun k hk=>by simp[hk]),g5 bad' (hb.sub fun k hk=>by simp[hk])⟩⟩
end
end
section
section
variable {b0:Nat->Prop} {β:bd} {w:World}
theorem MH{R:Type}{ob0:cW}{av:Nat->Prop}(hO:rM b0 β ob0 w av){ob:cW}(hp:Part ob ob0){τ:Ty}{v:AV}{u:Value}(h:c9 β ob0 w av v u []){k:List τ.den->cW->Option R}{r:R}
  (hk:(sV ob (.own τ) [v] fun x _ ob'=>k x ob')=some r):∃x ob' rk ok bs,k x ob'=some r/\mJ β ob0 ob ob' rk ok bs/\∀bad',Calm β ob0 w av rk bad'->c9 noβ [] w bad' (.new τ x) u bs:=by
 have h1:jf β ob0 w av v u []:=by cases v<;>first|exact h|(simp[sV]at hk)
 obtain⟨x,rest,ob',v1,v2,rk,ok,bs,g1,g2,g3,g4,g5⟩:=Q0 hO hp hk (Vs.cons (b:=[]) h1 .nil);refine⟨x,ob',rk,ok,bs,g1,g4,fun bad' hc=>?_⟩;obtain⟨v',hv,hn⟩:=g5 bad' hc;subst hv;simp only[List.singleton_append,Im]at g2;obtain⟨rfl,_⟩:=g2;exact hn
theorem Ps{R:Type}{ob0:cW}{av:Nat->Prop}(hO:rM b0 β ob0 w av){s:Sh}{ob:cW}(hp:Part ob ob0){a:AV}{k:s.den->cW->Option R}{r:R}{u:Value}(hk:q9.io1 ob s a k=some r)(h:c9 β ob0 w av a u []):
  ∃x ob' rk ok bs,k x ob'=some r/\mJ β ob0 ob ob' rk ok bs/\(∀bad',Calm β ob0 w av rk bad'->c9 noβ [] w bad' (Au (nY s x)) u bs)/\(∀key off,a = .ptr key off->key∈ok)/\∀key,a = .ow key->key∈ok:=by
 unfold q9.io1 at hk;split at hk;rename_i τ key k;split at hk;rename_i σ l hrow;split at hk;rename_i hσ;subst hσ;have h0:=hp _ _ hrow;obtain⟨_,τ',l',hl',hs⟩:=h;rw[h0]at hl';cases hl';obtain⟨bs,hnew,hnd,hbs⟩:=EW (off:=0) (len:=l.length) (hO.row key σ l h0) (by omega) hs;rw[mL]at hnew;refine⟨l,fW ob key,[],[key],bs,hk,⟨Part.del _ _,by simp,fun k' hk'=>?_,by simp,hnd,fun b hb=>?_⟩,(fun bad' hb=>hnew bad' hb.1),by simp,by simp⟩;have:k'=key:=by simpa using hk'
 subst this;exact⟨⟨_,hrow⟩,by rw[kt];simp⟩;obtain⟨o,c,hβ⟩:=hbs b hb;exact⟨key,by simp,ye h0 hβ⟩;cases hk;cases hk;cases hk
 .rename_i key hs;split at hk
  .rename_i cs hbox;have h0:=hp _ _ hbox;obtain⟨_,b,c,cs',hb,hk',rfl⟩:=h;rw[h0]at hk';cases hk';obtain⟨b',cells,elem,hb',hh,hvs⟩:=hO.box key cs h0;rw[hb]at hb';cases hb';obtain⟨x,rest,ob',v1,v2,rk,ok,bs,h1,h2,h3,h4,h5⟩:=Q0 hO (Part.trans (Part.del ob key) hp) hk hvs;cases rest with
   |cons _ _=>cases h1
   |nil=>
    cases h3;rw[s7]at h2;have hgone:AM ob (fW ob key) key:=⟨⟨_,hbox⟩,by rw[kt];simp⟩;have hT:mJ β ob0 ob (fW ob key) [] [key] [b]:=⟨Part.del _ _,by simp,fun k' hk'=>by
     have:k'=key:=by simpa using hk'
     subst this;exact hgone,by simp,by simp,fun y hy=>by
     have:y=b:=by simpa using hy
     subst this;exact⟨key,by simp,ye h0 hb⟩⟩
    refine⟨x,ob',rk,key::ok,b::bs,h1,hT.trans hO h4,fun bad' hbad=>?_,(fun k' o' he=>by cases he;simp),by simp⟩;have hcells:=(h5 bad' hbad).cells (β:=noβ) (ob:=[]);have hio:Au (nY s x) = .nbox (Dm s x):=by
     cases s with
     |d τ=>rfl
     |own τ=>exact(hs τ k rfl HEq.rfl).elim
     |agg a b=>rfl
    rw[hio];refine⟨b,cells,elem,bs,rfl,rfl,hh,?_⟩;rw[h2];exact hcells
  cases hk
 cases hk
def Rh(w:World)(bad:Nat->Prop):List (Option AV)->List Value->Ln->Prop
 |[],us,bs=>us=[]/\bs=[]
 |none::xs,u::us,bs=>Rh w bad xs us bs
 |some x::xs,u::us,bs=>∃b1 b2,bs=b1++b2/\c9 noβ [] w bad x u b1/\Rh w bad xs us b2
 |_::_,[],_=>False
theorem Fl{R:Type}{ob0:cW}{av:Nat->Prop}(hO:rM b0 β ob0 w av):∀{ms:List Mode} {vs:List AV} {us:List Value} {ob:cW} {k:List (Option AV)->cW->Option R} {r:R},Part ob ob0 ->
  jS ob ms vs k=some r->F9 (fun v u=>c9 β ob0 w av v u []) vs us->∃xs ob' rk ok bs,k xs ob'=some r/\mJ β ob0 ob ob' rk ok bs/\(∀bad',Calm β ob0 w av rk bad'->Rh w bad' xs us bs)/\∀key,vN ms vs=some key->key∈ok:=by
 intro ms
 induction ms with
 |nil=>
  intro vs us ob k r hp hk h2;cases h2 with
  |nil=>exact⟨[],ob,[],[],[],by simpa[jS]using hk,mJ.refl _ _ _,(fun _ _=>⟨rfl,rfl⟩),by simp[vN]⟩
  |cons _ _=>simp[jS]at hk
 |cons m ms ih=>
  intro vs us ob k r hp hk h2;cases h2 with
  |nil=>cases m<;>simp[jS]at hk
  |cons h1 h2=>
   cases m with
   |ro=>simp only[jS]at hk;obtain⟨xs,ob',rk,ok,bs,g1,g2,g3,g4⟩:=ih hp hk h2;exact⟨none::xs,ob',rk,ok,bs,g1,g2,fun bad' hc=>g3 bad' hc,fun key hk=>g4 key hk⟩
   |mv s=>
    cases s with
    |own τ=>simp only[jS]at hk;obtain⟨x,ob1,rk1,ok1,bs1,e1,e2,e3⟩:=MH hO hp h1 hk;obtain⟨xs,ob',rk,ok,bs,g1,g2,g3,g4⟩:=ih (e2.part.trans hp) e1 h2;refine⟨some (.new τ x)::xs,ob',rk1++rk,ok1++ok,bs1++bs,g1,mJ.trans hO e2 g2,fun bad' hc=>⟨bs1,bs,rfl,e3 bad' (hc.sub (by simp +contextual)),g3 bad' (hc.sub (by simp +contextual))⟩,fun key hk=>D4 _ (g4 key hk)⟩
    |_=>simp[jS]at hk
   |io s=>
    simp only[jS]at hk;obtain⟨x,ob1,rk1,ok1,bs1,e1,e2,e3,e4,e5⟩:=Ps hO hp hk h1;obtain⟨xs,ob',rk,ok,bs,g1,g2,g3,g4⟩:=ih (e2.part.trans hp) e1 h2;refine⟨some (Au (nY s x))::xs,ob',rk1++rk,ok1++ok,bs1++bs,g1,mJ.trans hO e2 g2,fun bad' hc=>⟨bs1,bs,rfl,e3 bad' (hc.sub (by simp +contextual)),g3 bad' (hc.sub (by simp +contextual))⟩,fun key hk=>?_⟩;rename_i a0 _ _ _ _;cases a0<;>first
     |(have hk':=uR hk;subst hk';exact uf _ (e4 _ _ rfl))
     |(have hk':=uR hk;subst hk';exact uf _ (e5 _ rfl))
     |cases hk
theorem GB{R:Type}{E:Env}{ob0:cW}{av bad':Nat->Prop}(hO:rM b0 β ob0 w av)(hb:∀b,b<w.heap.size->bad' b->av b):∀{xs:List (Option AV)} {ts:List TypeId} {vs:List AV} {us:List Value} {bs:Ln} {k:List AV->Option R} {r:R},
  s5 E ob0 xs ts vs k=some r->Rh w bad' xs us bs->F9 (fun v u=>c9 β ob0 w av v u []) vs us->∃ys,k ys=some r/\Vs (c9 noβ [] w bad') ys us bs:=by
 intro xs
 induction xs with
 |nil=>
  intro ts vs us bs k r hk hm h2;obtain⟨rfl,rfl⟩:=hm;cases h2;cases ts with
  |nil=>exact⟨[],by simpa[s5]using hk,.nil⟩
  |cons _ _=>simp[s5]at hk
 |cons x xs ih=>
  intro ts vs us bs k r hk hm h2;cases h2 with
  |nil=>cases x<;>cases hm
  |cons h1 h2=>
   cases ts with
   |nil=>cases x<;>simp[s5]at hk
   |cons t ts=>
    cases x with
    |some x=>simp only[s5]at hk;obtain⟨b1,b2,rfl,m1,m2⟩:=hm;obtain⟨ys,g1,g2⟩:=ih hk m2 h2;exact⟨x::ys,g1,Vs.cons m1 g2⟩
    |none=>
     simp only[s5]at hk;rename_i v u vs us;cases ho:nk v with
     |true=>rw[ho]at hk;cases hk
     |false=>rw[ho]at hk;simp only[uP]at hk;obtain⟨y,e1,e2⟩:=Ez hO hb hk h1 (by simp) (by rw[ho];simp);obtain⟨ys,g1,g2⟩:=ih e1 hm h2;refine⟨y::ys,g1,?_⟩;have:=Vs.cons e2 g2;simpa using this
end
end
section
section
variable {b0:Nat->Prop} {β:bd} {ob:cW} {w:World} {f:Nat->Ln}
theorem AY:∀(ks:Ln) {st:St} {tmps:Array Value} {key:Nat} {τ:Ty} {l:List τ.den},Rel b0 β st w tmps->al (kG st ks).ob key=some (.row τ l)->al st.ob key=some (.row τ l)
 |[],st,tmps,key,τ,l,h,hk=>hk
 |k::ks,st,tmps,key,τ,l,h,hk=>by
  obtain⟨h1,_⟩:=zh h k;have:=AY ks h1 hk;unfold freeze at this;split at this
  .obtain⟨_,y,h2,h3⟩:=tu this;cases y with
   |row σ m=>cases h3;exact h2
   |box cs=>cases h3
  exact this
theorem iR{st:St}{a:Act}(hS:Rel b0 β st w a.tmps)(y:Operand):c9 β st.ob w (Av b0 β st.ob F0) (bk st.sl y) (a.eval y) []:=by
 obtain⟨by_,hy,_,_,hyf⟩:=uZ hS.sr y;have hby:by_=[]:=by
  cases y with
  |tmp t=>exact hyf t rfl
  |_=>exact sv hy (by first|rfl|(simp only[bk];unfold zx;split<;>rfl))
 rwa [hby]at hy
theorem EL{P:Program}{R:Type}{E:Env}(hA:iw P E){st:St}{a:Act}(hS:Rel b0 β st w a.tmps){o:Oper}{t:TypeId}{x y:Operand}(ho:o.op = .store t x y){key j off:Nat}(hpx:bk st.sl x = .rptr key j off){k:St->Option R}{r:R}
  (hk:zQ E o.dst st t key j off y k=some r) :
  ∃st',k st'=some r/\st'.f=st.f/\∀next Q,(∀v w',jE b0 β st st' w w' (iH a.tmps o.dst v)->next (a.put o.dst v) w')->o.wp P a w next Q:=by
 obtain⟨bx,hx,_⟩:=uZ hS.sr x;have run:∀{w':World},(Instr.storeAt t (a.eval x) (a.eval y)).run P w = .ok () w'->(execOp a.eval o).run P w = .ok .skip w':=by intro w' h;unfold execOp;rw[ho];simp[h]
 unfold zQ at hk;simp only at hk;obtain⟨hF,hFo,hFf⟩:=mi ((refsOf (bk st.sl y)).filter fun k=>!Nat.beq k key) hS;generalize hst1:kG st ((refsOf (bk st.sl y)).filter fun k=>!Nat.beq k key)=st1 at hk hF hFo hFf;split at hk
 .rename_i τ l σ hrow hty;have hrow0:al st.ob key=some (.row τ l):=AY _ hS (by rw[hst1];exact hrow);rw[hpx]at hx;obtain⟨_,τ',l',b,o',c,hrow',hb,hv⟩:=hx;rw[hrow0]at hrow';cases hrow';have hy:=iR hF y;obtain⟨v,hk1,henc,_⟩:=xz hF.sr.obs (bad':=Av b0 β st1.ob F0) (fun _ _ h=>h) hk hy (by simp) (fun _ _ _ h=>by cases h);obtain⟨z,hz,hk2⟩:=bind_some hk1;split at hk2;.rename_i u hu;obtain⟨b',o2,c2,hb2,hR⟩:=(hF.sr.obs.row key τ l hrow).resolve_left (fun h=>by rw[hb]at h;cases h.1);rw[hb]at hb2;cases hb2;have hob:dd β st1.ob b:=⟨key,_,_,_,hrow,hb⟩;obtain⟨cells,elem,hh,hfit,hR'⟩:=NV hR (.inr (.inl hob)) hz henc hu;have hT:=hA.env.ty _ _ hty;obtain⟨i,z0,hi,hs,_⟩:=hT.info;have hlen:=dK henc;have hrun:=pZ (P:=P) (w:=w) (t:=t) ⟨i,hi,hs⟩ (v:=a.eval y) (o:=o'+j*τ.size+off) hh (by rw[<-Array.length_toList];exact hlen) (by omega) (zu henc);have hsame:bM (· = b) w (w.setRow b (cells.toList.take (o'+j*τ.size+off)++(a.eval y).cells.toList++cells.toList.drop (o'+j*τ.size+off+(a.eval y).cells.toList.length)).toArray):=kP hh (qB (by first|omega|(simp only[OT]at *;omega)));have hW:=hF.sr.write (x':=.row τ (l.set j u)) hrow hb ⟨rfl,by simp⟩ hsame (fun τ' l' he=>by cases he;exact hR') (by simp);have hR2:Rel b0 β { st1 with ob:=fx st1.ob key (.row τ (l.set j u)) } _ a.tmps:=⟨hW,hF.nn⟩;have hs2:bM (dd β st1.ob) w (w.setRow b (cells.toList.take (o'+j*τ.size+off)++(a.eval y).cells.toList++cells.toList.drop (o'+j*τ.size+off+(a.eval y).cells.toList.length)).toArray):=hsame.mono fun y _ hy=>hy▸hob;obtain⟨β2,g1,g2⟩:=rX (dst:=o.dst) (β:=β) (ob:=st1.ob) hR2 hs2 (fun y hy=>.inl ((jd hrow).1 hy));refine⟨_,hk2,by rw[<-hFf];cases o.dst<;>rfl,fun next Q hn=>Be (run (by rw[hv];exact hrun)) (hn _ _ (jE.frozen (st1:=st1) ⟨⟨β2,g1,g2⟩,hs2⟩ hFo))⟩
  cases hk2
 cases hk
theorem EM{P:Program}{R:Type}{E:Env}(hA:iw P E){st:St}{a:Act}(hS:Rel b0 β st w a.tmps){o:Oper}{t:TypeId}{x y:Operand}(ho:o.op = .store t x y){key off:Nat}{g:FuncId}{caps:List AV}(hpx:bk st.sl x = .ptr key off)(hpy:bk st.sl y = .fn g caps)
  {k:St->Option R} {r:R} (hk:EN E o.dst st t key off g caps k=some r) :
  ∃st',k st'=some r/\st'.f=st.f/\∀next Q,(∀v w',jE b0 β st st' w w' (iH a.tmps o.dst v)->next (a.put o.dst v) w')->o.wp P a w next Q:=by
 have hx:=iR hS x;have hy:=iR hS y;rw[hpx]at hx;rw[hpy]at hy;obtain⟨_,b,c,cs',hb,hk',hv⟩:=hx;obtain⟨_,vs,hvy,hvs⟩:=hy;have hyF:jf β st.ob w (Av b0 β st.ob F0) (.fn g caps) (a.eval y) []:=⟨rfl,vs,hvy,hvs⟩;have run:∀{w':World},(Instr.storeAt t (a.eval x) (a.eval y)).run P w = .ok () w'->(execOp a.eval o).run P w = .ok .skip w':=by intro w' h;unfold execOp;rw[ho];simp[h]
 have hcl:(a.eval y).cells.toList=[a.eval y]:=by rw[hvy];rfl
 unfold EN at hk;split at hk
 .rename_i cs hbox;clear hk';obtain⟨hc,hk1⟩:=bO hk;rw[eJ]at hc;have hfit:off<cs.length:=uY (Kq _) (JP hc.1);obtain⟨b',cells,elem,hb',hh,hcv⟩:=hS.sr.obs.box key cs hbox;rw[hb]at hb';cases hb';have hl2:cs.length=cells.size:=by have:=hcv.len;simpa using this
  have hrun:=pZ (P:=P) (w:=w) (t:=t) (hA.ot.size t hc.2) (v:=a.eval y) (o:=off) hh (by rw[<-Array.length_toList,hcl];rfl) (by omega) (by rw[hcl];intro u hu;rw[fQ]at hu;subst hu;rw[hvy];rfl);have hsame:bM (· = b) w (w.setRow b (cells.toList.take off++(a.eval y).cells.toList++cells.toList.drop (off+(a.eval y).cells.toList.length)).toArray):=kP hh (qB (by rw[hcl];simp;omega));have hob:dd β st.ob b:=⟨key,_,_,_,hbox,hb⟩;have hW:=hS.sr.write (x':=.box (cs.take off++[AV.fn g caps]++cs.drop (off+1))) hbox hb (by simp only[Alike,ey,lE,F7,gC];omega) hsame (by simp) (fun ds hd=>by
   cases hd;refine⟨rfl,by simp only[ey,lE,F7,gC];omega,_,elem,P2 w b cells _ elem _ hh,?_⟩;have cat:∀{r:AV->Value->Ln->Prop} {as:List AV} {vs:List Value} (i j:Nat),Vs r as vs []->Vs r (as.take i) (vs.take i) []/\Vs r (as.drop j) (vs.drop j) []:=by intro r as vs i j h;obtain⟨hl,hp⟩:=h.pointwise;refine⟨Vs.of (by simp[hl]) fun q a v h1 h2=>?_,Vs.of (by simp[hl]) fun q a v h1 h2=>?_⟩;rw[D5]at h1 h2;split at h1;rw[aa (by assumption)]at h2;obtain⟨v',e1,e2⟩:=hp q a h1;rw[h2]at e1;cases e1;exact e2;cases h1;rw[Ku]at h1 h2;obtain⟨v',e1,e2⟩:=hp _ a h1;rw[h2]at e1;cases e1;exact e2
   obtain⟨t1,_⟩:=cat off off hcv;obtain⟨_,t2⟩:=cat 0 (off+1) hcv;have all:Vs (jf β st.ob w (Av b0 β st.ob F0)) (cs.take off++[AV.fn g caps]++cs.drop (off+1)) (cells.toList.take off++(a.eval y).cells.toList++cells.toList.drop (off+(a.eval y).cells.toList.length)) []:=by rw[hcl];exact(t1.app (Vs.cons (b:=[]) hyF .nil)).app t2
   exact all.imp fun a v bs hbs hr=>dV hsame (fun y _ hy=>hy ▸ .inr (.inl hob)) (fun _ _ h=>h) (fun y hy=>by have:=hbs y hy;simp at this) hr)
  have hR2:Rel b0 β { st with ob:=fx st.ob key (.box (cs.take off++[AV.fn g caps]++cs.drop (off+1))) } _ a.tmps:=⟨hW,hS.nn⟩;have hs2:=hsame.mono (bad':=dd β st.ob) fun y _ hy=>hy▸hob;obtain⟨β2,g1,g2⟩:=rX (dst:=o.dst) (β:=β) (ob:=st.ob) hR2 hs2 (fun y hy=>.inl ((jd hbox).1 hy));exact⟨_,hk1,by cases o.dst<;>rfl,fun next Q hn=>Be (run (by rw[hv];exact hrun)) (hn _ _ ⟨⟨β2,g1,g2⟩,hs2⟩)⟩
 cases hk
theorem SR.world'{sl:List AV}{tmps:Array Value}{w':World}{bad0 b0':Nat->Prop}(h:SR b0 β ob w sl tmps F0)(hs:bM bad0 w w')(hb:∀b,b<w.heap.size->bad0 b->b0 b)
  (h1:∀b,b<w.heap.size->b0' b->b0 b) (h2:∀b,b0' b->b<w'.heap.size):SR b0' β ob w' sl tmps F0:=by
 have h0:∀b,b<w.heap.size->bad0 b->Av b0 β ob F0 b:=fun b hlt h=>.inl (hb b hlt h);have hav:∀b,b<w.heap.size->Av b0' β ob F0 b->Av b0 β ob F0 b:=fun b hlt h=>by rcases pA.1 h with h|h;exact .inl (h1 b hlt h);exact .inr (.inl h)
 have hO:=h.obs.mono hs h0 hav (fun b ho hbad=>(h.obs.lt b ho).2 (hb b (h.obs.lt b ho).1 hbad));exact⟨⟨hO.row,hO.box,hO.apart,fun b ho=>⟨(hO.lt b ho).1,fun hb0=>(h.obs.lt b ho).2 (h1 b (h.obs.lt b ho).1 hb0)⟩⟩,fun i=>fY hs h0 hav (fun b hb=>by cases hb) (h.slot i),h.size,(fun i b hb=>by cases hb),fun i=>rN,(fun i j b hi=>by cases hi),h2⟩
theorem Ow{P:Program}{av:Nat->Prop}(hO:rM b0 β ob w av)(hav:∀b,dd β ob b->av b){t te ty:TypeId}{e:Ty}(hu:P.underlying t=some (.slice te))(hte:gE P te e){key len:Nat}{l ys:List e.den}(hk:al ob key=some (.row e l))(hll:len<=l.length)
  {vx vy:Value} (hs:sJ β key e.size 0 len vx) (hy:Reads w av e ys vy) (hlim:len+ys.length<=mR) :
  ∃u w' bs,(Builtin.append_ #[t,t] ty #[vx,vy]).run P w = .ok u w'/\bM (dm β ob key) w w'/\bs.Nodup/\(∀b∈bs,b<w'.heap.size/\(dm β ob key b\/w.heap.size<=b)) /\
   ∀bad',(∀b,b<w.heap.size->bad' b->av b)->qM w' bad' e (cN l 0 len++ys) u bs:=by
 have hsl:(cN l 0 len).length=len:=by simp[cN];omega
 obtain⟨hx,_⟩:=qC (off:=0) hO hk (by omega) hs;have grow:∀{A:Option Addr} {c:Nat},vx = .slice A len c->(A=none->c=0)->c<len+ys.length ->
   ∃u w' bs,(Builtin.append_ #[t,t] ty #[vx,vy]).run P w = .ok u w'/\bM (dm β ob key) w w'/\bs.Nodup/\(∀b∈bs,b<w'.heap.size/\(dm β ob key b\/w.heap.size<=b)) /\
    ∀bad',(∀b,b<w.heap.size->bad' b->av b)->qM w' bad' e (cN l 0 len++ys) u bs:=by
  intro A c hv hA hroom;obtain⟨u,w',g1,g2,g3,g4⟩:=C9 (ty:=ty) hu hte hx (by rw[hsl];exact hv) hy hA (by rw[hsl];exact hroom) (by rw[hsl];exact hlim);refine⟨u,w',[w.heap.size],g1,g2.mono fun _ _ x=>x.elim,by simp,fun b hb=>?_,g4⟩;have:b=w.heap.size:=by simpa using hb
  subst this;exact⟨by omega,.inr (dD _)⟩
 have still:∀{A:Option Addr},vx = .slice A 0 0->len=0->ys=[] ->
   ∃u w' bs,(Builtin.append_ #[t,t] ty #[vx,vy]).run P w = .ok u w'/\bM (dm β ob key) w w'/\bs.Nodup/\(∀b∈bs,b<w'.heap.size/\(dm β ob key b\/w.heap.size<=b)) /\
    ∀bad',(∀b,b<w.heap.size->bad' b->av b)->qM w' bad' e (cN l 0 len++ys) u bs:=by
  intro A hv hl0 hys;subst hys;subst hl0;obtain⟨A2,c2,css2,rfl,g1,g2,g3,g4,g5⟩:=pc hy;obtain⟨i,z,hi,hsz,_⟩:=hte.info;have hst:∀a,(storeCells a [] 0:Sem Unit).run P w = .ok () w:=fun a=>by simp[storeCells]
  have hf:(Builtin.firstCells i.size 0 (.slice A2 0 c2)).run P w = .ok #[] w:=by
   cases A2 with
   |none=>exact Q6 w i.size 0 0 c2
   |some a=>simpa using Qr (P:=P) w i.size 0 a 0 c2 [] (by simp) (by simp)
  refine⟨.slice A 0 0,w,[],?_,bM.refl _ _,by simp,by simp,fun _ _=>.inl ⟨⟨A,rfl⟩,by simp[cN],rfl⟩⟩;rw[hv];cases A<;>simp[Builtin.append_,uX hu,sizeOf,typeInfo,hi,Builtin.lenOf,hf,hst]
 unfold sJ at hs;split at hs;obtain⟨⟨A,hv⟩,hl0⟩:=hs;rcases NH ys.length with hz|hp;exact still hv hl0 (tS hz);exact grow (by rw[hl0];exact hv) (fun _=>rfl) (by omega);rename_i b o c0 hb;obtain⟨A,c,hv,h1,h2,h3⟩:=hs;rcases iQ c (len+ys.length) with hroom|hroom;exact grow hv (fun h=>by cases h) hroom;rcases NH c with hc0|hcp;have hl0:len=0:=by omega
 exact still (by rw[hv,hc0,hl0]) hl0 (tS (by omega));have hA:A=o:=by rw[h3 (by omega)];simp
 subst hA;obtain⟨b',o',c',hb',cells,elem,hh,hlc,hcs,hrd⟩:=(hO.row key e l hk).resolve_left (fun h=>by rw[hb]at h;cases h.1);rw[hb]at hb';cases hb';have hR:Row w av e (cN l 0 len) b A c:=⟨cells,elem,hh,by omega,by have:=yk e.size (show c<=c0 by omega);omega,fun i x hx=>hrd i x (by simp only[cN,jH,D5]at hx;split at hx;exact hx;cases hx)⟩
 have hB:dm β ob key b:=⟨_,_,_,hk,hb⟩;obtain⟨w',g1,g2,g3,g4⟩:=HE (ty:=ty) hu hte hR (hav b ⟨key,_,_,_,hk,hb⟩) hy (by rw[hsl];exact hroom);refine⟨_,w',[b],by rw[hv];rw[hsl]at g1;exact g1,g2.mono fun y _ hy=>hy▸hB,by simp,fun y hy=>?_,fun bad' hbad=>.inr ⟨b,A,c,rfl,rfl,g3.mono (bad0:=fun _=>False) (bM.refl _ w') (fun _ _ x=>x.elim) (fun y hlt hy=>?_) (fun x=>x)⟩⟩;have:y=b:=by simpa using hy
 subst this;exact⟨uY (hO.lt y ⟨key,_,_,_,hk,hb⟩).1 g2.1,.inl hB⟩;exact hbad y (by omega) hy
theorem xw{P:Program}{R:Type}{E:Env}(hA:iw P E){st:St}{a:Act}(hS:Rel b0 β st w a.tmps){o:Oper}{args:Array Operand}{ts:Array TypeId}(ho:o.op = .call ⟨.builtin .append,args,ts⟩){x y:Operand}(hargs:args.toList=[x,y])
  {key:Nat} {cut:Option Nat} (hx:match cut with|none=>bk st.sl x = .ow key|some n=>bk st.sl x = .own key 0 n) {k:St->Option R} {r:R} (hk:uL E o.dst st ts key cut (bk st.sl y) k=some r) :
  ∃st',k st'=some r/\st'.f=st.f/\∀next Q,(∀v w',jE b0 β st st' w w' (iH a.tmps o.dst v)->next (a.put o.dst v) w')->o.wp P a w next Q:=by
 have hxr:=iR hS x;have hyr:=iR hS y;unfold uL at hk;split at hk
 .rename_i t t' hts;obtain⟨htt,hk1⟩:=bO hk;clear hk;have htt:=xN htt;subst htt;have hts':ts = #[t,t]:=by apply JK;simpa using hts
  subst hts';split at hk1
  .rename_i σ l e hrow he;split at hk1
   .rename_i hσ;subst hσ;obtain⟨ys,hk2,hyR,_⟩:=pq hk1 hS.sr.obs hyr;obtain⟨m,hm,hk3⟩:=bind_some hk2;obtain⟨te,hu,hte⟩:=(hA.env.ty _ _ (fT he)).listU;obtain⟨len,hlen,hll,hs⟩:∃len,(match cut with|none=>l|some n=>cN l 0 n)=cN l 0 len/\len<=l.length/\sJ β key σ.size 0 len (a.eval x):=by
     cases cut with
     |none=>simp only at hx;rw[hx]at hxr;obtain⟨_,τ,l',hl',hs⟩:=hxr;rw[hrow]at hl';cases hl';exact⟨l.length,(mL l).symm,dD _,hs⟩
     |some n=>simp only at hx;rw[hx]at hxr;obtain⟨_,τ,l',hl',hol,hs⟩:=hxr;rw[hrow]at hl';cases hl';exact⟨n,rfl,by omega,hs⟩
    have hm':app (cN l 0 len) ys=some m:=by rw[<-hlen];cases cut<;>exact hm
    obtain⟨rfl,hlim⟩:=wF hm';have hsl:(cN l 0 len).length=len:=by simp[cN];omega
    obtain⟨u,w',bs,g1,g2,g3,g4,g5⟩:=Ow (P:=P) (ty:=o.type) hS.sr.obs (fun b h=>.inr (.inl h)) hu hte hrow hll hs hyR (by rw[hsl]at hlim;exact hlim);have hrun:(execOp a.eval o).run P w = .ok (.value u) w':=by
     unfold execOp;rw[ho];have:args = #[x,y]:=by apply JK;simpa using hargs
     subst this;simp[resolve,invoke,builtin,g1]
    obtain⟨hK,hKo⟩:=hS.sr.kill key;have hnn:uV (st.sl.map (pv key)):=hS.nn.lift (wX key) (vL key);have hB:∀b,dm β st.ob key b->dd β st.ob b:=fun b ⟨x,o,c,h1,h2⟩=>⟨key,x,o,c,h1,h2⟩;have hW:=hK.world' (w':=w') (bad0:=dm β st.ob key) (b0':=fun b=>b0 b\/b∈bs) g2 (fun b _ h=>.inr h) (fun b hlt h=>by
     rcases h with h|h;exact .inl h;rcases(g4 b h).2 with h1|h1;exact .inr h1;omega) (fun b h=>by
     rcases h with h|h;exact uY (hS.sr.b0lt b h) g2.1;exact(g4 b h).1)
    have hl:lC b0 β (nu (pv key) (fW st.ob key)) w' bs:=⟨g3,fun b hb=>⟨(g4 b hb).1,fun h0=>by
      rcases(g4 b hb).2 with h|h;exact(hS.sr.obs.lt b (hB b h)).2 h0;have:=hS.sr.b0lt b h0;omega,fun ho=>by
      rcases(g4 b hb).2 with h|h;exact(hK.obs.lt b ho).2 (.inr h);have:=(hS.sr.obs.lt b (hKo b ho)).1;omega⟩⟩
    have hnew:=g5 (fun b=>b0 b\/dd β (nu (pv key) (fW st.ob key)) b\/b∈bs) (fun b hlt h=>by rcases h with h|h|h;exact .inl h;exact .inr (.inl (hKo b h));rcases(g4 b h).2 with h1|h1;exact .inr (.inl (hB b h1));omega)
    have hs2:bM (dd β st.ob) w w':=g2.mono fun b _ h=>hB b h;have hres:∃β',Rel b0 β' ((nA key { st with ob:=fW st.ob key }).put o.dst (.new σ (cN l 0 len++ys))) w' (iH a.tmps o.dst u) /\
      ∀b,dd β' ((nA key { st with ob:=fW st.ob key }).put o.dst (.new σ (cN l 0 len++ys))).ob b->dd β st.ob b\/w.heap.size<=b:=by
     have ob_:∀b,b∈bs->dd β st.ob b\/w.heap.size<=b:=fun b hb=>(g4 b hb).2.imp (hB b) id;cases hd:o.dst with
     |some t0=>obtain⟨β',h1,h2,h3⟩:=hW.putL (key:=keyOf t0) (v:=u) (av:=.new σ (cN l 0 len++ys)) hl hnew t0;refine⟨β',⟨h1,ou hnn h2⟩,fun b hb=>?_⟩;rcases h3 b hb with h|h;exact .inl (hKo b h);exact ob_ b h
     |none=>exact⟨β,⟨hW.weakB fun b h=>.inl h,hnn⟩,fun b hb=>.inl (hKo b hb)⟩
    obtain⟨β',h1,h2⟩:=hres;have hk3':k ((nA key { st with ob:=fW st.ob key }).put o.dst (.new σ (cN l 0 len++ys)))=some r:=hk3;exact⟨_,hk3',by cases o.dst<;>rfl,fun next Q hn=>oV hrun (hn u w' ⟨⟨β',h1,h2⟩,hs2⟩)⟩
   cases hk1
  cases hk1
 cases hk
end
end
section
section
variable {b0:Nat->Prop} {β:bd} {w:World}
theorem zU{ob:cW}{key:Nat}{x:Ob}(h:al ob key=some x):fx ob key x=ob:=by
 induction ob with
 |nil=>cases h
 |cons p r ih=>
  obtain⟨k,y⟩:=p;rw[cu]at h;unfold fx;by_cases hk:k=key;have:Nat.beq k key=true:=by simp[hk]
  rw[this,pD];rw[aa hk]at h;cases h;rfl;have:Nat.beq k key=false:=by rw[<-Bool.not_eq_true];simp[hk]
  rw[this,uP];rw[ab hk]at h;rw[ih h]
theorem GY{α γ:Type}{f:List α->γ}{l:List α}{y:γ}(h:lim f l=some y):l.length<=mR/\y=f l:=by unfold lim at h;split at h;rename_i h1;cases h;exact⟨h1,rfl⟩;cases h
theorem Lm{α:Type}{l y:List α}{i j:Int}(h:tG l i j=some y):0<=i/\i<=j/\j<=(l.length:Int)/\l.length<=mR/\y=l.take i.toNat++l.drop j.toNat:=by unfold tG at h;split at h;rename_i h1;cases h;exact⟨h1.1,h1.2.1,h1.2.2.1,h1.2.2.2,rfl⟩;cases h
theorem consume{st:St}{tmps:Array Value}(hS:Rel b0 β st w tmps){key:Nat}{av:AV}{u:Value}{w':World}{bs:Ln}(g2:bM (dm β st.ob key) w w')(g3:bs.Nodup)
  (g4:∀b∈bs,b<w'.heap.size/\(dm β st.ob key b\/w.heap.size<=b)) (g5:∀bad',c9 β (nu (pv key) (fW st.ob key)) w' bad' av u bs) (dst:Option Tmp) :
  jE b0 β st ((nA key { st with ob:=fW st.ob key }).put dst av) w w' (iH tmps dst u):=by
 obtain⟨hK,hKo⟩:=hS.sr.kill key;have hnn:uV (st.sl.map (pv key)):=hS.nn.lift (wX key) (vL key);have hB:∀b,dm β st.ob key b->dd β st.ob b:=fun b ⟨x,o,c,h1,h2⟩=>⟨key,x,o,c,h1,h2⟩;have hW:=hK.world' (w':=w') (bad0:=dm β st.ob key) (b0':=fun b=>b0 b\/b∈bs) g2 (fun b _ h=>.inr h) (fun b hlt h=>by
  rcases h with h|h;exact .inl h;rcases(g4 b h).2 with h1|h1;exact .inr h1;omega) (fun b h=>by
  rcases h with h|h;exact uY (hS.sr.b0lt b h) g2.1;exact(g4 b h).1)
 have hl:lC b0 β (nu (pv key) (fW st.ob key)) w' bs:=⟨g3,fun b hb=>⟨(g4 b hb).1,fun h0=>by
   rcases(g4 b hb).2 with h|h;exact(hS.sr.obs.lt b (hB b h)).2 h0;have:=hS.sr.b0lt b h0;omega,fun ho=>by
   rcases(g4 b hb).2 with h|h;exact(hK.obs.lt b ho).2 (.inr h);have:=(hS.sr.obs.lt b (hKo b ho)).1;omega⟩⟩
 have hs2:bM (dd β st.ob) w w':=g2.mono fun b _ h=>hB b h;have ob_:∀b,b∈bs->dd β st.ob b\/w.heap.size<=b:=fun b hb=>(g4 b hb).2.imp (hB b) id;cases dst with
 |some t0=>obtain⟨β',h1,h2,h3⟩:=hW.putL (key:=keyOf t0) (v:=u) (av:=av) hl (g5 _) t0;refine⟨⟨β',⟨h1,ou hnn h2⟩,fun b hb=>?_⟩,hs2⟩;rcases h3 b hb with h|h;exact .inl (hKo b h);exact ob_ b h
 |none=>exact⟨⟨β,⟨hW.weakB fun b h=>.inl h,hnn⟩,fun b hb=>.inl (hKo b hb)⟩,hs2⟩
theorem EY{st:St}{tmps:Array Value}(hS:Rel b0 β st w tmps){key:Nat}{τ:Ty}{l:List τ.den}(hrow:al st.ob key=some (.row τ l)){u:Value}(hu:c9 β st.ob w (Av b0 β st.ob F0) (.ow key) u []):
  (l=[]/\∃A,u = .slice A 0 0)\/∃b o c0 C,u = .slice (some ⟨b,o,none⟩) l.length C/\l.length<=C/\C<=c0/\β key=some (b,o,c0)/\Row w (Av b0 β st.ob F0) τ l b o c0:=by
 obtain⟨_,τ',l',hl',hs⟩:=hu;rw[hrow]at hl';cases hl';unfold sJ at hs;split at hs;obtain⟨⟨A,hv⟩,hl0⟩:=hs;exact .inl ⟨tS hl0,A,hv⟩;rename_i b o c0 hb;obtain⟨A,C,hv,h1,h2,h3⟩:=hs;by_cases hC:C=0;have hl0:l.length=0:=by omega
 exact .inl ⟨tS hl0,some ⟨b,A,none⟩,by rw[hv,hC,hl0]⟩;have hA:=h3 hC;simp only[Q1,Ds]at hA;subst hA;obtain⟨b',o',c',hb',hR⟩:=(hS.sr.obs.row key τ l hrow).resolve_left (fun h=>by rw[hb]at h;cases h.1);rw[hb]at hb';cases hb';exact .inr ⟨b,A,c0,C,hv,h1,by omega,hb,hR⟩
theorem JG{bad bad':Nat->Prop}{τ:Ty}(hτ:τ.hasList=false){l:List τ.den}{b o c C:Nat}(hR:Row w bad τ l b o c)(h1:l.length<=C)(h2:C<=c):Row w bad' τ l b o C:=by obtain⟨cells,elem,hh,hlc,hcs,hrd⟩:=hR;exact⟨cells,elem,hh,⟨h1,by omega⟩,by have:=yk τ.size h2;omega,fun i x hx=>let ⟨ds,he,hd⟩:=hrd i x hx;⟨ds,mP hτ he,hd⟩⟩
theorem FE{bad:Nat->Prop}{ob:cW}{c:Option FuncId}{r:List AV}{us:List Value}(h:qc c r=true)(h2:F9 (fun v u=>c9 β ob w bad v u []) r us):us=FJ c:=by
 cases c with
 |none=>
  cases h2 with
  |nil=>rfl
  |cons _ _=>simp[qc]at h
 |some g=>
  cases h2 with
  |nil=>simp[qc]at h
  |cons h3 h4=>
   rename_i a u as us;cases h4 with
   |cons _ _=>cases a<;>simp[qc]at h
   |nil=>
    cases a with
    |fn g' caps=>
     cases caps with
     |nil=>simp only[qc]at h;have:=xN h;subst this;obtain⟨_,vs,hv,hvs⟩:=h3;cases hvs;rw[hv];rfl
     |cons _ _=>simp[qc]at h
    |_=>simp[qc]at h
theorem IU{P:Program}{R:Type}{E:Env}(hX:O7 P E){st:St}{a:Act}(hS:Rel b0 β st w a.tmps){o:Oper}{fn:Operand}{args:Array Operand}{ts:Array TypeId}{g:FuncId}{x:Xt}
  (ho:o.op = .call ⟨.value fn,args,ts⟩) (hfn:bk st.sl fn = .fn g []) (hso:al E.so g=some x) {k:St->Option R} {r:R} (hk:Lh x o.dst st (args.toList.map (bk st.sl)) k=some r) :
  ∃st',k st'=some r/\st'.f=st.f/\∀next Q,(∀v w',jE b0 β st st' w w' (iH a.tmps o.dst v)->next (a.put o.dst v) w')->o.wp P a w next Q:=by
 obtain⟨hent,hdo⟩:=hX g x hso;have enter:∀{us:List Value},args.toList.map a.eval=us->a.eval fn = .func (.func g) #[] #[]->Enters P g->(execOp a.eval o).run P w = .ok (.enter g us.toArray) w:=by
  intro us hus hv hent;have hr:=hent.run us.toArray w;have he:Array.map a.eval args=us.toArray:=by apply JK;simp[<-hus]
  unfold execOp;rw[ho];simp only[resolve,hv,Deferred.ofValue,u7,Dt,u9,invoke,Rm,Array.append_empty,he,hr]
 have hfv:a.eval fn = .func (.func g) #[] #[]:=by obtain⟨bf,hf1,_⟩:=uZ hS.sr fn;rw[hfn]at hf1;obtain⟨_,cv,hfv,hcv⟩:=hf1;cases hcv;exact hfv
 have two:∀xs:List Operand,F9 (fun v u=>c9 β st.ob w (Av b0 β st.ob F0) v u []) (xs.map (bk st.sl)) (xs.map a.eval):=by
  intro xs
  induction xs with
  |nil=>exact .nil
  |cons x xs ih=>exact .cons (iR hS x) ih
 have two:=two args.toList;generalize hus:args.toList.map a.eval=us at two;generalize args.toList.map (bk st.sl)=as at two hk;have done:∀{st':St} {next:Act->World->Prop} {Q:Exit->Act->World->Prop} {us':List Value} {post:Ending->World->Prop},us=us'->Calls P g us'.toArray w post ->
   (∀e w',post e w'->∃v,e = .returned v/\jE b0 β st st' w w' (iH a.tmps o.dst v))->(∀v w',jE b0 β st st' w w' (iH a.tmps o.dst v)->next (a.put o.dst v) w')->o.wp P a w next Q:=by
  intro st' next Q us' post he hc hp hn
  subst he;simp only[Oper.wp,enter hus hfv hent,Oper.upon];refine hc.mono fun en w' h=>?_;obtain⟨v,rfl,hg⟩:=hp en w' h;exact hn v w' hg
 unfold Lh at hk;split at hk
 .rename_i τ f c key rs;obtain⟨hlen,hnil,hrun⟩:=hdo;obtain⟨hea,hk1⟩:=bO hk;clear hk;split at hk1
  .rename_i σ l hrow;split at hk1
   .rename_i hσ;subst hσ;obtain⟨m,hm,hk2⟩:=bind_some hk1;obtain⟨hlim,rfl⟩:=GY hm;cases two with
    |cons h1 h2=>
     rename_i u0 us0;have hc:=FE hea h2;subst hc;refine⟨_,hk2,by cases o.dst<;>rfl,fun next Q hn=>?_⟩;have put:∀{w':World},Rel b0 β { st with ob:=fx st.ob key (.row σ (f l)) } w' a.tmps->bM (dd β st.ob) w w'->jE b0 β st ({ st with ob:=fx st.ob key (.row σ (f l)) }.put o.dst (.tup [])) w w' (iH a.tmps o.dst (.tuple #[])):=by intro w' hR hs;obtain⟨β',g1,g2⟩:=hR.put (w':=w') (used:=[]) (av:=.tup []) (v:=.tuple #[]) (bs:=[]) (jF.stay ⟨[],rfl,.nil⟩) o.dst;refine⟨⟨β',g1,fun b hb=>?_⟩,hs⟩;rcases g2 b hb with h3|h3;exact .inl ((jd hrow).1 h3);exact .inr (kz hs.1 h3)
     have still:l=[]->Rel b0 β { st with ob:=fx st.ob key (.row σ (f l)) } w a.tmps:=by
      intro he;have hf0:f l=l:=by rw[he];exact tS (hlen [])
      rw[hf0,zU hrow];exact hS
     rcases EY hS hrow h1 with⟨hl0,A,rfl⟩|⟨b,o',c0,C,rfl,hC1,hC2,hb,hR⟩;.refine done rfl (hnil w A 0) (fun e w' hp=>?_) hn;obtain⟨rfl,rfl⟩:=hp;exact⟨_,rfl,put (still hl0) (bM.refl _ _)⟩
     .by_cases hl0:l=[];.refine done (us':=.slice (some ⟨b,o',none⟩) 0 C::FJ c) (by rw[hl0];rfl) (hnil w _ C) (fun e w' hp=>?_) hn;obtain⟨rfl,rfl⟩:=hp;exact⟨_,rfl,put (still hl0) (bM.refl _ _)⟩
      .refine done rfl (hrun _ w l b o' c0 C hR hl0 hC1 hlim) (fun e w' hp=>?_) hn;obtain⟨rfl,hsame,hR'⟩:=hp;have hW:=hS.sr.write (x':=.row σ (f l)) hrow hb ⟨rfl,hlen l⟩ hsame (fun τ' l' he=>by cases he;exact hR' _) (by simp);exact⟨_,rfl,put ⟨hW,hS.nn⟩ (hsame.mono fun y _ hy=>hy▸⟨key,_,_,_,hrow,hb⟩)⟩
   cases hk1
  cases hk1
 .rename_i τ f key;obtain⟨hτ,hf0,hnil,hrun⟩:=hdo;split at hk
  .rename_i σ l hrow;split at hk
   .rename_i hσ;subst hσ;obtain⟨m,hm,hk2⟩:=bind_some hk;obtain⟨hlim,rfl⟩:=GY hm;cases two with
    |cons h1 h2=>
     rename_i u0 us0;cases h2;refine⟨_,hk2,by cases o.dst<;>rfl,fun next Q hn=>?_⟩;rcases EY hS hrow h1 with⟨hl0,A,rfl⟩|⟨b,o',c0,C,rfl,hC1,hC2,hb,hR⟩;.refine done rfl (hnil w A 0) (fun e w' hp=>?_) hn;obtain⟨rfl,rfl⟩:=hp;refine⟨_,rfl,consume hS (bs:=[]) (bM.refl _ _) rN (by simp) (fun bad'=>?_) _⟩;subst hl0;rw[hf0];exact .inl ⟨⟨A,rfl⟩,rfl,rfl⟩
     .have hB:dm β st.ob key b:=⟨_,_,_,hrow,hb⟩;by_cases hl0:l=[];.refine done (us':=[.slice (some ⟨b,o',none⟩) 0 C]) (by rw[hl0];rfl) (hnil w _ C) (fun e w' hp=>?_) hn;obtain⟨rfl,rfl⟩:=hp;refine⟨_,rfl,consume hS (bs:=[b]) (bM.refl _ _) (by simp) (fun y hy=>?_) (fun bad'=>?_) _⟩;rw[fQ]at hy;subst hy;exact⟨hR.lt,.inl hB⟩;subst hl0;rw[hf0];exact .inr ⟨b,o',C,rfl,rfl,JG hτ hR hC1 hC2⟩
      .refine done rfl (hrun _ w l b o' c0 C hR hl0 hC1 hC2 hlim) (fun e w' hp=>?_) hn;obtain⟨rfl,hsame,hR'⟩:=hp;refine⟨_,rfl,consume hS (bs:=[b]) (hsame.mono fun y _ hy=>hy▸hB) (by simp) (fun y hy=>?_) (fun bad'=>?_) _⟩;rw[fQ]at hy;subst hy;exact⟨(hR' fun _=>False).lt,.inl hB⟩;exact .inr ⟨b,o',C,rfl,rfl,hR' bad'⟩
   cases hk
  cases hk
 .rename_i f;have doCalc:∀(av:AV),f st.ob as=some (true,av)->k (st.put o.dst av)=some r->∃st',k st'=some r/\st'.f=st.f/\∀next Q,(∀v w',jE b0 β st st' w w' (iH a.tmps o.dst v)->next (a.put o.dst v) w')->o.wp P a w next Q:=by intro av hf hk;refine⟨_,hk,by cases o.dst<;>rfl,fun next Q hn=>?_⟩;refine done rfl (hdo b0 β st.ob w _ hS.sr.obs hS.sr.b0lt as us av two hf) (fun e w' hp=>?_) hn;obtain⟨v,rfl,hs,hr⟩:=hp;obtain⟨β',g1,g2⟩:=hS.put (w':=w') (used:=[]) (av:=av) (v:=v) (bs:=[]) ⟨hs.mono fun _ _ x=>x.elim,hr _,rN,by simp⟩ o.dst;exact⟨v,rfl,⟨β',g1,g2⟩,hs.mono fun _ _ x=>x.elim⟩
  split at hk;rename_i b _ _ hf;obtain⟨rfl,hk⟩:=bO hk;exact doCalc _ hf hk;rename_i b _ _ _ hf;obtain⟨rfl,hk⟩:=bO hk;exact doCalc _ hf hk;cases hk
 .rename_i τ key i j;obtain⟨hτ,hnil,hrun⟩:=hdo;split at hk
  .rename_i σ l hrow;split at hk
   .rename_i hσ;subst hσ;have hk1:(tG l i j).bind (fun l=>k ((nA key { st with ob:=fW st.ob key }).put o.dst (.new σ l)))=some r:=hk;clear hk;obtain⟨m,hm,hk2⟩:=bind_some hk1;obtain⟨hi,hij,hj,hlim,rfl⟩:=Lm hm;clear hm hk1;cases two with
    |cons h1 h2=>
     rename_i u0 us0;cases h2 with
     |cons h3 h4=>
      cases h4 with
      |cons h5 h6=>
       cases h6;obtain⟨rfl,-⟩:=cP h3;obtain⟨rfl,-⟩:=cP h5;obtain⟨i,rfl⟩:=N7 hi;obtain⟨j,rfl⟩:=N7 (Int.le_trans hi hij);simp only[jm]at hk2;refine⟨_,hk2,by cases o.dst<;>rfl,fun next Q hn=>?_⟩;have zero:l=[]->i=0/\j=0:=fun he=>by subst he;simp only[E3]at hj;omega
       have hcl:l=[]->l.take i++l.drop j=[]:=fun he=>by subst he;simp
       rcases EY hS hrow h1 with⟨hl0,A,rfl⟩|⟨b,o',c0,C,rfl,hC1,hC2,hb,hR⟩;.refine done (us':=[.slice A 0 0,.int .i64 0,.int .i64 0]) (by rw[(zero hl0).1,(zero hl0).2];rfl) (hnil w A 0) (fun e w' hp=>?_) hn;obtain⟨rfl,rfl⟩:=hp;refine⟨_,rfl,consume hS (bs:=[]) (bM.refl _ _) rN (by simp) (fun bad'=>?_) _⟩;rw[hcl hl0];exact .inl ⟨⟨A,rfl⟩,rfl,rfl⟩
       .have hB:dm β st.ob key b:=⟨_,_,_,hrow,hb⟩;by_cases hl0:l=[];.refine done (us':=[.slice (some ⟨b,o',none⟩) 0 C,.int .i64 0,.int .i64 0]) (by rw[(zero hl0).1,(zero hl0).2,hl0];rfl) (hnil w _ C) (fun e w' hp=>?_) hn;obtain⟨rfl,rfl⟩:=hp;refine⟨_,rfl,consume hS (bs:=[b]) (bM.refl _ _) (by simp) (fun y hy=>?_) (fun bad'=>?_) _⟩;rw[fQ]at hy;subst hy;exact⟨hR.lt,.inl hB⟩;rw[hcl hl0];rw[hl0]at hR hC1;exact .inr ⟨b,o',C,rfl,rfl,JG hτ hR hC1 hC2⟩
        .refine done rfl (hrun _ w l b o' c0 C i j hR hl0 hC1 hC2 (by obtain⟨_,_,_,hq,_⟩:=hR;omega) hlim (by omega) (by omega)) (fun e w' hp=>?_) hn;obtain⟨rfl,hsame,hR'⟩:=hp;refine⟨_,rfl,consume hS (bs:=[b]) (hsame.mono fun y _ hy=>hy▸hB) (by simp) (fun y hy=>?_) (fun bad'=>?_) _⟩;rw[fQ]at hy;subst hy;exact⟨(hR' fun _=>False).lt,.inl hB⟩;exact .inr ⟨b,o',C,rfl,rfl,hR' bad'⟩
   cases hk
  cases hk
 cases hk
theorem zt{P:Program}{te:TypeId}{e:Ty}(hT:gE P te e)(h1:e.one=true):∃i z,P.info? te=some i/\i.zero=some z/\z.cells = #[z]/\z.oneCell'=true/\e.size=1/\∀(w:World) bad,enc w bad e e.zero [z]:=by
 obtain⟨i,z,hi,hsz,_,hz,hzc,hzv⟩:=hT.info;refine⟨i,z,hi,hz,?_⟩;cases e with
 |int κ=>
  have:z = .int κ 0:=by simpa[kj,zeroV]using hzv.symm
  subst this;exact⟨rfl,rfl,rfl,fun _ _=>rfl⟩
 |bool=>
  have:z = .bool false:=by simpa[kj,zeroV]using hzv.symm
  subst this;exact⟨rfl,rfl,rfl,fun _ _=>rfl⟩
 |list e=>cases h1
 |pair a b=>cases h1
theorem DW{bad:Nat->Prop}{τ:Ty}(h1:τ.size=1)(hτ:τ.hasList=false){l zs:List τ.den}{vs:List Value}{b o c off:Nat}(hR:Row w bad τ l b o c)(hl:off+zs.length<=l.length)(hv:vs.length=zs.length)(hz:∀(i:Nat) (x:τ.den) (v:Value),zs[i]?=some x->vs[i]?=some v->∀w' bad',enc w' bad' τ x [v]):
  ∃cells elem,w.heap[b]?=some (.cells cells elem (0,0))/\o+off+vs.length<=cells.size/\bM (· = b) w (w.setRow b (cells.toList.take (o+off)++vs++cells.toList.drop (o+off+vs.length)).toArray) /\
   ∀bad',Row (w.setRow b (cells.toList.take (o+off)++vs++cells.toList.drop (o+off+vs.length)).toArray) bad' τ (l.take off++zs++l.drop (off+zs.length)) b o c:=by
 obtain⟨cells,elem,hh,hlc,hcs,hrd⟩:=hR;rw[h1,NI]at hcs;have hfit:o+off+vs.length<=cells.size:=by omega
 have hsame:=kP hh (qB (ds:=vs) (o:=o+off) hfit);refine⟨cells,elem,hh,hfit,hsame,fun bad'=>⟨_,elem,P2 w b cells _ elem _ hh,⟨by simp;omega,hlc.2⟩,by rw[qB hfit,h1,NI];exact hcs,fun i x hx=>?_⟩⟩;have hget:∀k,(cells.toList.take (o+off)++vs++cells.toList.drop (o+off+vs.length)).toArray[k]?=if k<o+off then cells[k]? else if k<o+off+vs.length then vs[k-(o+off)]? else cells[k]?:=by intro k;rw[Pl,vS (by simp;omega)];simp only[Qa]
 have hgl:=vS (cs:=cells.toList) (ds:=vs) (o:=o+off) (k:=o+i) (by simp;omega);have hll:(l.take off++zs++l.drop (off+zs.length))[i]?=if i<off then l[i]? else if i<off+zs.length then zs[i-off]? else l[i]?:=by
  have htl:(l.take off).length=off:=by simp;omega
  rw[Dw];by_cases hk:i<off;rw[aa hk,su (by omega),Qs hk];rw[ab hk,vw (by omega),htl];by_cases hk2:i<off+zs.length;rw[aa hk2,su (by omega)];rw[ab hk2,vw (by omega),Ku];congr 1;omega
 rw[hll]at hx;have old:l[i]?=some x->(i<off\/off+zs.length<=i)->∃ds,enc (w.setRow b (cells.toList.take (o+off)++vs++cells.toList.drop (o+off+vs.length)).toArray) bad' τ x ds/\∀(j:Nat) v,ds[j]?=some v->(cells.toList.take (o+off)++vs++cells.toList.drop (o+off+vs.length)).toArray[o+i*τ.size+j]?=some v:=fun hx hi=>by
  obtain⟨ds,he,hd⟩:=hrd i x hx;have hlen:=dK he;refine⟨ds,mP hτ (fe (bad0:=(· = b)) (bad:=fun _=>True) (bad':=fun _=>True) hsame (fun _ _ _=>trivial) (fun _ _ h=>h) (mP hτ he)),fun j v hj=>?_⟩;have hj0:j=0:=by have:=fR hj;omega
  subst hj0;have:=hd 0 v hj;rw[h1]at this ⊢;rw[hget];rcases hi with hi|hi;rw[aa (by omega)];exact this;rw[ab (by omega),ab (by omega)];exact this
 by_cases hk:i<off;rw[aa hk]at hx;exact old hx (.inl hk);rw[ab hk]at hx;by_cases hk2:i<off+zs.length;rw[aa hk2]at hx;have hi:=fR hx;have hvi:vs[i-off]?=some (vs[i-off]'(by omega)):=c6 (by omega);refine⟨[vs[i-off]'(by omega)],hz _ _ _ hx hvi _ _,fun j v hj=>?_⟩;have hj0:j=0:=by have:=fR hj;simpa using this
 subst hj0;simp only[Ip,s8]at hj;subst hj;rw[h1,hget,ab (by omega),aa (by omega),show o+i*1+0-(o+off)=i-off from by omega,hvi];rw[ab hk2]at hx;exact old hx (.inr (by omega))
theorem FL{P:Program}{R:Type}{E:Env}(hA:iw P E){st:St}{a:Act}(hS:Rel b0 β st w a.tmps){o:Oper}{args:Array Operand}{ts:Array TypeId}(ho:o.op = .call ⟨.builtin .clear,args,ts⟩){x:Operand}(hargs:args.toList=[x])
  {k:St->Option R} {r:R} (hk:FM E o.dst st ts (bk st.sl x) k=some r) :
  ∃st',k st'=some r/\st'.f=st.f/\∀next Q,(∀v w',jE b0 β st st' w w' (iH a.tmps o.dst v)->next (a.put o.dst v) w')->o.wp P a w next Q:=by
 have hxr:=iR hS x;unfold FM at hk;split at hk
 .rename_i key hx;rw[hx]at hxr;split at hk
  .rename_i e τ l he hrow;obtain⟨hc,hk1⟩:=bO hk;clear hk;rw[eJ,NY]at hc;obtain⟨rfl,hone⟩:=hc;rw[Q9]at he;obtain⟨t,ht0,hte⟩:=he;obtain⟨te,hu,hTe⟩:=(hA.env.ty _ _ (fT hte)).listU;obtain⟨i,z,hi,hz,hzc,hz1,hes,hze⟩:=zt hTe hone;have hτ:e.hasList=false:=by cases e<;>first|rfl|cases hone
   have hargs':args = #[x]:=by apply JK;simpa using hargs
   have exec:∀{w':World},(Builtin.clear_ ts o.type #[a.eval x]).run P w = .ok (.tuple #[]) w'->(execOp a.eval o).run P w = .ok (.value (.tuple #[])) w':=by intro w' h;unfold execOp;rw[ho];subst hargs';simp[resolve,invoke,builtin,h]
   have put:∀{w':World},Rel b0 β { st with ob:=fx st.ob key (.row e (List.replicate l.length e.zero)) } w' a.tmps->bM (dd β st.ob) w w'->jE b0 β st ({ st with ob:=fx st.ob key (.row e (List.replicate l.length e.zero)) }.put o.dst (.tup [])) w w' (iH a.tmps o.dst (.tuple #[])):=by intro w' hR hs;obtain⟨β',g1,g2⟩:=hR.put (w':=w') (used:=[]) (av:=.tup []) (v:=.tuple #[]) (bs:=[]) (jF.stay ⟨[],rfl,.nil⟩) o.dst;refine⟨⟨β',g1,fun b hb=>?_⟩,hs⟩;rcases g2 b hb with h3|h3;exact .inl ((jd hrow).1 h3);exact .inr (kz hs.1 h3)
   have still:l=[]->Rel b0 β { st with ob:=fx st.ob key (.row e (List.replicate l.length e.zero)) } w a.tmps:=by
    intro he;have hf0:List.replicate l.length e.zero=l:=by rw[he];rfl
    rw[hf0,zU hrow];exact hS
   refine⟨_,hk1,by cases o.dst<;>rfl,fun next Q hn=>?_⟩;have nothing:∀{A:Option Addr} {C:Nat},l=[]->a.eval x = .slice A 0 C->o.wp P a w next Q:=fun {A C} hl hv=>by refine oV (exec (w':=w) ?_) (hn _ _ (put (still hl) (bM.refl _ _)));rw[hv];cases A<;>simp[Builtin.clear_,ht0,uX hu]
   rcases EY hS hrow hxr with⟨hl0,A,hv⟩|⟨b,o',c0,C,hv,hC1,hC2,hb,hR⟩;exact nothing hl0 hv;by_cases hl0:l=[];exact nothing hl0 (by rw[hv,hl0];rfl);obtain⟨m,hm⟩:∃m,List.length l=m+1:=⟨List.length l-1,by have:=Mt.2 hl0;omega⟩;obtain⟨cells,elem,hh,hfit,hsame,hR'⟩:=DW (off:=0) (zs:=List.replicate l.length e.zero) (vs:=List.replicate l.length z) hes hτ hR (by simp) (by simp) (fun i x v hx hv w' bad'=>by rw[Kt]at hx hv;split at hx;rename_i hlt;rw[aa hlt]at hv;cases hx;cases hv;exact hze _ _;cases hx)
   have hzl:(Builtin.zeroCells z.cells l.length).toList=List.replicate l.length z:=by rw[hzc];simp[Builtin.zeroCells];apply Mq;simp;intro i h1 h2;simp[Nat.mod_one]
   have hst:=Ra P b o' elem (List.replicate l.length z) 0 cells w hh (by simpa using hfit) (fun v hv'=>by rw[List.eq_of_mem_replicate hv'];exact hz1);have hrun:(Builtin.clear_ ts o.type #[a.eval x]).run P w = .ok (.tuple #[]) (w.setRow b (cells.toList.take (o'+0)++List.replicate l.length z++cells.toList.drop (o'+0+(List.replicate l.length z).length)).toArray):=by rw[hv];rw[hm]at hzl hst ⊢;simp[Builtin.clear_,ht0,uX hu,zeroValue,typeInfo,hi,hz,hzl,hst]
   have hlr:List.replicate (List.length l) e.zero=l.take 0++List.replicate (List.length l) e.zero++l.drop (0+(List.replicate (List.length l) e.zero).length):=by simp
   have hW:=hS.sr.write (x':=.row e (List.replicate l.length e.zero)) hrow hb ⟨rfl,by simp⟩ hsame (fun τ' l' he=>by
    cases he;have:=hR' (Av b0 β st.ob F0)
    rwa [<-hlr]at this) (by simp)
   exact oV (exec hrun) (hn _ _ (put ⟨hW,hS.nn⟩ (hsame.mono fun y _ hy=>hy▸⟨key,_,_,_,hrow,hb⟩)))
  cases hk
 cases hk
def Dy:(e:Ty)->e.den->Value
 |.int κ,n=>.int κ n
 |.bool,b=>.bool b
 |_,_=>.bool false
theorem M1{e:Ty}(h1:e.one=true){bad:Nat->Prop}{x:e.den}{ds:List Value}(h:enc w bad e x ds):ds=[Dy e x]/\(Dy e x).oneCell'=true/\∀(w':World) bad',enc w' bad' e x [Dy e x]:=by
 cases e with
 |int κ=>have h:ds=_:=h;exact⟨h,rfl,fun _ _=>rfl⟩
 |bool=>have h:ds=_:=h;exact⟨h,rfl,fun _ _=>rfl⟩
 |list e=>cases h1
 |pair a b=>cases h1
theorem Hr{P:Program}{R:Type}{E:Env}(hA:iw P E){st:St}{a:Act}(hS:Rel b0 β st w a.tmps){o:Oper}{args:Array Operand}{ts:Array TypeId}(ho:o.op = .call ⟨.builtin .copy,args,ts⟩){x y:Operand}(hargs:args.toList=[x,y])
  {k:St->Option R} {r:R} (hk:JZ E o.dst st ts (bk st.sl x) (bk st.sl y) k=some r) :
  ∃st',k st'=some r/\st'.f=st.f/\∀next Q,(∀v w',jE b0 β st st' w w' (iH a.tmps o.dst v)->next (a.put o.dst v) w')->o.wp P a w next Q:=by
 have hxr:=iR hS x;have hyr:=iR hS y;unfold JZ at hk;split at hk
 .rename_i key off len hx;rw[hx]at hxr;split at hk
  .rename_i e σ l he hrow;obtain⟨hone,hk1⟩:=bO hk;clear hk;split at hk1
   .rename_i hσ;subst hσ;obtain⟨ys,hk2,⟨A2,c2,hyv,hyc,hyz,hyr2⟩,_⟩:=pq hk1 hS.sr.obs hyr;rw[Q9]at he;obtain⟨t,ht0,hte⟩:=he;obtain⟨te,hu,hTe⟩:=(hA.env.ty _ _ (fT hte)).listU;obtain⟨i,z,hi,hz,hzc,hz1,hes,hze⟩:=zt hTe hone;obtain⟨i',z',hi',hsz',_⟩:=hTe.info;rw[hi]at hi';cases hi';have hτ:σ.hasList=false:=by cases σ<;>first|rfl|cases hone
    have hargs':args = #[x,y]:=by apply JK;simpa using hargs
    obtain⟨_,τ',l',hl',hol,hs⟩:=hxr;rw[hrow]at hl';cases hl';generalize hvx:a.eval x=vx at hs;generalize hzs:ys.take len=zs at hk2;have hzl:zs.length<=ys.length:=by rw[<-hzs,lE];omega
    have hzn:zs.length<=len:=by rw[<-hzs,lE];omega
    have hmin:Nat.min ys.length len=zs.length:=by rw[<-hzs,lE];exact Nat.min_comm _ _
    have exec:∀{w':World} {n:Nat},(Builtin.copy_ ts o.type #[vx,a.eval y]).run P w = .ok (goInt n) w'->(execOp a.eval o).run P w = .ok (.value (.int .i64 n)) w':=by intro w' n h;unfold execOp;rw[ho];subst hargs';simp[resolve,invoke,builtin,hvx,h];rfl
    have hnews:∀b,A2=some b->∀j u,(zs.map (Dy σ))[j]?=some u->w.cell? (b.add j)=some u:=fun b hb j u hj=>by
     rw[Kv,LV]at hj;obtain⟨v,hv,rfl⟩:=hj;have hv':ys[j]?=some v:=by rw[<-hzs,D5]at hv;split at hv;exact hv;cases hv
     obtain⟨g1,ds,g2,g3⟩:=hyr2 b hb j v hv';obtain⟨rfl,_⟩:=M1 hone g2;have:=g3 0 _ rfl;rw[hes,NI,Ds]at this;rw[add_plain g1];exact this
    have hcell:∀u∈zs.map (Dy σ),u.oneCell'=true:=fun u hu=>by
     obtain⟨v,hv,rfl⟩:=jC.1 hu;cases σ with
     |int κ=>rfl
     |bool=>rfl
     |list e=>cases hone
     |pair a b=>cases hone
    have hfirst:(Builtin.firstCells i.size zs.length (.slice A2 ys.length c2)).run P w = .ok (zs.map (Dy σ)).toArray w:=by
     cases A2 with
     |none=>
      have hy0:ys.length=0:=by have:=hyz rfl;omega
      have hz0:zs=[]:=tS (by omega);rw[hz0];exact Q6 w _ _ _ _
     |some b=>exact Qr (P:=P) w i.size zs.length b ys.length c2 _ (by rw[pH,hsz',hes,NI]) (hnews b rfl)
    have put:∀{w':World},Rel b0 β { st with ob:=fx st.ob key (.row σ (uG l off len ys)) } w' a.tmps->bM (dd β st.ob) w w' ->
      jE b0 β st ({ st with ob:=fx st.ob key (.row σ (uG l off len ys)) }.put o.dst (.d (.int .i64) (zs.length:Int))) w w' (iH a.tmps o.dst (.int .i64 (zs.length:Nat))):=by
     intro w' hR hs;obtain⟨β',g1,g2⟩:=hR.put (w':=w') (used:=[]) (av:=.d (.int .i64) (zs.length:Int)) (v:=.int .i64 (zs.length:Nat)) (bs:=[]) (jF.stay ⟨rfl,[_],rfl,rfl⟩) o.dst;refine⟨⟨β',g1,fun b hb=>?_⟩,hs⟩;rcases g2 b hb with h3|h3;exact .inl ((jd hrow).1 h3);exact .inr (kz hs.1 h3)
    have hcp:uG l off len ys=l.take off++zs++l.drop (off+zs.length):=by unfold uG;rw[hzs]
    have still:zs=[]->Rel b0 β { st with ob:=fx st.ob key (.row σ (uG l off len ys)) } w a.tmps:=by
     intro he;have hf0:uG l off len ys=l:=by rw[hcp,he];simp
     rw[hf0,zU hrow];exact hS
    have hk3:k ({ st with ob:=fx st.ob key (.row σ (uG l off len ys)) }.put o.dst (.d (.int .i64) (zs.length:Int)))=some r:=hk2;refine⟨_,hk3,by cases o.dst<;>rfl,fun next Q hn=>?_⟩;have nothing:∀{A:Option Addr} {C:Nat},zs=[]->vx = .slice A len C->o.wp P a w next Q:=fun {A C} hl hv=>by
     refine oV (exec (w':=w) (n:=zs.length) ?_) (hn _ _ (put (still hl) (bM.refl _ _)));have hst:∀a,(storeCells a [] 0:Sem Unit).run P w = .ok () w:=fun a=>by simp[storeCells]
     simp only[hl,E3,JO]at hfirst hmin;rw[hv,hyv,hl];cases A<;>simp[Builtin.copy_,ht0,uX hu,Builtin.lenOf,sizeOf,typeInfo,hi,hmin,hfirst,hst]
    unfold sJ at hs;split at hs;obtain⟨⟨A,hv⟩,hl0⟩:=hs;exact nothing (tS (by omega)) (by rw[hv,hl0]);rename_i b o1 c0 hb;obtain⟨A,C,hv,h1,h2,h3⟩:=hs;by_cases hC:C=0;exact nothing (tS (by omega)) hv;have hA:=h3 hC;rw[hes,NI]at hA;obtain⟨b',o',c',hb',hR⟩:=(hS.sr.obs.row key σ l hrow).resolve_left (fun h=>by rw[hb]at h;cases h.1);rw[hb]at hb';cases hb';obtain⟨cells,elem,hh,hfit,hsame,hR'⟩:=DW (off:=off) (zs:=zs) (vs:=zs.map (Dy σ)) hes hτ hR (by omega) (by simp) (fun i x v hx hv w' bad'=>by
     rw[Kv,hx]at hv;cases hv;cases σ with
     |int κ=>rfl
     |bool=>rfl
     |list e=>cases hone
     |pair a b=>cases hone)
    have hst:=Ra P b A elem (zs.map (Dy σ)) 0 cells w hh (by rw[hA];simpa using hfit) hcell;rw[Ds,hA]at hst;have hrun:(Builtin.copy_ ts o.type #[vx,a.eval y]).run P w = .ok (goInt zs.length) (w.setRow b (cells.toList.take (o1+off)++zs.map (Dy σ)++cells.toList.drop (o1+off+(zs.map (Dy σ)).length)).toArray):=by rw[hv,hyv,hA];simp[Builtin.copy_,ht0,uX hu,Builtin.lenOf,sizeOf,typeInfo,hi,hmin,hfirst]at hst ⊢;simp[hst]
    have hW:=hS.sr.write (x':=.row σ (uG l off len ys)) hrow hb ⟨rfl,by rw[hcp];simp;omega⟩ hsame (fun τ' l' he=>by
     cases he;have:=hR' (Av b0 β st.ob F0)
     rwa [<-hcp]at this) (by simp)
    exact oV (exec hrun) (hn _ _ (put ⟨hW,hS.nn⟩ (hsame.mono fun y _ hy=>hy▸⟨key,_,_,_,hrow,hb⟩)))
   cases hk1
  cases hk
 cases hk
end
end
section
section
variable {b0:Nat->Prop} {β:bd} {w:World}
theorem KP{g:AV->AV}{ob:cW}{k:Nat}(h:∃x,al ob k=some x):∃x,al (nu g ob) k=some x:=by
 induction ob with
 |nil=>obtain⟨x,h⟩:=h;cases h
 |cons p r ih=>obtain⟨k',y⟩:=p;obtain⟨x,h⟩:=h;rw[cu]at h;show ∃x,al ((k',_)::nu g r) k=some x;rw[cu];by_cases hk:k'=k;rw[aa hk];exact⟨_,rfl⟩;rw[ab hk]at h ⊢;exact ih ⟨x,h⟩
theorem KU{ob:cW}{k k':Nat}{x:Ob}(hne:k'≠k)(h:al ob k=some x):al (fW ob k') k=some x:=by
 induction ob with
 |nil=>cases h
 |cons p r ih=>
  obtain⟨q,y⟩:=p;rw[cu]at h;unfold fW;by_cases hq:q=k';have:Nat.beq q k'=true:=by simp[hq]
  rw[this,pD];rw[ab (by omega)]at h;exact ih h;have:Nat.beq q k'=false:=by rw[<-Bool.not_eq_true];simp[hq]
  rw[this,uP,cu];by_cases hk:q=k;rw[aa hk]at h ⊢;exact h;rw[ab hk]at h ⊢;exact ih h
theorem pt{tmps:Array Value}:∀(D:Ln) {b0:Nat->Prop} {st:St},Rel b0 β st w tmps ->
  Rel (fun b=>b0 b\/∃k∈D,dm β st.ob k b) β (iz st D) w tmps/\(∀b,dd β (iz st D).ob b->dd β st.ob b)/\(iz st D).f=st.f
 |[],b0,st,h=>⟨⟨h.sr.weakB (fun b hb=>by rcases hb with h|⟨k,hk,_⟩;exact h;cases hk),h.nn⟩,fun _ h=>h,rfl⟩
 |k::D,b0,st,h=>by obtain⟨hK,hKo⟩:=h.sr.kill k;have h1:Rel (fun b=>b0 b\/dm β st.ob k b) β (OY k st) w tmps:=⟨hK,h.nn.lift (wX k) (vL k)⟩;obtain⟨g1,g2,g3⟩:=pt D h1;refine⟨⟨g1.sr.weakB fun b hb=>?_,g1.nn⟩,fun b hb=>hKo b (g2 b hb),g3⟩;rcases hb with hb|⟨k',hk',hb⟩;exact .inl (.inl hb);by_cases he:k'=k;subst he;exact .inl (.inr hb);rcases eR.1 hk' with h|h;exact absurd h he;obtain⟨x,o,c,e1,e2⟩:=hb;obtain⟨y,hy⟩:=KP (g:=pv k) ⟨x,KU (fun e=>he e.symm) e1⟩;exact .inr ⟨k',h,y,o,c,hy,e2⟩
theorem SR.writeW{ob:cW}{b0' bad0:Nat->Prop}{sl:List AV}{tmps:Array Value}(h:SR b0 β ob w sl tmps F0){key b o c:Nat}{x x':Ob}{w':World}(hk:al ob key=some x)(hb:β key=some (b,o,c))(ha:Alike x x')(hs:bM bad0 w w')
  (h1:∀y,y<w.heap.size->bad0 y->y=b\/b0 y) (h2:∀y,y<w.heap.size->b0' y->b0 y) (h3:∀y,b0' y->y<w'.heap.size)
  (hrow:∀τ l,x' = .row τ l->Row w' (Av b0' β ob F0) τ l b o c)
  (hbox:∀cs,x' = .box cs->o=0/\c=cs.length/\∃cells elem,w'.heap[b]?=some (.cells cells elem (0,0))/\Vs (jf β ob w' (Av b0' β ob F0)) cs cells.toList []) :
  SR b0' β (fx ob key x') w' sl tmps F0:=by
 have hl:=fun k=>qi (key:=key) (k:=k) (x:=x') ⟨x,hk⟩;have hob:dd β ob b:=⟨key,x,o,c,hk,hb⟩;have h0:∀y,y<w.heap.size->bad0 y->Av b0 β ob F0 y:=fun y hlt he=>by rcases h1 y hlt he with rfl|h;exact .inr (.inl hob);exact .inl h
 have hav:∀y,y<w.heap.size->Av b0' β (fx ob key x') F0 y->Av b0 β ob F0 y:=by intro y hlt hy;rcases pA.1 hy with h|h;exact .inl (h2 y hlt h);exact .inr (.inl ((jd hk).1 h))
 have hav':∀y,y<w'.heap.size->Av b0' β (fx ob key x') F0 y->Av b0' β ob F0 y:=by intro y _ hy;rcases pA.1 hy with h|h;exact .inl h;exact .inr (.inl ((jd hk).1 h))
 have far:∀{b':Nat},dd β ob b'->b'≠b->¬bad0 b':=fun ho hne hbad=>by obtain⟨g1,g2⟩:=h.obs.lt _ ho;rcases h1 _ g1 hbad with h|h;exact hne h;exact g2 h
 refine⟨⟨fun k τ l hk'=>?_,fun k cs hk'=>?_,fun k1 k2 x1 x2 b' o1 c1 o2 c2 h1 h2 h3 h4=>?_,fun b' hb'=>?_⟩,fun i=>?_,h.size,(fun i b hb=>by cases hb),fun i=>rN,(fun i j b hi=>by cases hi),h3⟩;rw[hl k]at hk';split at hk';rename_i he;subst he;exact .inr ⟨b,o,c,hb,(hrow τ l (uR hk')).sameBlock hav'⟩;rename_i hne;rcases h.obs.row k τ l hk' with h1|⟨b',o',c',hb',hr⟩;exact .inl h1;refine .inr ⟨b',o',c',hb',hr.mono hs h0 hav (far ⟨k,_,_,_,hk',hb'⟩ fun he=>?_)⟩;subst he;exact hne (h.obs.apart _ _ _ _ _ _ _ _ _ hk' hk hb' hb);rw[hl k]at hk';split at hk';rename_i he;subst he;obtain⟨ho,hc,cells,elem,hh,hv⟩:=hbox cs (uR hk');subst ho;subst hc;exact⟨b,cells,elem,hb,hh,hv.imp fun a v b _ hr=>(dV (bad0:=fun _=>False) (bM.refl _ w') (fun _ _ x=>x.elim) hav' (fun _ _ x=>x) hr).alike hk ha⟩;rename_i hne;obtain⟨b',cells,elem,hb',hh,hv⟩:=h.obs.box k cs hk';have hbb:b'≠b:=fun he=>by subst he;exact hne (h.obs.apart _ _ _ _ _ _ _ _ _ hk' hk hb' hb)
 have hlt:=(h.obs.lt b' ⟨k,_,_,_,hk',hb'⟩).1;refine⟨b',cells,elem,hb',by rw[hs.2 b' hlt (far ⟨k,_,_,_,hk',hb'⟩ hbb)];exact hh,hv.imp fun a v bs hbs hr=>(dV hs h0 hav (fun y hy=>by have:=hbs y hy;cases this) hr).alike hk ha⟩;have old:∀{k y},al (fx ob key x') k=some y->∃z,al ob k=some z:=by intro k y hy;rw[hl k]at hy;split at hy;rename_i he;subst he;exact⟨x,hk⟩;exact⟨y,hy⟩
 obtain⟨z1,e1⟩:=old h1;obtain⟨z2,e2⟩:=old h2;exact h.obs.apart _ _ _ _ _ _ _ _ _ e1 e2 h3 h4;obtain⟨g1,g2⟩:=h.obs.lt b' ((jd hk).1 hb');exact⟨uY g1 hs.1,fun h0=>g2 (h2 b' g1 h0)⟩;exact(fY hs h0 hav (fun y hy=>by cases hy) (h.slot i)).alike hk ha
theorem SR.namedL{ob:cW}{sl:List AV}{tmps:Array Value}{bs:Ln}(h:SR (fun b=>b0 b\/b∈bs) β ob w sl tmps F0){β':bd}{ob':cW}(n1:iv b0 w (fun b=>b0 b\/dd β ob b\/b∈bs) bs β ob β' ob'):SR b0 β' ob' w sl tmps F0:=by
 have hsub:∀b,b<w.heap.size->(b0 b\/dd β ob b\/b∈bs)->Av (fun b=>b0 b\/b∈bs) β ob F0 b:=by intro b _ hb;rcases hb with h|h|h;exact .inl (.inl h);exact .inr (.inl h);exact .inl (.inr h)
 have hav:∀b,b<w.heap.size->Av b0 β' ob' F0 b->(b0 b\/dd β ob b\/b∈bs):=by intro b _ hb;rcases pA.1 hb with h1|h1;exact .inl h1;rcases n1.own b h1 with h2|h2;exact .inr (.inl h2);exact .inr (.inr h2)
 exact⟨n1.obs.mono (bad0:=fun _=>False) (bM.refl _ w) (fun _ _ x=>x.elim) hav (fun _ _ x=>x),fun i=>(((h.slot i).weaken hsub).ext n1.ext).weaken hav,h.size,(fun i b hb=>by cases hb),fun i=>rN,(fun i j b hi=>by cases hi),fun b hb=>h.b0lt b (.inl hb)⟩
theorem KE{ob:cW}{sl:List AV}{tmps:Array Value}{bs:Ln}(h:SR (fun b=>b0 b\/b∈bs) β ob w sl tmps F0):rM b0 β ob w (fun b=>b0 b\/dd β ob b\/b∈bs):=by
 have hsub:∀b,b<w.heap.size->(b0 b\/dd β ob b\/b∈bs)->Av (fun b=>b0 b\/b∈bs) β ob F0 b:=by intro b _ hb;rcases hb with h|h|h;exact .inl (.inl h);exact .inr (.inl h);exact .inl (.inr h)
 have hO0:=h.obs.mono (bad0:=fun _=>False) (bM.refl _ w) (fun _ _ x=>x.elim) hsub (fun _ _ x=>x);exact⟨hO0.row,hO0.box,hO0.apart,fun b hb=>⟨(h.obs.lt b hb).1,fun h0=>(h.obs.lt b hb).2 (.inl h0)⟩⟩
theorem QW{r:AV->Value->Ln->Prop}(hr:∀v,r .any v []):∀{cs:List AV} {vs:List Value},cs.length=vs.length->Vs r (cs.map fun _=>.any) vs []
 |[],[],_=>.nil
 |c::cs,v::vs,h=>by have:=Vs.cons (hr v) (QW hr (cs:=cs) (vs:=vs) (by simpa using h));simpa using this
theorem Je{a b:Nat}(h:a≠b):Nat.beq a b=false:=by
 cases hb:Nat.beq a b with
 |false=>rfl
 |true=>exact absurd (xN hb) h
theorem wY{ob:cW}{av:Nat->Prop}:∀{ms:List Mode} {vs:List AV} {us:List Value} {key:Nat},vN ms vs=some key->F9 (fun v u=>c9 β ob w av v u []) vs us->∃u r,mF ms us=u::r/\((∃off,c9 β ob w av (.ptr key off) u [])\/c9 β ob w av (.ow key) u [])
 |[],vs,us,key,h,_=>by cases vs<;>simp[vN]at h
 |m::ms,[],us,key,h,_=>by cases m<;>simp[vN]at h
 |m::ms,v::vs,us,key,h,h2=>by
  cases h2 with
  |cons h3 h4=>
   cases m with
   |ro=>exact wY (ms:=ms) (vs:=vs) h h4
   |mv s=>exact wY (ms:=ms) (vs:=vs) h h4
   |io s=>
    cases v<;>first
     |(have hk:=uR h;subst hk;exact⟨_,_,rfl,.inl ⟨_,h3⟩⟩)
     |(have hk:=uR h;subst hk;exact⟨_,_,rfl,.inr h3⟩)
     |cases h
theorem xa{R:Type}(st:St)(ob:cW)(dst:Option Tmp)(ms:List Mode)(args:List AV)(av:AV)(ios:List AV)(k:St->Option R):Jr st ob dst ms args av ios k=(sH st ob dst ms args av ios).bind k:=by
 unfold Jr;split
 .rename_i τ l;unfold sH;dsimp only;cases vN ms args with
  |none=>rfl
  |some key=>dsimp only;unfold Nd J5;split;rename_i σ l0 _;split;rename_i h;subst h;cases (Nat.blt 0 (List.length l)&&Nat.beq l0.length (List.length l))<;>rfl;rfl;rfl
 rfl
theorem Hv{P:Program}{R:Type}{E:Env}{C:bC}(hC:fP P E C){st:St}{a:Act}(hS:Rel b0 β st w a.tmps){o:Oper}{fn:Operand}{args:Array Operand}{ts:Array TypeId}{g:FuncId}{ms:List Mode}{s:List Sh}
  (ho:o.op = .call ⟨.value fn,args,ts⟩) (hfv:a.eval fn = .func (.func g) #[] #[]) (hsg:al E.sg g=some (ms,s)) {k:St->Option R} {r:R} (hk:xp E C o st g ms s ts.toList (args.toList.map (bk st.sl)) k=some r) :
  ∃st',k st'=some r/\st'.f=st.f/\∀next Q,(∀v w',jE b0 β st st' w w' (iH a.tmps o.dst v)->next (a.put o.dst v) w')->o.wp P a w next Q:=by
 have enter:∀{us:List Value},args.toList.map a.eval=us->a.eval fn = .func (.func g) #[] #[]->Enters P g->(execOp a.eval o).run P w = .ok (.enter g us.toArray) w:=by
  intro us hus hv hent;have hr:=hent.run us.toArray w;have he:Array.map a.eval args=us.toArray:=by apply JK;simp[<-hus]
  unfold execOp;rw[ho];simp only[resolve,hv,Deferred.ofValue,u7,Dt,u9,invoke,Rm,Array.append_empty,he,hr]
 have two:∀xs:List Operand,F9 (fun v u=>c9 β st.ob w (Av b0 β st.ob F0) v u []) (xs.map (bk st.sl)) (xs.map a.eval):=by
  intro xs
  induction xs with
  |nil=>exact .nil
  |cons x xs ih=>
   obtain⟨bs,h1,h2,h3,_⟩:=uZ hS.sr x;have:bs=[]:=by
    cases bs with
    |nil=>rfl
    |cons b bs=>obtain⟨t,_,hb⟩:=h3 b (ix ..);cases hb
   subst this;exact .cons h1 ih
 unfold xp at hk;simp only[xa]at hk;cases hg : !ms.all Mode.isV with
 |true=>rw[hg]at hk;cases hk
 |false=>
  rw[hg]at hk;simp only[uP]at hk;obtain⟨xs,ob',rk,ok,bs,hk1,took,hm,hiok⟩:=Fl hS.sr.obs (Part.refl _) hk (two args.toList);have hown:∀b∈bs,dd β st.ob b:=fun b hb=>by obtain⟨key,_,x,o,c,h1,h2⟩:=took.own b hb;exact⟨key,x,o,c,h1,h2⟩
  have inD:∀{key},AM st.ob ob' key->key∈(st.ob.map (·.1)).filter (fun k=>(al ob' k).isNone):=fun hgo=>by obtain⟨⟨x,hx⟩,hgone⟩:=hgo;exact p6.2 ⟨jC.2 ⟨(_,x),lJ hx,rfl⟩,by rw[hgone];rfl⟩
  -- the call,beside what stays
  have main:∀D2:Ln,(∀key∈rk,key∈D2)->∀ys,Vs (c9 noβ [] w (fun b=>(b0 b\/(dd β (iz st D2).ob b/\b∉bs))\/b∈bs)) ys (args.toList.map a.eval) bs->∀z,C g ys (s++df ms)=some z->Enters P g /\
    Calls P g (args.toList.map a.eval).toArray w fun e w'=>∃v,e = .returned v/\se (fun b=>b0 b\/(dd β (iz st D2).ob b/\b∉bs)) ms s (args.toList.map a.eval) bs w w' z v:=by
   intro D2 hD2 ys hys z hz;obtain⟨hent,hcall⟩:=hC g ms s hsg _ _ hz;obtain⟨hK,hKo,_⟩:=pt D2 hS;refine⟨hent,hcall _ w _ bs hys took.nd (fun b hb=>⟨(hS.sr.obs.lt b (hown b hb)).1,fun h=>?_⟩) fun b hb=>?_⟩;rcases h with h|h;exact(hS.sr.obs.lt b (hown b hb)).2 h;exact h.2 hb;rcases hb with h|h;exact hS.sr.b0lt b h;exact(hS.sr.obs.lt b (hKo b h.1)).1
  have calm:∀D2:Ln,(∀key∈rk,key∈D2)->Calm β st.ob w (Av b0 β st.ob F0) rk (fun b=>(b0 b\/(dd β (iz st D2).ob b/\b∉bs))\/b∈bs):=by
   intro D2 hD2;obtain⟨hK,hKo,_⟩:=pt D2 hS;refine⟨fun b _ hb=>?_,fun key hkey b hkb hb=>?_⟩;rcases hb with(h|h)|h;exact .inl h;exact .inr (.inl (hKo b h.1));exact .inr (.inl (hown b h));have hob:dd β st.ob b:=by obtain⟨x,o,c,e1,e2⟩:=hkb;exact⟨key,x,o,c,e1,e2⟩
   rcases hb with(h|h)|h;exact(hS.sr.obs.lt b hob).2 h;exact(hK.sr.obs.lt b h.1).2 (.inr ⟨key,hD2 key hkey,hkb⟩);obtain⟨key',hk',hkb'⟩:=took.own b h;have:=AL hS.sr.obs hkb hkb';subst this;exact took.dis key hkey hk'
  have part2:∀D2:Ln,(∀key∈rk,key∈D2)->∃ys z,(sH st ob' o.dst ms (args.toList.map (bk st.sl)) (lQ s (eP s (df ms) z).1) (gL (df ms) (eP s (df ms) z).2)).bind k=some r/\C g ys (s++df ms)=some z/\Vs (c9 noβ [] w (fun b=>(b0 b\/(dd β (iz st D2).ob b/\b∉bs))\/b∈bs)) ys (args.toList.map a.eval) bs:=by intro D2 hD2;obtain⟨ys,hk2,hys⟩:=GB hS.sr.obs (fun b hlt hb=>(calm D2 hD2).1 b hlt hb) hk1 (hm _ (calm D2 hD2)) (two args.toList);obtain⟨z,hz,hk3⟩:=bind_some hk2;exact⟨ys,z,hk3,hz,hys⟩
  have hD1:∀b∈bs,∃key∈ok,key∈(st.ob.map (·.1)).filter (fun k=>(al ob' k).isNone)/\dm β st.ob key b:=fun b hb=>by obtain⟨key,hkey,hbk⟩:=took.own b hb;exact⟨key,hkey,inD (took.go key hkey),hbk⟩
  have hrkD:∀key∈rk,key∈(st.ob.map (·.1)).filter (fun k=>(al ob' k).isNone):=fun key hkey=>inD (took.gr key hkey);have hafter:∀z,(sH st ob' o.dst ms (args.toList.map (bk st.sl)) (lQ s (eP s (df ms) z).1) (gL (df ms) (eP s (df ms) z).2)).bind k=some r->∃st',sH st ob' o.dst ms (args.toList.map (bk st.sl)) (lQ s (eP s (df ms) z).1) (gL (df ms) (eP s (df ms) z).2)=some st'/\k st'=some r:=fun z h=>bind_some h;generalize hDD:(st.ob.map (·.1)).filter (fun k=>(al ob' k).isNone)=D at hD1 hrkD;by_cases hio:df ms=[]
  .-- nothing is lent
   obtain⟨ys,z,hk3,hz,hys⟩:=part2 D hrkD;obtain⟨st',haf,hkst⟩:=hafter z hk3;obtain⟨hent,hcall⟩:=main D hrkD ys hys z hz;obtain⟨hK,hKo,hKf⟩:=pt D hS;have hst':st'=(iz st D).put o.dst (lQ s (eP s (df ms) z).1):=by
    unfold sH at haf;rw[hDD]at haf;have:gL (df ms) (eP s (df ms) z).2=[]:=by generalize (eP s (df ms) z).2=q;revert q;rw[hio];intro q;rfl
    rw[this]at haf;exact(uR haf).symm
   refine⟨_,hkst,by rw[hst'];cases o.dst<;>exact hKf,fun next Q hn=>?_⟩;simp only[Oper.wp,enter rfl hfv hent,Oper.upon];refine hcall.mono fun en w' h=>?_;obtain⟨v,rfl,hres⟩:=h;obtain⟨b1,b2,hnd,hfr,hv,_⟩:=hres.res;have hfr1:∀b∈b1,b<w'.heap.size/\(b∈bs\/w.heap.size<=b):=fun b hb=>hfr b (uf _ hb);have hD:∀b∈bs,∃key∈D,dm β st.ob key b:=fun b hb=>let ⟨key,_,h1,h2⟩:=hD1 b hb;⟨key,h1,h2⟩;have hW:=hK.sr.world' (w':=w') (bad0:=(· ∈ bs)) (b0':=fun b=>b0 b\/b∈b1) hres.same (fun b _ h=>.inr (hD b h)) (fun b hlt h=>by
    rcases h with h|h;exact .inl h;rcases(hfr1 b h).2 with h1|h1;exact .inr (hD b h1);omega) (fun b h=>by
    rcases h with h|h;exact uY (hS.sr.b0lt b h) hres.same.1;exact(hfr1 b h).1)
   have notK:∀b∈bs,¬dd β (iz st D).ob b:=fun b hb ho=>(hK.sr.obs.lt b ho).2 (.inr (hD b hb));have hl:lC b0 β (iz st D).ob w' b1:=⟨(D3.1 hnd).1,fun b hb=>⟨(hfr1 b hb).1,fun h0=>by
     rcases(hfr1 b hb).2 with h|h;exact(hS.sr.obs.lt b (hown b h)).2 h0;have:=hS.sr.b0lt b h0;omega,fun ho=>by
     rcases(hfr1 b hb).2 with h|h;exact notK b h ho;have:=(hS.sr.obs.lt b (hKo b ho)).1;omega⟩⟩
   have hs2:bM (dd β st.ob) w w':=hres.same.mono fun b _ h=>hown b h;have hv':c9 β (iz st D).ob w' (fun b=>b0 b\/dd β (iz st D).ob b\/b∈b1) (lQ s (eP s (df ms) z).1) v b1:=(hv.ext (CG β _)).weaken fun b _ hb=>by rcases hb with h|h|h;exact .inl (.inl h);exact .inl (.inr ⟨h,fun hb=>notK b hb h⟩);exact .inr (uf _ h)
   have hres2:∃β',Rel b0 β' ((iz st D).put o.dst (lQ s (eP s (df ms) z).1)) w' (iH a.tmps o.dst v) /\
     ∀b,dd β' ((iz st D).put o.dst (lQ s (eP s (df ms) z).1)).ob b->dd β st.ob b\/w.heap.size<=b:=by
    cases hd:o.dst with
    |some t0=>obtain⟨β',h1,h2,h3⟩:=hW.putL (key:=keyOf t0) (v:=v) (av:=lQ s (eP s (df ms) z).1) hl hv' t0;refine⟨β',⟨h1,ou hK.nn h2⟩,fun b hb=>?_⟩;rcases h3 b hb with h|h;exact .inl (hKo b h);exact(hfr1 b h).2.imp (hown b) id
    |none=>exact⟨β,⟨hW.weakB fun b h=>.inl h,hK.nn⟩,fun b hb=>.inl (hKo b hb)⟩
   obtain⟨β',h1,h2⟩:=hres2;rw[hst']at *;exact hn v w' ⟨⟨β',h1,h2⟩,hs2⟩
  .-- one thing is lent
   have hkey:∀z st',sH st ob' o.dst ms (args.toList.map (bk st.sl)) (lQ s (eP s (df ms) z).1) (gL (df ms) (eP s (df ms) z).2)=some st' ->
     ∃key v0 st2,vN ms (args.toList.map (bk st.sl))=some key/\gL (df ms) (eP s (df ms) z).2=[v0]/\((∃τ l,v0 = .new τ l/\J5 (iz st (D.filter fun k=>!Nat.beq k key)) key τ l=some st2)\/(∀τ l,v0 ≠ .new τ l)/\Nf (iz st (D.filter fun k=>!Nat.beq k key)) key (cellsOf v0)=some st2)/\st'=st2.put o.dst (lQ s (eP s (df ms) z).1):=by
    intro z st' haf;unfold sH at haf;rw[hDD]at haf;simp only at haf;split at haf
    .rename_i he;exfalso;revert he;generalize (eP s (df ms) z).2=q;revert q;cases hi:df ms with
     |nil=>exact absurd hi hio
     |cons x l=>cases l<;>intro q he<;>cases he
    rename_i v0 he;split at haf;rename_i key hkk;split at haf;rename_i τ l;rw[LV]at haf;obtain⟨st2,h1,h2⟩:=haf;exact⟨key,_,st2,hkk,he,.inl ⟨τ,l,rfl,h1⟩,h2.symm⟩;rename_i hnn;rw[LV]at haf;obtain⟨st2,h1,h2⟩:=haf;exact⟨key,_,st2,hkk,he,.inr ⟨fun τ l e=>hnn τ l e,h1⟩,h2.symm⟩;cases haf;cases haf
   -- the key does not depend on the answer
   obtain⟨key,hkk⟩:∃key,vN ms (args.toList.map (bk st.sl))=some key:=by obtain⟨ys,z,hk3,_,_⟩:=part2 D hrkD;obtain⟨st',haf,_⟩:=hafter z hk3;obtain⟨key,_,_,h,_⟩:=hkey z st' haf;exact⟨key,h⟩
   have hkok:=hiok key hkk;have hrk2:∀k∈rk,k∈D.filter fun k=>!Nat.beq k key:=fun k hk=>p6.2 ⟨hrkD k hk,by have:k≠key:=fun e=>took.dis k hk (e▸hkok);rw[Je this];rfl⟩
   obtain⟨ys,z,hk3,hz,hys⟩:=part2 _ hrk2;obtain⟨st',haf,hkst⟩:=hafter z hk3;obtain⟨key',v0,st2,hkk',hv0,hback,hst'⟩:=hkey z st' haf;rw[hkk]at hkk';cases hkk';obtain⟨hent,hcall⟩:=main _ hrk2 ys hys z hz;obtain⟨hK,hKo,hKf⟩:=pt (D.filter fun k=>!Nat.beq k key) hS;generalize hKD:iz st (D.filter fun k=>!Nat.beq k key)=KD at *;rcases hback with⟨τ,l',hvn,hback⟩|⟨hvn,hback⟩
   .-- a row
    subst hvn;unfold J5 at hback;split at hback
    .rename_i σ l hc0;split at hback
     .rename_i hσ;subst hσ;obtain⟨hlen,hback⟩:=bO hback;rw[eJ]at hlen;obtain⟨hpos,hlen⟩:=hlen;have hpos:0<List.length l':=by
       have:decide (0<List.length l')=true:=by simpa[Nat.blt_eq]using hpos
       exact uW this
      have hlen:=xN hlen;have hst2:=(uR hback).symm;have hf:st'.f=st.f:=by rw[hst',hst2];cases o.dst<;>exact hKf
      refine⟨_,hkst,hf,fun next Q hn=>?_⟩;simp only[Oper.wp,enter rfl hfv hent,Oper.upon];refine hcall.mono fun en w' h=>?_;obtain⟨v,rfl,hres⟩:=h;obtain⟨b1,b2,hnd,hfr,hv,hvi⟩:=hres.res;obtain⟨u,ru,hiv,hpt⟩:=wY hkk (two args.toList);rw[hv0,hiv]at hvi;obtain⟨u',ur,bi,br,hu,hbi,hvb,hvr⟩:=Vs.split (a:=Au (.new τ l')) (as:=[]) hvi;cases hvr;cases hu;rw[s7]at hbi;subst hbi;have hvb:qM w' (fun y=>(b0 y\/(dd β KD.ob y/\y∉bs))\/y∈b1++b2) τ l' u b2:=hvb;rcases hvb with⟨_,hl0,_⟩|⟨b,oo,cc,hb2,hu2,hR'⟩;exfalso;rw[hl0]at hpos;simp at hpos;subst hb2;rcases hpt with⟨off,hpt⟩|hpt;exfalso;obtain⟨_,_,_,_,_,_,hp⟩:=hpt;rw[hu2]at hp;cases hp;obtain⟨_,τ0,l0,hk0,hsl⟩:=hpt;rcases hK.sr.obs.row key τ l hc0 with⟨_,hl0⟩|⟨b',o',c0,hβ,hR0⟩;exfalso;rw[hl0]at hlen;simp at hlen;omega;unfold sJ at hsl;rw[hβ]at hsl;obtain⟨A,c,hu3,hc1,hc2,hA0⟩:=hsl;rw[hu2]at hu3;injection hu3 with e1 e2 e3;injection e1 with e1;injection e1 with e1 e4 _;subst e1;subst e3;obtain⟨cells',elem',hh',hlc',hcs',hrd'⟩:=hR';have hoo:oo=o':=by rw[e4];have:=hA0 (by omega);omega
      subst hoo;have hbOf:dm β st.ob key b:=⟨_,_,_,hk0,hβ⟩;have hbs:∀y∈bs,y=b\/∃k∈D.filter (fun k=>!Nat.beq k key),dm β st.ob k y:=fun y hy=>by obtain⟨key',_,h1,h2⟩:=hD1 y hy;by_cases he:key'=key;subst he;left;obtain⟨x1,o1,c1,e1,e2⟩:=h2;rw[hβ]at e2;cases e2;rfl;exact .inr ⟨key',p6.2 ⟨h1,by rw[Je he];rfl⟩,h2⟩
      have notK:∀y∈bs,dd β KD.ob y->y=b:=fun y hy ho=>(hbs y hy).resolve_right fun h=>(hK.sr.obs.lt y ho).2 (.inr h);have hnd1:=(D3.1 hnd);have hnb1:b∉b1:=fun h=>hnd1.2.2 b h b (by simp) rfl;have hfr1:∀y∈b1,y<w'.heap.size/\(y∈bs\/w.heap.size<=y):=fun y hy=>hfr y (uf _ hy);have low:∀y,y<w.heap.size->y∈b1->∃k∈D.filter (fun k=>!Nat.beq k key),dm β st.ob k y:=by intro y hlt hy;have:y∈bs:=(hfr1 y hy).2.resolve_right (by omega);refine(hbs y this).resolve_left fun e=>?_;subst e;exact hnb1 hy
      have hrow':∀bad',(∀y,y<w'.heap.size->bad' y->((b0 y\/(dd β KD.ob y/\y∉bs))\/y∈b1++[b]))->Row w' bad' τ l' b oo c0:=fun bad' hb'=>by have hlt:=hR0.lt;obtain⟨cells0,elem0,hh0,hlc0,hcs0,_⟩:=hR0;have hln:=hres.same.st.len b hlt;rw[hh',hh0]at hln;simp only[OS,Ce,s8]at hln;exact⟨cells',elem',hh',⟨by omega,hlc0.2⟩,by omega,fun i x hx=>by obtain⟨ds,he,hd⟩:=hrd' i x hx;exact⟨ds,fe (bad0:=fun _=>False) (bM.refl _ w') (fun _ _ x=>x.elim) hb' he,hd⟩⟩
      have avsub:∀y,y<w'.heap.size->Av (fun y=>b0 y\/y∈b1) β KD.ob F0 y->((b0 y\/(dd β KD.ob y/\y∉bs))\/y∈b1++[b]):=fun y _ hy=>by rcases pA.1 hy with(h|h)|h;exact .inl (.inl h);exact .inr (uf _ h);by_cases hyb:y∈bs;have:=notK y hyb h;subst this;exact .inr (D4 _ (by simp));exact .inl (.inr ⟨h,hyb⟩)
      have hW:=hK.sr.writeW (w':=w') (bad0:=(· ∈ bs)) (b0':=fun y=>b0 y\/y∈b1) (x':=.row τ l') hc0 hβ ⟨rfl,hlen.symm⟩ hres.same (fun y _ h=>(hbs y h).imp id .inr) (fun y hlt h=>by
       rcases h with h|h;exact .inl h;exact .inr (low y hlt h)) (fun y h=>by
       rcases h with h|h;exact uY (hS.sr.b0lt y h) hres.same.1;exact(hfr1 y h).1) (fun τ' l'' he=>by cases he;exact hrow' _ avsub) (by simp)
      have ownB:∀{y},dd β (fx KD.ob key (.row τ l')) y->dd β KD.ob y:=fun h=>(jd hc0).1 h;have notOwn:∀y,y∈b1->¬dd β KD.ob y:=fun y hy ho=>by have hlt:=(hS.sr.obs.lt y (hKo y ho)).1;exact(hK.sr.obs.lt y ho).2 (.inr (low y hlt hy))
      have not0:∀y,y∈b1->¬b0 y:=fun y hy h0=>by have hlt:=hS.sr.b0lt y h0;obtain⟨k,_,x,o',c',e1,e2⟩:=low y hlt hy;exact(hS.sr.obs.lt y ⟨k,x,o',c',e1,e2⟩).2 h0
      have hl:lC b0 β (fx KD.ob key (.row τ l')) w' b1:=⟨hnd1.1,fun y hy=>⟨(hfr1 y hy).1,not0 y hy,fun ho=>notOwn y hy (ownB ho)⟩⟩;have hv':c9 β (fx KD.ob key (.row τ l')) w' (fun y=>b0 y\/dd β (fx KD.ob key (.row τ l')) y\/y∈b1) (lQ s (eP s (df ms) z).1) v b1:=(hv.ext (CG β _)).weaken fun y hlt hy=>by rcases hy with h|h|h;exact .inl (.inl h);exact avsub y hlt (.inr (.inl (ownB h)));exact .inr (uf _ h)
      have hs2:bM (dd β st.ob) w w':=hres.same.mono fun y _ h=>hown y h;have fin:∀{y},dd β (fx KD.ob key (.row τ l')) y->dd β st.ob y\/w.heap.size<=y:=fun h=>.inl (hKo _ (ownB h));have hres2:∃β',Rel b0 β' st' w' (iH a.tmps o.dst v)/\∀y,dd β' st'.ob y->dd β st.ob y\/w.heap.size<=y:=by
       rw[hst',hst2];cases hd:o.dst with
       |some t0=>obtain⟨β',h1,h2,h3⟩:=hW.putL (key:=keyOf t0) (v:=v) (av:=lQ s (eP s (df ms) z).1) hl hv' t0;refine⟨β',⟨h1,ou hK.nn h2⟩,fun y hy=>?_⟩;rcases h3 y hy with h|h;exact fin h;exact(hfr1 y h).2.imp (hown y) id
       |none=>exact⟨β,⟨hW.weakB fun b h=>.inl h,hK.nn⟩,fun y hy=>fin hy⟩
      obtain⟨β',h1,h2⟩:=hres2;exact hn v w' ⟨⟨β',h1,h2⟩,hs2⟩
     cases hback
    cases hback
   unfold Nf at hback;split at hback
   .rename_i c0 hc0;obtain⟨hlen,hback⟩:=bO hback;have hlen:=xN hlen;have hst2:=(uR hback).symm;have hf:st'.f=st.f:=by rw[hst',hst2];cases o.dst<;>exact hKf
    refine⟨_,hkst,hf,fun next Q hn=>?_⟩;simp only[Oper.wp,enter rfl hfv hent,Oper.upon];refine hcall.mono fun en w' h=>?_;obtain⟨v,rfl,hres⟩:=h;obtain⟨b1,b2,hnd,hfr,hv,hvi⟩:=hres.res;obtain⟨u,ru,hiv,hpt⟩:=wY hkk (two args.toList);rw[hv0,hiv]at hvi;obtain⟨u',ur,bi,br,hu,hbi,hvb,hvr⟩:=Vs.split (a:=Au v0) (as:=[]) hvi;cases hvr;cases hu;rw[s7]at hbi;subst hbi;obtain⟨off,hpt⟩:∃off,c9 β st.ob w (Av b0 β st.ob F0) (.ptr key off) u []:=by
     rcases hpt with hpt|hpt;exact hpt;exfalso;have nb:∀cs,c9 noβ [] w' (fun y=>(b0 y\/(dd β KD.ob y/\y∉bs))\/y∈b1++b2) (.nbox cs) u b2->False:=by intro cs h;obtain⟨b',cells,elem,bs',hu',_⟩:=h;obtain⟨_,τ0,l0,_,hsl⟩:=hpt;unfold sJ at hsl;split at hsl;obtain⟨⟨A,hA⟩,_⟩:=hsl;rw[hu']at hA;cases hA;obtain⟨A,c,hA,_⟩:=hsl;rw[hu']at hA;cases hA
     cases v0 with
     |new τ l=>exact hvn τ l rfl
     |_=>exact nb _ hvb
    obtain⟨_,b,c,cs0,hβ,hk0,hup⟩:=hpt;obtain⟨bs',cells,elem,hb2,hheap,hcs⟩:∃bs' cells elem,b2=b::bs'/\w'.heap[b]?=some (.cells cells elem (0,0))/\Vs (eO noβ [] w' (fun y=>(b0 y\/(dd β KD.ob y/\y∉bs))\/y∈b1++b2)) (cellsOf v0) cells.toList bs':=by
     have nb:∀cs,c9 noβ [] w' (fun y=>(b0 y\/(dd β KD.ob y/\y∉bs))\/y∈b1++b2) (.nbox cs) u b2->∃bs' cells elem,b2=b::bs'/\w'.heap[b]?=some (.cells cells elem (0,0))/\Vs (eO noβ [] w' (fun y=>(b0 y\/(dd β KD.ob y/\y∉bs))\/y∈b1++b2)) cs cells.toList bs':=by
      intro cs h;obtain⟨b',cells,elem,bs',hu',hbb,hh,hvs⟩:=h;rw[hup]at hu';have:b'=b:=by have:=uR (Value.pointer.inj hu');exact(mM Addr.block this).symm
      subst this;exact⟨bs',cells,elem,hbb,hh,hvs⟩
     cases v0 with
     |new τ l=>exfalso;have h:qM w' (fun y=>(b0 y\/(dd β KD.ob y/\y∉bs))\/y∈b1++b2) τ l u b2:=hvb;rcases h with⟨⟨A,hA⟩,_⟩|⟨_,_,_,_,hA,_⟩;rw[hup]at hA;cases hA;rw[hup]at hA;cases hA
     |_=>exact nb _ hvb
    have hKb:β key=some (b,0,c0.length):=by obtain⟨b',cells',elem',hb',_,_⟩:=hK.sr.obs.box key c0 hc0;rw[hβ]at hb';rw[hβ];have:=uR hb';cases this;rfl
    have hbown:dd β st.ob b:=⟨key,_,_,_,hk0,hβ⟩;have hbOf:dm β st.ob key b:=⟨_,_,_,hk0,hβ⟩;have hbs:∀y∈bs,y=b\/∃k∈D.filter (fun k=>!Nat.beq k key),dm β st.ob k y:=fun y hy=>by obtain⟨key',_,h1,h2⟩:=hD1 y hy;by_cases he:key'=key;subst he;left;obtain⟨x1,o1,c1,e1,e2⟩:=h2;rw[hβ]at e2;cases e2;rfl;exact .inr ⟨key',p6.2 ⟨h1,by rw[Je he];rfl⟩,h2⟩
    have notK:∀y∈bs,dd β KD.ob y->y=b:=fun y hy ho=>(hbs y hy).resolve_right fun h=>(hK.sr.obs.lt y ho).2 (.inr h);subst hb2;have hnd1:=(D3.1 hnd);have hnb:b∉bs':=(zI.1 hnd1.2.1).1;have hnb1:b∉b1:=fun h=>hnd1.2.2 b h b (by simp) rfl;have hdj:∀y∈b1,y∉bs':=fun y h1 h2=>hnd1.2.2 y h1 y (by simp[h2]) rfl;have hcl:c0.length=cells.toList.length:=hlen.trans hcs.len;have hfr1:∀y∈b1,y<w'.heap.size/\(y∈bs\/w.heap.size<=y):=fun y hy=>hfr y (uf _ hy);have hfr2:∀y∈bs',y<w'.heap.size/\(y∈bs\/w.heap.size<=y):=fun y hy=>hfr y (D4 _ (by simp[hy]));have low:∀y,y<w.heap.size->(y∈b1\/y∈bs')->∃k∈D.filter (fun k=>!Nat.beq k key),dm β st.ob k y:=by
     intro y hlt hy;have:y∈bs:=by rcases hy with h|h;exact(hfr1 y h).2.resolve_right (by omega);exact(hfr2 y h).2.resolve_right (by omega)
     refine(hbs y this).resolve_left fun e=>?_;subst e;rcases hy with h|h;exact hnb1 h;exact hnb h
    -- the box is empty,the call is done
    have hW:=hK.sr.writeW (w':=w') (bad0:=(· ∈ bs)) (b0':=fun y=>(b0 y\/y∈b1)\/y∈bs') (x':=.box (c0.map fun _=>.any)) hc0 hKb (by simp[Alike]) hres.same (fun y _ h=>(hbs y h).imp id .inr) (fun y hlt h=>by
     rcases h with(h|h)|h;exact .inl h;exact .inr (low y hlt (.inl h));exact .inr (low y hlt (.inr h))) (fun y h=>by
     rcases h with(h|h)|h;exact uY (hS.sr.b0lt y h) hres.same.1;exact(hfr1 y h).1;exact(hfr2 y h).1) (by simp) (fun ds hd=>by
     cases hd;exact⟨rfl,by simp,cells,elem,hheap,QW (fun _=>rfl) hcl⟩)
    have ownB:∀{y},dd β (fx KD.ob key (.box (c0.map fun _=>.any))) y->dd β KD.ob y:=fun h=>(jd hc0).1 h
    -- its rows get names
    have hO:=KE hW;have notOwn:∀y,(y∈b1\/y∈bs')->¬dd β KD.ob y:=fun y hy ho=>by have hlt:=(hS.sr.obs.lt y (hKo y ho)).1;exact(hK.sr.obs.lt y ho).2 (.inr (low y hlt hy))
    have not0:∀y,(y∈b1\/y∈bs')->¬b0 y:=fun y hy h0=>by have hlt:=hS.sr.b0lt y h0;obtain⟨k,_,x,o',c',e1,e2⟩:=low y hlt hy;exact(hS.sr.obs.lt y ⟨k,x,o',c',e1,e2⟩).2 h0
    have hcs':Vs (eO β (fx KD.ob key (.box (c0.map fun _=>.any))) w' (fun y=>(b0 y\/y∈b1)\/dd β (fx KD.ob key (.box (c0.map fun _=>.any))) y\/y∈bs')) (cellsOf v0) cells.toList bs':=hcs.imp fun a v q _ hr=>fO (bad0:=fun _=>False) (bM.refl _ w') (fun _ _ x=>x.elim) (fun y _ hy=>by rcases hy with(h|h)|h|h;exact .inl (.inl h);exact .inr (uf _ h);by_cases hyb:y∈bs;have:=notK y hyb (ownB h);subst this;exact .inr (D4 _ (by simp));exact .inl (.inr ⟨ownB h,hyb⟩);exact .inr (D4 _ (by simp[h]))) (fun _ _ x=>x) (hr.ext (CG β _))
    obtain⟨β1,n1,g1,_⟩:=lM (key:=key+1) hO ⟨(zI.1 hnd1.2.1).2,fun y hy=>⟨(hfr2 y hy).1,fun h=>by rcases h with h|h;exact not0 y (.inr hy) h;exact hdj y h hy,fun h=>notOwn y (.inr hy) (ownB h)⟩⟩ hcs'
    have hN:=hW.namedL n1;generalize hrr:dB (key+1) (fx KD.ob key (.box (c0.map fun _=>.any))) (cellsOf v0)=rr at *;obtain⟨hl1,hl2⟩:=n1.ext.keep key (.box (c0.map fun _=>.any)) (by rw[qi ⟨_,hc0⟩,aa rfl]);have hrl:rr.1.length=c0.length:=by rw[g1.len,hcl]
    have hZ:=hN.write (w':=w') (x':=.box rr.1) hl1 (hl2.trans hKb) (by simp[Alike,hrl]) (bM.refl _ w') (by simp) (fun ds hd=>by
     cases hd;refine⟨rfl,hrl.symm,cells,elem,hheap,g1.imp fun a v q _ hr=>pU (fO (bad0:=fun _=>False) (bM.refl _ w') (fun _ _ x=>x.elim) (fun y _ hy=>?_) (fun _ _ x=>x) hr)⟩;rcases pA.1 hy with h|h
     exact .inl h;exact .inr (n1.own y h))
    have ownZ:∀{y},dd β1 (fx rr.2 key (.box rr.1)) y->dd β KD.ob y\/y∈bs':=fun h=>(n1.own _ ((jd hl1).1 h)).imp ownB id;have hl:lC b0 β1 (fx rr.2 key (.box rr.1)) w' b1:=⟨hnd1.1,fun y hy=>⟨(hfr1 y hy).1,not0 y (.inl hy),fun ho=>by rcases ownZ ho with h|h;exact notOwn y (.inl hy) h;exact hdj y hy h⟩⟩
    have hv':c9 β1 (fx rr.2 key (.box rr.1)) w' (fun y=>b0 y\/dd β1 (fx rr.2 key (.box rr.1)) y\/y∈b1) (lQ s (eP s (df ms) z).1) v b1:=(hv.ext (CG β1 _)).weaken fun y _ hy=>by rcases hy with h|h|h;exact .inl (.inl h);rcases ownZ h with h|h;by_cases hyb:y∈bs;have:=notK y hyb h;subst this;exact .inr (D4 _ (by simp));exact .inl (.inr ⟨h,hyb⟩);exact .inr (D4 _ (by simp[h]));exact .inr (uf _ h)
    have hs2:bM (dd β st.ob) w w':=hres.same.mono fun y _ h=>hown y h;have fin:∀{y},dd β1 (fx rr.2 key (.box rr.1)) y->dd β st.ob y\/w.heap.size<=y:=fun h=>by rcases ownZ h with h|h;exact .inl (hKo _ h);exact(hfr2 _ h).2.imp (hown _) id
    have hres2:∃β',Rel b0 β' st' w' (iH a.tmps o.dst v)/\∀y,dd β' st'.ob y->dd β st.ob y\/w.heap.size<=y:=by
     rw[hst',hst2];cases hd:o.dst with
     |some t0=>obtain⟨β',h1,h2,h3⟩:=hZ.putL (key:=keyOf t0) (v:=v) (av:=lQ s (eP s (df ms) z).1) hl hv' t0;refine⟨β',⟨h1,ou hK.nn h2⟩,fun y hy=>?_⟩;rcases h3 y hy with h|h;exact fin h;exact(hfr1 y h).2.imp (hown y) id
     |none=>exact⟨β1,⟨hZ.weakB fun b h=>.inl h,hK.nn⟩,fun y hy=>fin hy⟩
    obtain⟨β',h1,h2⟩:=hres2;exact hn v w' ⟨⟨β',h1,h2⟩,hs2⟩
   cases hback
theorem Ig{P:Program}{R:Type}{E:Env}(hA:iw P E){C:bC}(hC:fP P E C){st:St}{a:Act}(hS:Rel b0 β st w a.tmps){o:Oper}{k:St->Option R}{r:R}(hk:l9 E C o st k=some r):
  ∃st',k st'=some r/\st'.f=st.f/\∀next Q,(∀v w',jE b0 β st st' w w' (iH a.tmps o.dst v)->next (a.put o.dst v) w')->o.wp P a w next Q:=by
 have frozen:∀ks,ec E C (kG st ks).ob (bk (kG st ks).sl) o (fun v=>k ((kG st ks).put o.dst v))=some r ->
   ∃st',k st'=some r/\st'.f=st.f/\∀next Q,(∀v w',jE b0 β st st' w w' (iH a.tmps o.dst v)->next (a.put o.dst v) w')->o.wp P a w next Q:=by
  intro ks hk;obtain⟨h1,h2,h3⟩:=mi ks hS;obtain⟨st',g1,g2,g3⟩:=qf hA hC h1 hk;exact⟨st',g1,g2.trans h3,fun next Q hn=>g3 next Q fun v w' hg=>hn v w' (hg.frozen h2)⟩
 unfold l9 at hk;split at hk;rename_i t x y ho;split at hk;rename_i key j off hx;exact EL hA hS ho hx hk;rename_i key off hx;split at hk;rename_i g caps hy;exact EM hA hS ho hx hy hk;exact yv hA hS ho (by rw[hx];exact hk);exact yv hA hS ho hk;rename_i t n ps ho;exact frozen _ hk
 .rename_i c ho;obtain⟨callee,args,ts⟩:=c;simp only at hk;split at hk;split at hk;rename_i x y hargs;split at hk;rename_i key hx;exact xw hA hS ho hargs (cut:=none) hx hk;rename_i key len hx;exact xw hA hS ho hargs (cut:=some len) hx hk;exact qf hA hC hS hk;cases hk;split at hk;rename_i x hargs;exact FL hA hS ho hargs hk;cases hk;split at hk;rename_i x y hargs;exact Hr hA hS ho hargs hk;cases hk
  .rename_i f0;split at hk
   .split at hk
    .rename_i g caps hfn x ms s hsg;cases hr:ms.all Mode.isRo with
     |true=>
      rw[hr]at hk;simp only[pD]at hk;cases hl:s.any Sh.hasList with
      |true=>rw[hl]at hk;exact frozen _ hk
      |false=>rw[hl]at hk;exact qf hA hC hS hk
     |false=>
      rw[hr]at hk;simp only[uP]at hk;split at hk
      .obtain⟨h1,h2,h3⟩:=mi (EZ ms (args.toList.map (bk st.sl))) hS;have hfv:a.eval f0 = .func (.func g) #[] #[]:=by obtain⟨bf,hf1,_⟩:=uZ hS.sr f0;rw[hfn]at hf1;obtain⟨_,cv,hfv,hcv⟩:=hf1;cases hcv;exact hfv
       obtain⟨st',g1,g2,g3⟩:=Hv hC h1 ho hfv hsg hk;exact⟨st',g1,g2.trans h3,fun next Q hn=>g3 next Q fun v w' hg=>hn v w' (hg.frozen h2)⟩
      cases hk
    split at hk;rename_i x hso hfn;exact IU hA.so hS ho hfn hso hk;exact qf hA hC hS hk
   cases hk
  exact qf hA hC hS hk
 exact qf hA hC hS hk
end
end
section
section
variable {R:Type} {ob:cW} {E:Env} {C:bC}
theorem cX{α β γ:Type}(x:Option α)(g:α->Option β)(k:β->Option γ):(x.bind g).bind k=x.bind fun a=>(g a).bind k:=by cases x<;>rfl
theorem J3(v:AV)(k:Bool->Option R):xr v k=(xr v some).bind k:=by
 cases v<;>try rfl
 rename_i τ x;cases τ<;>rfl
theorem gy(v:AV)(k:IntKind->Int->Option R):ux v k=(ux v fun a b=>some (a,b)).bind fun p=>k p.1 p.2:=by
 cases v<;>try rfl
 rename_i τ x;cases τ<;>rfl
theorem oU{ow:Bool}:∀(τ:Ty) (cs:List AV) {R:Type} (k:τ.den->List AV->Option R),da ob ow τ cs k=(da ob ow τ cs fun x r=>some (x,r)).bind fun p=>k p.1 p.2
 |.pair a b,cs,R,k=>by simp only[da];rw[oU a cs,oU a cs (fun x cs=>da ob ow b cs fun y cs=>some ((x,y),cs)),cX];congr 1;funext p;rw[oU b,oU b p.2 (fun y cs=>some ((p.1,y),cs)),cX];rfl
 |.list e,[],R,k=>rfl
 |.list e,c::cs,R,k=>by simp only[da];split;rfl;rfl;rw[ny,ny e _ (fun l=>some (l,cs)),cX];rfl
 |.int κ,[],R,k=>rfl
 |.int κ,c::cs,R,k=>by simp only[da];split;split<;>rfl;rfl
 |.bool,[],R,k=>rfl
 |.bool,c::cs,R,k=>by simp only[da];split;split<;>rfl;rfl
theorem H0(ow:Bool)(τ:Ty)(v:AV)(k:τ.den->Option R):H5 ob ow τ v k=(H5 ob ow τ v some).bind k:=by
 have:∀cs,(da ob ow τ cs fun x r=>match r with|[]=>k x|_=>none)=(da ob ow τ cs fun x r=>match r with|[]=>some x|_=>none).bind k:=by intro cs;rw[oU,oU τ cs (fun x r=>match r with|[]=>some x|_=>none),cX];congr 1;funext p;obtain⟨x,r⟩:=p;cases r<;>rfl
 unfold H5;split;rfl;exact this _
theorem zM(ow:Bool)(τ:Ty)(v:AV)(k:τ.den->Option R):Kg ob ow τ v k=(Kg ob ow τ v some).bind k:=by
 cases τ with
 |pair a b=>show(da ob ow (.pair a b) (cellsOf v) fun x r=>match r with|[]=>k x|_=>none)=(da ob ow (.pair a b) (cellsOf v) fun x r=>match r with|[]=>some x|_=>none).bind k;rw[oU,oU (.pair a b) (cellsOf v) (fun x r=>match r with|[]=>some x|_=>none),cX];congr 1;funext p;obtain⟨x,r⟩:=p;cases r<;>rfl
 |int κ=>exact H0 ow (.int κ) v k
 |bool=>exact H0 ow .bool v k
 |list e=>exact H0 ow (.list e) v k
theorem rF{α:Type}(c:Bool)(x:Option α)(k:α->Option R):(bif c then x.bind k else none)=(bif c then x else none).bind k:=by cases c<;>rfl
theorem F2(t:TypeId)(v:AV)(k:AV->Option R):Jl E ob t v k=(Jl E ob t v some).bind k:=by
 unfold Jl;split;rw[zM,zM true _ v (fun x=>some (FR _ x)),cX];rfl;split<;>try rfl
 split;exact rF _ (some _) k;rfl
theorem w9:∀(ts:List TypeId) (vs:List AV) {R:Type} (k:List AV->Option R),xu E ob ts vs k=(xu E ob ts vs some).bind k
 |[],[],_,k=>rfl
 |[],_::_,_,k=>rfl
 |_::_,[],_,k=>rfl
 |t::ts,v::vs,_,k=>by simp only[xu];rw[F2,F2 t v (fun x=>xu E ob ts vs fun xs=>some (x::xs)),cX];congr 1;funext x;rw[w9 ts vs,w9 ts vs (fun xs=>some (x::xs)),cX];rfl
theorem Kj(op:BinOp)(xt:TypeId)(x y:AV)(k:AV->Option R):tX E op xt x y k=(tX E op xt x y some).bind k:=by unfold tX;split;rename_i p q _ _;cases (decide (p.1.1=q.1.1)&&decide (p.2.1=q.2.1)&&decide (al E.ty xt=some (.pair (.int p.1.1) (.int p.2.1)))&&(al E.eq xt).isSome);rfl;simp only[pD];split<;>rfl;rfl
theorem PB(op:BinOp)(xt:TypeId)(x y:AV)(k:AV->Option R):FU E ob op xt x y k=(FU E ob op xt x y some).bind k:=by
 unfold FU;split
 .split;rename_i a b _;cases h:decide ((show Int from b)<0)<;>simp only[pD,uP]<;>rfl;rename_i a b _;cases h:decide ((show Int from b)<0)<;>simp only[pD,uP]<;>rfl
  .split
   .split<;>first
     |rfl
     |(split<;>rfl)
   rfl
 split;split<;>rfl;split<;>rfl;rfl;exact Kj op xt _ _ k
theorem Qe(op:UnOp)(x:AV)(k:AV->Option R):PO op x k=(PO op x some).bind k:=by unfold PO;split<;>rfl
theorem qe{α β:Type}(x:Option α)(g:α->β)(k:β->Option R):(x.bind fun a=>k (g a))=(x.bind fun a=>some (g a)).bind k:=by cases x<;>rfl
theorem Pu(t:TypeId)(x:AV)(i:Int)(k:AV->Option R):KZ E ob t x i k=(KZ E ob t x i some).bind k:=by
 have key:∀{α:Type} (c:Bool) (x:Option α) (g:α->AV),(bif c then x.bind fun a=>k (g a) else none)=(bif c then x.bind fun a=>some (g a) else none).bind k:=by intro α c x g;cases c<;>cases x<;>rfl
 unfold KZ;split<;>first
  |rfl
  |exact key _ _ _
  |(split<;>first|rfl|exact key _ _ _)
theorem Hl(t:TypeId)(fd:Nat)(k:Nat->TypeId->Option R):sy E t fd k=(sy E t fd fun a b=>some (a,b)).bind fun p=>k p.1 p.2:=by unfold sy;split;split<;>rfl;rfl
theorem MZ(t:TypeId)(x:AV)(fd:Nat)(k:AV->Option R):AC E t x fd k=(AC E t x fd some).bind k:=by
 unfold AC sy;split;split;split<;>try rfl
 dsimp only;split;split<;>rfl;rfl;rfl;rfl
theorem Od(t:TypeId)(x:AV)(k:AV->Option R):AT E ob t x k=(AT E ob t x some).bind k:=by unfold AT;split;split;split;exact rF _ (some _) k;split;exact rF _ (some _) k;rfl;rfl;split;exact rF _ (some _) k;rfl;exact rF _ (some _) k;split;split;rw[cX];congr 1;funext y;split<;>rfl;rfl;rfl;rfl
theorem we(e:Ty):∀(ps:List (Nat×AV)) (acc:List e.den) {R:Type} (k:List e.den->Option R),rv ob e acc ps k=(rv ob e acc ps some).bind k
 |[],acc,_,k=>rfl
 |(i,v)::r,acc,_,k=>by simp only[rv];cases Nat.blt i acc.length;rfl;simp only[pD];rw[zM,zM false e v (fun x=>rv ob e (acc.set i x) r some),cX];congr 1;funext x;exact we e r _ k
theorem pg:∀(fs:List (Nat×Nat)) (i:Nat) (ps:List (Nat×AV)) {R:Type} (k:List AV->Option R),om E fs i ps k=(om E fs i ps some).bind k
 |[],i,[],_,k=>rfl
 |[],i,_::_,_,k=>rfl
 |(o,ft)::fs,i,[],_,k=>by simp only[om];rw[cX];congr 1;funext z;rw[pg fs,pg fs (i+1) [] (fun cs=>some (z++cs)),cX];rfl
 |(o,ft)::fs,i,(j,v)::r,_,k=>by simp only[om];cases Nat.beq i j;simp only[uP];rw[cX];congr 1;funext z;rw[pg fs,pg fs (i+1) ((j,v)::r) (fun cs=>some (z++cs)),cX];rfl;simp only[pD];cases (E.sizeOf ft==some (cellsOf v).length&&(cellsOf v).all xk);rfl;simp only[pD];rw[pg fs,pg fs (i+1) r (fun cs=>some (cellsOf v++cs)),cX];rfl
theorem Na(t:TypeId)(ps:List (Nat×AV))(k:AV->Option R):CZ E ob t ps k=(CZ E ob t ps some).bind k:=by unfold CZ;split;rename_i n e _;rw[we,we e ps _ (fun l=>some (AV.arr n e l)),cX];rfl;split;rename_i n fl _;rw[pg,pg fl 0 ps (fun l=>some (AV.agg l)),cX];rfl;rfl
theorem Fq(v:AV)(k:Int->Option R):G5 ob v k=(G5 ob v some).bind k:=by
 unfold G5;split<;>first
  |rfl
  |(split<;>rfl)
theorem zB(v:Option AV)(d:Int)(k:Int->Option R):qn.boundK v d k=(qn.boundK v d some).bind k:=by unfold qn.boundK;split;rfl;rw[gy,gy _ (fun _ n=>some n),cX];rfl
theorem PG(e:Ty)(x:AV)(ys:List e.den)(k:AV->Option R):LD e x ys k=(LD e x ys some).bind k:=by
 have key:∀(c:Prop) [Decidable c] (f:c->Option (List e.den)),(if h:c then(f h).bind fun l=>k (.new e l) else none)=(if h:c then(f h).bind fun l=>some (.new e l) else none:Option AV).bind k:=by intro c _ f;by_cases h:c;simp only[h,dite_true];exact qe _ _ k;simp only[h,dite_false];rfl
 unfold LD;split;exact qe _ _ k;exact key _ _;split;rfl;exact key _ _;rfl
theorem PA(t:TypeId)(x:AV)(k:AV->Option R):Lx E t x k=(Lx E t x some).bind k:=by unfold Lx;split;exact rF _ (some _) k;rfl;exact rF _ (some _) k
theorem MP(t:TypeId)(x:AV)(i:Int)(k:AV->Option R):Aw E t x i k=(Aw E t x i some).bind k:=by unfold Aw;split;rw[<-rF];congr 1;exact qe _ _ k;rfl
theorem Me(t:TypeId)(x:AV)(lo hi mx:Option AV)(k:AV->Option R):qn E ob t x lo hi mx k=(qn E ob t x lo hi mx some).bind k:=by
 have key:∀{α:Type} (c:Bool) (x:Option α) (g:α->AV),(bif c then x.bind fun a=>k (g a) else none)=(bif c then x.bind fun a=>some (g a) else none).bind k:=by intro α c x g;cases c<;>cases x<;>rfl
 unfold qn;split;rfl
 .rename_i et _;rw[Fq,Fq (R:=AV),cX];congr 1;funext n;rw[zB,zB (R:=AV),cX];congr 1;funext L;rw[zB,zB (R:=AV),cX];congr 1;funext H;split;exact qe _ _ k;exact key _ _ _
  .rename_i e l m;cases decide (e=et)&&hi.isSome with
   |false=>rfl
   |true=>simp only[pD];rw[gy,gy (R:=AV),cX];congr 1;funext p;rw[cX];congr 1;funext l;split<;>rfl
  exact key _ _ _;split;exact key _ _ _;rfl;split;exact key _ _ _;rfl
  .split
   .rename_i τ _ _;cases decide (τ=et)&&hi.isSome with
    |false=>rfl
    |true=>simp only[pD];rw[gy,gy (R:=AV),cX];congr 1;funext p;rw[cX];congr 1;funext l;split<;>rfl
   rfl
  rfl
theorem Ja(b:Builtin)(ts:Array TypeId)(args:List AV)(k:AV->Option R):wz E ob b ts args k=(wz E ob b ts args some).bind k:=by
 unfold wz;split;split;rw[Fq,Fq (R:=AV),cX];rfl;rfl
 .split
  .rename_i t t' _;cases Nat.beq t t' with
   |false=>rfl
   |true=>simp only[pD];split;rw[ny,ny (R:=AV),cX];congr 1;funext ys;exact PG _ _ _ k;rfl
  rfl
 rw[gy,gy (R:=AV),cX];congr 1;funext p;rw[gy,gy (R:=AV),cX];rfl;rw[gy,gy (R:=AV),cX];congr 1;funext p;rw[gy,gy (R:=AV),cX];rfl;rfl
theorem Om(fv:AV)(ts:List TypeId)(args:List AV)(k:AV->Option R):tJ E C ob fv ts args k=(tJ E C ob fv ts args some).bind k:=by
 unfold tJ;split
 .split;split;rw[ny,ny (R:=AV),cX];congr 1;funext l;exact qe _ _ k;rfl
  .split
   .split;.rw[gy,gy (R:=AV),cX];congr 1;funext p;obtain⟨κ,n⟩:=p;cases κ<;>first|exact rF _ (some _) k|rfl
    rfl
   .split
    .rename_i ms s _;generalize (s.any Sh.hasList&&(args.any nk||_) || !ms.all Mode.isRo)=c;cases c with
     |true=>rfl
     |false=>simp only[uP];rw[w9,w9 (R:=AV),cX];congr 1;funext xs;exact qe _ _ k
    rfl
 rfl
theorem wU(ρ:Operand->AV)(o:Oper)(k:AV->Option R):ec E C ob ρ o k=(ec E C ob ρ o some).bind k:=by
 unfold ec;split<;>first
  |rfl
  |exact PA _ _ k
  |exact Od _ _ k
  |exact PB _ _ _ _ k
  |exact Qe _ _ k
  |exact Me _ _ _ _ _ k
  |exact MZ _ _ _ k
  |skip
 rw[J3,J3 (R:=AV),cX];congr 1;funext c;cases c<;>rfl;split;rename_i m _ _;cases Nat.ble m 16777216<;>rfl;split;rfl;generalize (al E.ot _).isSome=c;cases c<;>rfl;rw[<-rF,Na];split;rw[<-rF];congr 1;rw[we,we (R:=AV),cX];rfl;rfl;split;rw[gy,gy (R:=AV),cX];rfl;rfl;exact rF _ (some _) k;split<;>rfl;split;rw[gy,gy (R:=AV),cX];congr 1;funext p;rw[gy,gy (R:=AV),cX];congr 1;funext q;rw[cX];congr 1;funext l;split<;>rfl;rfl
 .rw[cX];congr 1;funext cs;rw[Hl,Hl (R:=AV),cX];congr 1;funext p;split;rfl
  .rename_i h;cases E.one p.2 with
   |false=>rfl
   |true=>simp only[pD];split<;>rfl
 rw[gy,gy (R:=AV),cX];congr 1;funext p;exact Pu _ _ _ k;rw[gy,gy (R:=AV),cX];congr 1;funext p;exact MP _ _ _ k;split;split<;>rfl;rfl;split;exact Ja _ _ _ k;exact Om _ _ _ k;rfl
end
end
end Go.Proofs.YtfjpfjnepdhnaaaGreat.R

