/- . -/
import Derived.Calls
import Derived.KernelRfl
import Derived.Orders
import Derived.Laws.World
import Derived.Laws.Cells
import Derived.Laws.AppendOwn
import Derived.Laws.Entries
import Derived.Laws.StructEq
import Derived.Laws.Slices
import Derived.Laws.MakeOwn
import Derived.Laws.CopyRow
import Derived.ChangeArms
import Derived.DataReads
import Derived.SizedLaws
import Derived.Below
import Derived.Carry
import Derived.Test.YtfjpfjnepdhnaaaGreatR1
namespace Go.Proofs.YtfjpfjnepdhnaaaGreat.R
open Go
set_option linter.unusedVariables false
set_option linter.unusedSimpArgs false
section
section
variable {b0:Nat->Prop} {β:bB5} {ob:Obs} {w:World} {f:Nat->List Nat}
theorem Row.sameBlock{bad bad':Nat->Prop}{τ:Ty}{l:List τ.den}{b o c:Nat}(hb:∀b,b<w.heap.size->bad' b->bad b)(h:Row w bad τ l b o c):Row w bad' τ l b o c:=
 h.mono (bad0:=fun _=>False) (Same.refl _ w) (fun _ _ x=>x.elim) hb (fun x=>x)
theorem VR2.weaken{bad bad':Nat->Prop}(hb:∀b,b<w.heap.size->bad' b->bad b){a:AV}{v:Value}{bs:List Nat}(h:VR2 β ob w bad a v bs):VR2 β ob w bad' a v bs:=
 bJd (bad0:=fun _=>False) (Same.refl _ w) (fun _ _ x=>x.elim) hb (fun _ _ x=>x) h
theorem ObR.mono{w':World}{bad0 bad bad':Nat->Prop}(hO:ObR b0 β ob w bad)(hs:Same bad0 w w')(h0:∀b,b<w.heap.size->bad0 b->bad b)(hb:∀b,b<w.heap.size->bad' b->bad b)
  (hno:∀b,Own β ob b->¬bad0 b):ObR b0 β ob w' bad' where
 row:=fun key τ l hk=>by
  rcases hO.row key τ l hk with h|⟨b,o,c,hb',hr⟩
  .exact .inl h
  .exact .inr ⟨b,o,c,hb',hr.mono hs h0 hb (hno b ⟨key,_,_,_,hk,hb'⟩)⟩
 box:=fun key cs hk=>by
  obtain⟨b,cells,elem,hb',hh,hv⟩:=hO.box key cs hk
  have hlt:=(hO.lt b ⟨key,_,_,_,hk,hb'⟩).1
  refine⟨b,cells,elem,hb',by rw[hs.2 b hlt (hno b ⟨key,_,_,_,hk,hb'⟩)];exact hh,hv.imp fun a v bs hbs hr=>bGk hs h0 hb (fun x hx=>by have:=hbs x hx;cases this) hr⟩
 apart:=hO.apart
 lt:=fun b h=>⟨Nat.lt_of_lt_of_le (hO.lt b h).1 hs.1,(hO.lt b h).2⟩
def putT(tmps:Array Value)(dst:Option Nat)(v:Value):Array Value:=
 match dst with
 |some t=>tmps.setIfInBounds t v
 |none=>tmps
theorem bQz(a:Act)(dst:Option Nat)(v:Value):(a.put dst v).tmps=putT a.tmps dst v:=by cases dst<;>rfl
theorem SR.step{sl sl':List AV}{tmps:Array Value}{f':Nat->List Nat}{used:List Nat}{w':World}{av:AV}{v:Value}{bs:List Nat}{dst:Option Nat}(h:SR b0 β ob w sl tmps f)(hd:Done b0 β ob f used w w' av v bs)
  (hlen:sl'.length=sl.length)
  (hdst:∀t,dst=some t->t<sl.length->sl'.getD t .any=av/\f' t=bs)
  (hoth:∀i,(dst≠some i\/¬i<sl.length)->(sl'.getD i .any=sl.getD i .any/\f' i=f i/\(i∈used->f i=[]))\/(f' i=[]/\sl'.getD i .any = .any)) :
  SR b0 β ob w' sl' (putT tmps dst v) f':=by
 have hsub:∀i b,b∈f' i->(b∈bs/\dst=some i/\i<sl.length)\/(b∈f i/\i∉used/\(dst≠some i\/¬i<sl.length)):=by
  intro i b hb
  by_cases hi:dst=some i/\i<sl.length
  .rw[(hdst i hi.1 hi.2).2]at hb;exact .inl ⟨hb,hi⟩
  .have hn:dst≠some i\/¬i<sl.length:=by
    rcases Decidable.em (dst=some i) with h|h
    .exact .inr fun h'=>hi ⟨h,h'⟩
    .exact .inl h
   rcases hoth i hn with⟨_,h2,h3⟩|⟨h2,_⟩
   .refine .inr ⟨h2▸hb,fun hu=>?_,hn⟩
    rw[h2,h3 hu]at hb;cases hb
   .rw[h2]at hb;cases hb
 have havd:∀b,Av b0 β ob f' b->b0 b\/Own β ob b\/(∃i,i∉used/\b∈f i)\/b∈bs:=by
  intro b hb
  rcases hb with h|h|⟨i,h⟩
  .exact .inl h
  .exact .inr (.inl h)
  .rcases hsub i b h with⟨h,_⟩|⟨h,hu,_⟩
   .exact .inr (.inr (.inr h))
   .exact .inr (.inr (.inl ⟨i,hu,h⟩))
 have hav:∀b,b<w.heap.size->Av b0 β ob f' b->Av b0 β ob f b:=by
  intro b hlt hb
  rcases havd b hb with h|h|⟨i,_,h⟩|h
  .exact .inl h
  .exact .inr (.inl h)
  .exact .inr (.inr ⟨i,h⟩)
  .rcases(hd.from_ b h).2 with⟨i,_,h⟩|h
   .exact .inr (.inr ⟨i,h⟩)
   .omega
 have hu0:∀b,b<w.heap.size->(∃i,i∈used/\b∈f i)->Av b0 β ob f b:=fun b _ ⟨i,_,h⟩=>.inr (.inr ⟨i,h⟩)
 have htm:∀i,(putT tmps dst v).getD i undef=if dst=some i/\i<sl.length then v else tmps.getD i undef:=by
  intro i
  cases dst with
  |none=>simp[putT]
  |some t=>
   simp only[Option.some.injEq,putT]
   by_cases hti:t=i/\i<sl.length
   .obtain⟨rfl,hlt⟩:=hti
    have:t<tmps.size:=by rw[h.size];exact hlt
    simp[this,hlt]
   .rw[if_neg hti]
    by_cases hti':t=i
    .subst hti'
     have:¬t<tmps.size:=by rw[h.size];exact fun h'=>hti ⟨rfl,h'⟩
     simp[Array.setIfInBounds,this]
    .simp[Array.getElem?_setIfInBounds_ne hti']
 refine⟨h.obs.mono hd.same hu0 hav (fun b hb ⟨i,_,hi⟩=>(h.fresh i b hi).2.2 hb),fun i=>?_,?_,fun i b hb=>?_,fun i=>?_,fun i j b hi hj=>?_,fun b hb=>Nat.lt_of_lt_of_le (h.b0lt b hb) hd.same.1⟩
 .rw[htm]
  by_cases hi:dst=some i/\i<sl.length
  .rw[if_pos hi,(hdst i hi.1 hi.2).1,(hdst i hi.1 hi.2).2]
   exact hd.rel.weaken fun b _ hb=>havd b hb
  .rw[if_neg hi]
   have hn:dst≠some i\/¬i<sl.length:=by
    rcases Decidable.em (dst=some i) with h|h
    .exact .inr fun h'=>hi ⟨h,h'⟩
    .exact .inl h
   rcases hoth i hn with⟨h1,h2,h3⟩|⟨h2,h1⟩
   .rw[h1,h2]
    refine bJd hd.same hu0 hav (fun b hb ⟨j,hj,hbj⟩=>?_) (h.slot i)
    have:=h.disj i j b hb hbj
    subst this
    rw[h3 hj]at hb;cases hb
   .rw[h1,h2];rfl
 .rw[hlen,<-h.size]
  cases dst<;>simp[putT]
 .rcases hsub i b hb with⟨hb',_⟩|⟨hb',hu,_⟩
  .have hf:=hd.from_ b hb'
   refine⟨hf.1,?_,?_⟩
   .rcases hf.2 with⟨j,_,hj⟩|hge
    .exact(h.fresh j b hj).2.1
    .intro hb0;have:=h.b0lt b hb0;omega
   .rcases hf.2 with⟨j,_,hj⟩|hge
    .exact(h.fresh j b hj).2.2
    .intro ho;have:=(h.obs.lt b ho).1;omega
  .obtain⟨h1,h2,h3⟩:=h.fresh i b hb'
   exact⟨Nat.lt_of_lt_of_le h1 hd.same.1,h2,h3⟩
 .by_cases hi:dst=some i/\i<sl.length
  .rw[(hdst i hi.1 hi.2).2];exact hd.nodup
  .have hn:dst≠some i\/¬i<sl.length:=by
    rcases Decidable.em (dst=some i) with h|h
    .exact .inr fun h'=>hi ⟨h,h'⟩
    .exact .inl h
   rcases hoth i hn with⟨_,h2,_⟩|⟨h2,_⟩
   .rw[h2];exact h.nodup i
   .rw[h2];exact List.nodup_nil
 .have cross:∀(j:Nat),b∈bs->b∈f j->j∉used->False:=by
   intro j h1 h2 h3
   rcases(hd.from_ b h1).2 with⟨q,hq,hbq⟩|hge
   .exact h3 (h.disj j q b h2 hbq▸hq)
   .have:=(h.fresh j b h2).1;omega
  rcases hsub i b hi with⟨h1,h2,_⟩|⟨h1,h2,_⟩<;>rcases hsub j b hj with⟨g1,g2,_⟩|⟨g1,g2,_⟩
  .rw[h2]at g2;exact Option.some.inj g2
  .exact(cross j h1 g1 g2).elim
  .exact(cross i g1 h1 h2).elim
  .exact h.disj i j b h1 g1
structure Ext(β:bB5)(ob:Obs)(β':bB5)(ob':Obs):Prop where
 keep:∀k x,bBc ob k=some x->bBc ob' k=some x/\β' k=β k
theorem Ext.refl(β:bB5)(ob:Obs):Ext β ob β ob:=⟨fun _ _ h=>⟨h,rfl⟩⟩
theorem Ext.trans{β1 β2 β3:bB5}{ob1 ob2 ob3:Obs}(h:Ext β1 ob1 β2 ob2)(h':Ext β2 ob2 β3 ob3):Ext β1 ob1 β3 ob3:=
 ⟨fun k x hk=>by obtain⟨h1,h2⟩:=h.keep k x hk;obtain⟨h3,h4⟩:=h'.keep k x h1;exact⟨h3,h4.trans h2⟩⟩
theorem SlV.ext{β β':bB5}{key size off len:Nat}{v:Value}(he:β' key=β key)(h:SlV β key size off len v):SlV β' key size off len v:=by
 unfold SlV at *;rw[he];exact h
theorem VR0.ext{β β':bB5}{ob ob':Obs}{bad:Nat->Prop}(hx:Ext β ob β' ob'){a:AV}{v:Value}{bs:List Nat}(h:VR0 β ob w bad a v bs):VR0 β' ob' w bad a v bs:=by
 cases a with
 |ow key=>obtain⟨h1,τ,l,hk,hs⟩:=h;obtain⟨g1,g2⟩:=hx.keep _ _ hk;exact⟨h1,τ,l,g1,hs.ext g2⟩
 |own key off len=>obtain⟨h1,τ,l,hk,hl,hs⟩:=h;obtain⟨g1,g2⟩:=hx.keep _ _ hk;exact⟨h1,τ,l,g1,hl,hs.ext g2⟩
 |ptr key off=>obtain⟨h1,b,c,cs,hb,hk,hv⟩:=h;obtain⟨g1,g2⟩:=hx.keep _ _ hk;exact⟨h1,b,c,cs,g2.trans hb,g1,hv⟩
 |ap key n=>obtain⟨h1,τ,l,b,c,hk,hl,hb,hv⟩:=h;obtain⟨g1,g2⟩:=hx.keep _ _ hk;exact⟨h1,τ,l,b,c,g1,hl,g2.trans hb,hv⟩
 |rptr key j off=>obtain⟨h1,τ,l,b,o,c,hk,hb,hv⟩:=h;obtain⟨g1,g2⟩:=hx.keep _ _ hk;exact⟨h1,τ,l,b,o,c,g1,g2.trans hb,hv⟩
 |_=>exact h
theorem VR1.ext{β β':bB5}{ob ob':Obs}{bad:Nat->Prop}(hx:Ext β ob β' ob'){a:AV}{v:Value}{bs:List Nat}(h:VR1 β ob w bad a v bs):VR1 β' ob' w bad a v bs:=by
 have lift:∀{cs:List AV} {vs:List Value} {bs':List Nat},Vs (VR0 β ob w bad) cs vs bs'->Vs (VR0 β' ob' w bad) cs vs bs':=fun hv=>hv.imp fun a v b _ hr=>hr.ext hx
 cases a with
 |agg cs=>obtain⟨vs,rfl,hv⟩:=h;exact⟨vs,rfl,lift hv⟩
 |nbox cs=>obtain⟨b,cells,elem,bs',rfl,rfl,hh,hv⟩:=h;exact⟨b,cells,elem,bs',rfl,rfl,hh,lift hv⟩
 |fn g caps=>obtain⟨rfl,vs,rfl,hv⟩:=h;exact⟨rfl,vs,rfl,lift hv⟩
 |tup vs=>exact h.elim
 |ow key=>exact VR0.ext (w:=w) (bad:=bad) (a:=.ow key) hx h
 |own key off len=>exact VR0.ext (w:=w) (bad:=bad) (a:=.own key off len) hx h
 |ptr key off=>exact VR0.ext (w:=w) (bad:=bad) (a:=.ptr key off) hx h
 |ap key n=>exact VR0.ext (w:=w) (bad:=bad) (a:=.ap key n) hx h
 |rptr key j off=>exact VR0.ext (w:=w) (bad:=bad) (a:=.rptr key j off) hx h
 |_=>exact h
theorem VR2.ext{β β':bB5}{ob ob':Obs}{bad:Nat->Prop}(hx:Ext β ob β' ob'){a:AV}{v:Value}{bs:List Nat}(h:VR2 β ob w bad a v bs):VR2 β' ob' w bad a v bs:=by
 cases a with
 |tup as=>obtain⟨vs,rfl,hv⟩:=h;exact⟨vs,rfl,hv.imp fun a v b _ hr=>hr.ext hx⟩
 |agg cs=>exact VR1.ext (w:=w) (bad:=bad) (a:=.agg cs) hx h
 |nbox cs=>exact VR1.ext (w:=w) (bad:=bad) (a:=.nbox cs) hx h
 |fn g caps=>exact VR1.ext (w:=w) (bad:=bad) (a:=.fn g caps) hx h
 |ow key=>exact VR1.ext (w:=w) (bad:=bad) (a:=.ow key) hx h
 |own key off len=>exact VR1.ext (w:=w) (bad:=bad) (a:=.own key off len) hx h
 |ptr key off=>exact VR1.ext (w:=w) (bad:=bad) (a:=.ptr key off) hx h
 |ap key n=>exact VR1.ext (w:=w) (bad:=bad) (a:=.ap key n) hx h
 |rptr key j off=>exact VR1.ext (w:=w) (bad:=bad) (a:=.rptr key j off) hx h
 |_=>exact h
def upd (β : bB5) (key : Nat) (p : Option (Nat × Nat × Nat)) : bB5 := fun k => if k = key then p else β k
theorem bC2 {α : Type} {l : List (Nat × α)} {k j : Nat} {x : α} : bBc ((k, x) :: l) j = if k = j then some x else bBc l j := by
  simp only [bBc]
  cases h : Nat.beq k j with
  | true => have := Nat.eq_of_beq_eq_true h; simp [this]
  | false => have : k ≠ j := fun e => by subst e; rw [Nat.beq_refl] at h; cases h
             simp [this]
theorem Ext.add {key : Nat} (hk : bBc ob key = none) (p : Option (Nat × Nat × Nat)) (x : Ob) : Ext β ob (upd β key p) ((key, x) :: ob) :=
  ⟨fun k y hy => by
    have hne : key ≠ k := fun e => by subst e; rw [hk] at hy; cases hy
    rw [bC2, if_neg hne]
    exact ⟨hy, by simp [upd, Ne.symm hne]⟩⟩
theorem cCz{key:Nat}(hk:bBc ob key=none)(p:Option (Nat×Nat×Nat))(x:Ob){b:Nat}(h:Own (upd β key p) ((key,x)::ob) b):Own β ob b\/∃o c,p=some (b,o,c):=by
 obtain⟨k,y,o,c,h1,h2⟩:=h
 rw[bC2]at h1
 split at h1
 .rename_i he
  subst he
  simp only[upd,if_true]at h2
  exact .inr ⟨o,c,h2⟩
 .rename_i hne
  simp only[upd,if_neg (Ne.symm hne)]at h2
  exact .inl ⟨k,y,o,c,h1,h2⟩
theorem ObR.add{bad:Nat->Prop}(hO:ObR b0 β ob w bad){key:Nat}(hk:bBc ob key=none)(p:Option (Nat×Nat×Nat))(x:Ob)
  (hp:∀b o c,p=some (b,o,c)->b<w.heap.size/\¬b0 b/\¬Own β ob b)
  (hrow:∀τ l,x = .row τ l->(p=none/\l=[])\/∃b o c,p=some (b,o,c)/\Row w bad τ l b o c)
  (hbox:∀cs,x = .box cs->∃b cells elem,p=some (b,0,cs.length)/\w.heap[b]?=some (.cells cells elem (0,0))/\Vs (VR1 β ob w bad) cs cells.toList []) :
  ObR b0 (upd β key p) ((key,x)::ob) w bad:=by
 have hx:=Ext.add (β:=β) hk p x
 have old:∀{k y},bBc ((key,x)::ob) k=some y->(k=key/\y=x)\/(k≠key/\bBc ob k=some y):=by
  intro k y h
  rw[bC2]at h
  split at h
  .rename_i he;exact .inl ⟨he.symm,(Option.some.inj h).symm⟩
  .rename_i hne;exact .inr ⟨Ne.symm hne,h⟩
 refine⟨fun k τ l h=>?_,fun k cs h=>?_,fun k1 k2 x1 x2 b o1 c1 o2 c2 h1 h2 h3 h4=>?_,fun b hb=>?_⟩
 .rcases old h with⟨rfl,he⟩|⟨hne,h⟩
  .simp only[upd,if_true];exact hrow τ l he.symm
  .simp only[upd,if_neg hne];exact hO.row k τ l h
 .rcases old h with⟨rfl,he⟩|⟨hne,h⟩
  .obtain⟨b,cells,elem,h1,h2,h3⟩:=hbox cs he.symm
   exact⟨b,cells,elem,by simp only[upd,if_true];exact h1,h2,h3.imp fun a v bs _ hr=>hr.ext hx⟩
  .obtain⟨b,cells,elem,h1,h2,h3⟩:=hO.box k cs h
   exact⟨b,cells,elem,by simp only[upd,if_neg hne];exact h1,h2,h3.imp fun a v bs _ hr=>hr.ext hx⟩
 .rcases old h1 with⟨rfl,_⟩|⟨n1,g1⟩<;>rcases old h2 with⟨rfl,_⟩|⟨n2,g2⟩
  .rfl
  .simp only[upd,if_true]at h3
   simp only[upd,if_neg n2]at h4
   exact((hp _ _ _ h3).2.2 ⟨k2,_,_,_,g2,h4⟩).elim
  .simp only[upd,if_neg n1]at h3
   simp only[upd,if_true]at h4
   exact((hp _ _ _ h4).2.2 ⟨k1,_,_,_,g1,h3⟩).elim
  .simp only[upd,if_neg n1]at h3
   simp only[upd,if_neg n2]at h4
   exact hO.apart _ _ _ _ _ _ _ _ _ g1 g2 h3 h4
 .rcases cCz hk p x hb with h|⟨o,c,h⟩
  .exact hO.lt b h
  .exact⟨(hp _ _ _ h).1,(hp _ _ _ h).2.1⟩
structure bNu(b0:Nat->Prop)(w:World)(bad:Nat->Prop)(bs:List Nat)(β:bB5)(ob:Obs)(β':bB5)(ob':Obs):Prop where
 ext:Ext β ob β' ob'
 obs:ObR b0 β' ob' w bad
 own:∀b,Own β' ob' b->Own β ob b\/b∈bs
theorem bNu.refl{bad:Nat->Prop}(hO:ObR b0 β ob w bad)(bs:List Nat):bNu b0 w bad bs β ob β ob:=⟨Ext.refl _ _,hO,fun _ h=>.inl h⟩
theorem bNu.trans{bad:Nat->Prop}{β1 β2 β3:bB5}{ob1 ob2 ob3:Obs}{bs1 bs2:List Nat}(h:bNu b0 w bad bs1 β1 ob1 β2 ob2)(h':bNu b0 w bad bs2 β2 ob2 β3 ob3):bNu b0 w bad (bs1++bs2) β1 ob1 β3 ob3:=
 ⟨h.ext.trans h'.ext,h'.obs,fun b hb=>by
  rcases h'.own b hb with h1|h1
  .rcases h.own b h1 with h2|h2
   .exact .inl h2
   .exact .inr (by simp[h2])
  .exact .inr (by simp[h1])⟩
def bR1(b0:Nat->Prop)(β:bB5)(ob:Obs)(w:World)(bs:List Nat):Prop:=bs.Nodup/\∀b∈bs,b<w.heap.size/\¬b0 b/\¬Own β ob b
theorem bXe{bad:Nat->Prop}(hO:ObR b0 β ob w bad){key:Nat}{a:AV}{v:Value}{bs:List Nat}(hl:bR1 b0 β ob w bs)(h:VR0 β ob w bad a v bs):
  ∃β',bNu b0 w bad bs β ob β' (bJe key ob a).2/\VR0 β' (bJe key ob a).2 w bad (bJe key ob a).1 v []/\bVm (bJe key ob a).1=true:=by
 have none_:bJe key ob a=(.any,ob)->∃β',bNu b0 w bad bs β ob β' (bJe key ob a).2/\VR0 β' (bJe key ob a).2 w bad (bJe key ob a).1 v []/\bVm (bJe key ob a).1=true:=by
  intro he;rw[he];exact⟨β,bNu.refl hO bs,rfl,rfl⟩
 have same_:bs=[]->bJe key ob a=(a,ob)->bVm a=true->∃β',bNu b0 w bad bs β ob β' (bJe key ob a).2/\VR0 β' (bJe key ob a).2 w bad (bJe key ob a).1 v []/\bVm (bJe key ob a).1=true:=by
  intro hb he hf;subst hb;rw[he];exact⟨β,bNu.refl hO [],h,hf⟩
 cases a with
 |new τ l=>
  cases hk:bBc ob (fk ob key) with
  |some y=>exact none_ (by simp[bJe,hk])
  |none=>
   have he:bJe key ob (.new τ l)=(.ow (fk ob key),(fk ob key,.row τ l)::ob):=by simp[bJe,hk]
   generalize fk ob key=key at he hk
   rw[he]
   rcases h with⟨hv,hl0,hb⟩|⟨b,o,c,hb,hv,hr⟩
   .subst hl0
    have hOA:=hO.add hk none (.row τ []) (by simp) (fun τ' l' he=>by cases he;exact .inl ⟨rfl,rfl⟩) (by simp)
    refine⟨upd β key none,⟨Ext.add hk _ _,hOA,fun b hb'=>?_⟩,⟨rfl,τ,[],by rw[bC2,if_pos rfl],?_⟩,rfl⟩
    .rcases cCz hk _ _ hb' with h|⟨o,c,h⟩
     .exact .inl h
     .cases h
    .simp[SlV,upd,hv]
   .subst hb
    have hlb:=hl.2 b (by simp)
    have hOA:=hO.add hk (some (b,o,c)) (.row τ l) (fun b' o' c' he=>by cases he;exact hlb) (fun τ' l' he=>by cases he;exact .inr ⟨b,o,c,rfl,hr⟩) (by simp)
    refine⟨upd β key (some (b,o,c)),⟨Ext.add hk _ _,hOA,fun b' hb'=>?_⟩,⟨rfl,τ,l,by rw[bC2,if_pos rfl],?_⟩,rfl⟩
    .rcases cCz hk _ _ hb' with h|⟨o,c,h⟩
     .exact .inl h
     .cases h;exact .inr (by simp)
    .have hlc:l.length<=c:=by obtain⟨_,_,_,h,_⟩:=hr;exact h.1
     simp only[SlV,upd,if_true]
     exact⟨o,c,hv,hlc,by omega,by simp⟩
 |narr n τ l=>
  cases hk:bBc ob (fk ob key) with
  |some y=>exact none_ (by simp[bJe,hk])
  |none=>
   have he:bJe key ob (.narr n τ l)=(.ap (fk ob key) n,(fk ob key,.row τ l)::ob):=by simp[bJe,hk]
   generalize fk ob key=key at he hk
   rw[he]
   obtain⟨hn,b,hb,hv,hr⟩:=h
   subst hb
   have hlb:=hl.2 b (by simp)
   have hOA:=hO.add hk (some (b,0,l.length)) (.row τ l) (fun b' o' c' he=>by cases he;exact hlb) (fun τ' l' he=>by cases he;exact .inr ⟨b,0,_,rfl,hr⟩) (by simp)
   refine⟨upd β key (some (b,0,l.length)),⟨Ext.add hk _ _,hOA,fun b' hb'=>?_⟩,⟨rfl,τ,l,b,l.length,by rw[bC2,if_pos rfl],hn,by simp[upd],hv⟩,rfl⟩
   rcases cCz hk _ _ hb' with h|⟨o,c,h⟩
   .exact .inl h
   .cases h;exact .inr (by simp)
 |any=>exact same_ h rfl rfl
 |non=>exact same_ h.2 rfl rfl
 |d τ x=>exact same_ h.1 rfl rfl
 |nil=>exact same_ h.1 rfl rfl
 |full τ l=>exact same_ h.1 rfl rfl
 |ow k=>exact same_ h.1 rfl rfl
 |own k o l=>exact same_ h.1 rfl rfl
 |arr n τ l=>exact same_ h.1 rfl rfl
 |ptr k o=>exact same_ h.1 rfl rfl
 |ap k n=>exact same_ h.1 rfl rfl
 |rop τ x=>exact same_ h.1 rfl rfl
 |rptr k j o=>exact same_ h.1 rfl rfl
 |nbox cs=>exact h.elim
 |agg cs=>exact h.elim
 |tup vs=>exact h.elim
 |fn g caps=>exact h.elim
theorem bR1.left{b1 b2:List Nat}(h:bR1 b0 β ob w (b1++b2)):bR1 b0 β ob w b1:=
 ⟨(List.nodup_append.1 h.1).1,fun b hb=>h.2 b (by simp[hb])⟩
theorem bR1.right{bad:Nat->Prop}{β':bB5}{ob':Obs}{b1 b2:List Nat}(h:bR1 b0 β ob w (b1++b2))(hn:bNu b0 w bad b1 β ob β' ob'):bR1 b0 β' ob' w b2:=
 ⟨(List.nodup_append.1 h.1).2.1,fun b hb=>by
  obtain⟨h1,h2,h3⟩:=h.2 b (by simp[hb])
  refine⟨h1,h2,fun ho=>?_⟩
  rcases hn.own b ho with h4|h4
  .exact h3 h4
  .exact(List.nodup_append.1 h.1).2.2 b h4 b hb rfl⟩
theorem bNn{bad:Nat->Prop}:∀{cs:List AV} {key:Nat} {β:bB5} {ob:Obs} {vs:List Value} {bs:List Nat},ObR b0 β ob w bad->bR1 b0 β ob w bs->Vs (VR0 β ob w bad) cs vs bs ->
  ∃β',bNu b0 w bad bs β ob β' (bGm key ob cs).2/\Vs (VR0 β' (bGm key ob cs).2 w bad) (bGm key ob cs).1 vs []/\(bGm key ob cs).1.all bVm=true
 |[],key,β,ob,vs,bs,hO,hl,h=>by
  cases h
  exact⟨β,bNu.refl hO [],.nil,rfl⟩
 |c::cs,key,β,ob,vs,bs,hO,hl,h=>by
  obtain⟨v,vr,b,br,rfl,rfl,h1,h2⟩:=h.split
  obtain⟨β1,n1,g1,f1⟩:=bXe (key:=key) hO hl.left h1
  obtain⟨β2,n2,g2,f2⟩:=bNn (cs:=cs) (key:=key+1) n1.obs (hl.right n1) (h2.imp fun a v b _ hr=>hr.ext n1.ext)
  refine⟨β2,n1.trans n2,?_,?_⟩
  .have:=Vs.cons (VR0.ext n2.ext g1) g2
   simpa[bGm]using this
  .simp[bGm,f1,f2]
theorem cF0{a:AV}(h:bVm a=true):bQy a=false:=by cases a<;>simp_all [bVm,bQy]
theorem new1_agg{cs:List AV}(h:cs.all bVm=true):bQx (.agg cs)=false:=by
 simp only[bQx,List.any_eq_false]
 intro x hx
 simp[cF0 (List.all_eq_true.1 h x hx)]
theorem hasNew_flat{cs:List AV}(h:cs.all bVm=true):bFb (.agg cs)=false:=new1_agg h
theorem cBp{a:AV}(h:bVm a=true):bFb a=false:=by cases a<;>simp_all [bVm,bFb,bQx,bQy]
theorem keyed1_sound{bad:Nat->Prop}(hO:ObR b0 β ob w bad){key:Nat}{a:AV}{v:Value}{bs:List Nat}(hl:bR1 b0 β ob w bs)(h:VR1 β ob w bad a v bs)(hna:∀cs,a ≠ .agg cs):
  ∃β',bNu b0 w bad bs β ob β' (bSo key ob a).2/\VR1 β' (bSo key ob a).2 w bad (bSo key ob a).1 v []/\bFb (bSo key ob a).1=false:=by
 have zero:VR0 β ob w bad a v bs->bSo key ob a=bJe key ob a->∃β',bNu b0 w bad bs β ob β' (bSo key ob a).2/\VR1 β' (bSo key ob a).2 w bad (bSo key ob a).1 v []/\bFb (bSo key ob a).1=false:=by
  intro h0 he
  obtain⟨β',n1,g1,f1⟩:=bXe (key:=key) hO hl h0
  rw[he]
  exact⟨β',n1,vr01 g1,cBp f1⟩
 cases a with
 |nbox cs=>
  cases hk:bBc ob key with
  |some y=>simp only[bSo,hk];exact⟨β,bNu.refl hO bs,rfl,rfl⟩
  |none=>
   obtain⟨b,cells,elem,bs',rfl,rfl,hh,hv⟩:=h
   have hl':bR1 b0 β ob w bs':=⟨(List.nodup_cons.1 hl.1).2,fun x hx=>hl.2 x (by simp[hx])⟩
   obtain⟨β1,n1,g1,f1⟩:=bNn (key:=key+1) hO hl' hv
   have hlb:=hl.2 b (by simp)
   have hnb:¬Own β1 (bGm (key+1) ob cs).2 b:=fun ho=>by
    rcases n1.own b ho with h|h
    .exact hlb.2.2 h
    .exact(List.nodup_cons.1 hl.1).1 h
   have hk1:bBc (bGm (key+1) ob cs).2 key=none:=by
    have:∀(cs:List AV) (j:Nat) (ob:Obs),key<j->bBc ob key=none->bBc (bGm j ob cs).2 key=none:=by
     intro cs
     induction cs with
     |nil=>intro j ob _ h;exact h
     |cons c cs ih=>
      intro j ob hj h
      simp only[bGm]
      refine ih (j+1) _ (by omega) ?_
      have hne:fk ob j≠key:=by unfold fk;split<;>omega
      unfold bJe
      split<;>first
       |exact h
       |(split<;>first|exact h|(simp only;rw[bC2,if_neg hne];exact h))
    exact this cs (key+1) ob (by omega) hk
   have hlen:(bGm (key+1) ob cs).1.length=cells.toList.length:=g1.len
   have hOA:=n1.obs.add hk1 (some (b,0,(bGm (key+1) ob cs).1.length)) (.box (bGm (key+1) ob cs).1) (fun b' o' c' he=>by cases he;exact⟨hlb.1,hlb.2.1,hnb⟩) (by simp)
    (fun cs' he=>by cases he;exact⟨b,cells,elem,rfl,hh,g1.imp fun a v b _ hr=>vr01 hr⟩)
   have he:bSo key ob (.nbox cs)=(.ptr key 0,(key,.box (bGm (key+1) ob cs).1)::(bGm (key+1) ob cs).2):=by simp[bSo,hk]
   rw[he]
   refine⟨upd β1 key (some (b,0,(bGm (key+1) ob cs).1.length)),⟨n1.ext.trans (Ext.add hk1 _ _),hOA,fun b' hb'=>?_⟩,⟨rfl,b,_,_,by simp only[upd,if_true];rfl,by rw[bC2,if_pos rfl],rfl⟩,rfl⟩
   rcases cCz hk1 _ _ hb' with h|⟨o,c,h⟩
   .rcases n1.own b' h with h|h
    .exact .inl h
    .exact .inr (by simp[h])
   .cases h;exact .inr (by simp)
 |agg cs=>exact absurd rfl (hna cs)
 |tup vs=>exact h.elim
 |fn g caps=>
  obtain⟨rfl,vs,rfl,hv⟩:=h
  exact⟨β,bNu.refl hO [],⟨rfl,vs,rfl,hv⟩,rfl⟩
 |any=>exact zero h rfl
 |non=>exact zero h rfl
 |d τ x=>exact zero h rfl
 |nil=>exact zero h rfl
 |full τ l=>exact zero h rfl
 |new τ l=>exact zero h rfl
 |ow k=>exact zero h rfl
 |own k o l=>exact zero h rfl
 |arr n τ l=>exact zero h rfl
 |narr n τ l=>exact zero h rfl
 |ptr k o=>exact zero h rfl
 |ap k n=>exact zero h rfl
 |rop τ x=>exact zero h rfl
 |rptr k j o=>exact zero h rfl
def cC3(v:AV):Bool:=
 match v with
 |.agg cs=>cs.all bVm
 |.nbox _|.new _ _|.narr _ _ _|.tup _=>false
 |_=>true
theorem cBj{bad:Nat->Prop}:∀{as:List AV} {key:Nat} {β:bB5} {ob:Obs} {vs:List Value} {bs:List Nat},ObR b0 β ob w bad->bR1 b0 β ob w bs->Vs (VR1 β ob w bad) as vs bs ->
  ∃β',bNu b0 w bad bs β ob β' (bQe key ob as).2/\Vs (VR1 β' (bQe key ob as).2 w bad) (bQe key ob as).1 vs []/\(bQe key ob as).1.all cC3=true
 |[],key,β,ob,vs,bs,hO,hl,h=>by
  cases h
  exact⟨β,bNu.refl hO [],.nil,rfl⟩
 |a::as,key,β,ob,vs,bs,hO,hl,h=>by
  obtain⟨v,vr,b,br,rfl,rfl,h1,h2⟩:=h.split
  have go:∀(x:AV×Obs),bQe key ob (a::as)=((bQe (key+32) x.2 as).1.cons x.1,(bQe (key+32) x.2 as).2)->(∃β',bNu b0 w bad b β ob β' x.2/\VR1 β' x.2 w bad x.1 v []/\cC3 x.1=true) ->
    ∃β',bNu b0 w bad (b++br) β ob β' (bQe key ob (a::as)).2/\Vs (VR1 β' (bQe key ob (a::as)).2 w bad) (bQe key ob (a::as)).1 (v::vr) []/\(bQe key ob (a::as)).1.all cC3=true:=by
   rintro x he ⟨β1,n1,g1,f1⟩
   obtain⟨β2,n2,g2,f2⟩:=cBj (as:=as) (key:=key+32) n1.obs (hl.right n1) (h2.imp fun a v b _ hr=>hr.ext n1.ext)
   rw[he]
   refine⟨β2,n1.trans n2,?_,?_⟩
   .have:=Vs.cons (VR1.ext n2.ext g1) g2
    simpa using this
   .simp only[List.all_cons,f1,f2,Bool.and_self]
  have zero:VR0 β ob w bad a v b->bQe key ob (a::as)=((bQe (key+32) (bJe key ob a).2 as).1.cons (bJe key ob a).1,(bQe (key+32) (bJe key ob a).2 as).2)->_:=fun h0 he=>
   go (bJe key ob a) he (by
    obtain⟨β',n1,g1,f1⟩:=bXe (key:=key) hO hl.left h0
    exact⟨β',n1,vr01 g1,by generalize (bJe key ob a).1=y at f1;cases y<;>simp_all [bVm,cC3]⟩)
  cases a with
  |agg cs=>
   obtain⟨us,rfl,hv⟩:=h1
   refine go (.agg (bGm key ob cs).1,(bGm key ob cs).2) rfl ?_
   obtain⟨β',n1,g1,f1⟩:=bNn (key:=key) hO hl.left hv
   exact⟨β',n1,⟨us,rfl,g1⟩,f1⟩
  |nbox cs=>exact go (.any,ob) rfl ⟨β,bNu.refl hO b,rfl,rfl⟩
  |fn g caps=>
   obtain⟨rfl,us,rfl,hv⟩:=h1
   exact go (.fn g caps,ob) rfl ⟨β,bNu.refl hO [],⟨rfl,us,rfl,hv⟩,rfl⟩
  |tup vs=>exact h1.elim
  |any=>exact zero h1 rfl
  |non=>exact zero h1 rfl
  |d τ x=>exact zero h1 rfl
  |nil=>exact zero h1 rfl
  |full τ l=>exact zero h1 rfl
  |new τ l=>exact zero h1 rfl
  |ow k=>exact zero h1 rfl
  |own k o l=>exact zero h1 rfl
  |arr n τ l=>exact zero h1 rfl
  |narr n τ l=>exact zero h1 rfl
  |ptr k o=>exact zero h1 rfl
  |ap k n=>exact zero h1 rfl
  |rop τ x=>exact zero h1 rfl
  |rptr k j o=>exact zero h1 rfl
theorem hasNew_tup{as:List AV}(h:as.all cC3=true):bFb (.tup as)=false:=by
 simp only[bFb,List.any_eq_false]
 intro x hx
 have:=List.all_eq_true.1 h x hx
 cases x with
 |agg cs=>simp[new1_agg (cs:=cs) (by simpa[cC3]using this)]
 |_=>simp_all [cC3,bQx,bQy]
theorem bVi{bad:Nat->Prop}(hO:ObR b0 β ob w bad){key:Nat}{a:AV}{v:Value}{bs:List Nat}(hl:bR1 b0 β ob w bs)(h:VR2 β ob w bad a v bs):
  ∃β',bNu b0 w bad bs β ob β' (keyed key ob a).2/\VR2 β' (keyed key ob a).2 w bad (keyed key ob a).1 v []/\bFb (keyed key ob a).1=false:=by
 have one:(∀cs,a ≠ .agg cs)->keyed key ob a=bSo key ob a->VR1 β ob w bad a v bs->∃β',bNu b0 w bad bs β ob β' (keyed key ob a).2/\VR2 β' (keyed key ob a).2 w bad (keyed key ob a).1 v []/\bFb (keyed key ob a).1=false:=by
  intro hna he h1
  obtain⟨β',n1,g1,f1⟩:=keyed1_sound (key:=key) hO hl h1 hna
  rw[he]
  exact⟨β',n1,vr12 g1,f1⟩
 cases a with
 |tup vs=>
  obtain⟨us,rfl,hv⟩:=h
  obtain⟨β',n1,g1,f1⟩:=cBj (key:=key) hO hl hv
  exact⟨β',n1,⟨us,rfl,g1⟩,hasNew_tup f1⟩
 |agg cs=>
  obtain⟨us,rfl,hv⟩:=h
  obtain⟨β',n1,g1,f1⟩:=bNn (key:=key) hO hl hv
  exact⟨β',n1,⟨us,rfl,g1⟩,hasNew_flat f1⟩
 |nbox cs=>exact one (by simp) rfl h
 |fn g caps=>exact one (by simp) rfl h
 |any=>exact one (by simp) rfl h
 |non=>exact one (by simp) rfl h
 |d τ x=>exact one (by simp) rfl h
 |nil=>exact one (by simp) rfl h
 |full τ l=>exact one (by simp) rfl h
 |new τ l=>exact one (by simp) rfl h
 |ow k=>exact one (by simp) rfl h
 |own k o l=>exact one (by simp) rfl h
 |arr n τ l=>exact one (by simp) rfl h
 |narr n τ l=>exact one (by simp) rfl h
 |ptr k o=>exact one (by simp) rfl h
 |ap k n=>exact one (by simp) rfl h
 |rop τ x=>exact one (by simp) rfl h
 |rptr k j o=>exact one (by simp) rfl h
theorem bMw{α:Type}:∀{l:List α} {t i:Nat} {x d:α},(setL l t x).getD i d=if i=t/\i<l.length then x else l.getD i d
 |[],t,i,x,d=>by simp[setL]
 |y::r,0,i,x,d=>by cases i<;>simp[setL]
 |y::r,t+1,i,x,d=>by
  cases i with
  |zero=>simp[setL]
  |succ i=>
   have:=bMw (l:=r) (t:=t) (i:=i) (x:=x) (d:=d)
   simpa[setL]using this
theorem bM7{α:Type}:∀{l:List α} {t:Nat} {x:α},(setL l t x).length=l.length
 |[],t,x=>rfl
 |y::r,0,x=>rfl
 |y::r,t+1,x=>by simp[setL,bM7]
theorem SR.key{sl:List AV}{tmps:Array Value}{t key:Nat}{a:AV}(h:SR b0 β ob w sl tmps f)(ha:VR2 β ob w (Av b0 β ob f) a (tmps.getD t undef) (f t)):
  ∃β',SR b0 β' (keyed key ob a).2 w (setL sl t (keyed key ob a).1) tmps (fun i=>if i=t then[] else f i)/\bFb (keyed key ob a).1=false/\Ext β ob β' (keyed key ob a).2/\(∀b,Own β' (keyed key ob a).2 b->Own β ob b\/b∈f t):=by
 have hl:bR1 b0 β ob w (f t):=⟨h.nodup t,fun b hb=>h.fresh t b hb⟩
 obtain⟨β',n1,g1,f1⟩:=bVi (key:=key) h.obs hl ha
 have hav:∀b,b<w.heap.size->Av b0 β' (keyed key ob a).2 (fun i=>if i=t then[] else f i) b->Av b0 β ob f b:=by
  intro b _ hb
  rcases hb with h1|h1|⟨i,h1⟩
  .exact .inl h1
  .rcases n1.own b h1 with h2|h2
   .exact .inr (.inl h2)
   .exact .inr (.inr ⟨t,h2⟩)
  .simp only at h1
   split at h1
   .cases h1
   .exact .inr (.inr ⟨i,h1⟩)
 refine⟨β',⟨n1.obs.mono (bad0:=fun _=>False) (Same.refl _ w) (fun _ _ x=>x.elim) hav (fun _ _ x=>x),fun i=>?_,by rw[bM7];exact h.size,fun i b hb=>?_,fun i=>?_,fun i j b hi hj=>?_,h.b0lt⟩,f1,n1.ext,n1.own⟩
 .rw[bMw]
  split
  .rename_i hi
   simp only[hi.1,if_true]
   exact g1.weaken hav
  .rename_i hi
   by_cases hit:i=t
   .have hlt:¬i<sl.length:=fun hlt=>hi ⟨hit,hlt⟩
    have hsl:=h.slot i
    have hd:sl.getD i .any = .any:=by simp[List.getD,List.getElem?_eq_none (Nat.le_of_not_lt hlt)]
    rw[hd]
    simp only[if_pos hit];rfl
   .simp only[if_neg hit]
    exact((h.slot i).ext n1.ext).weaken hav
 .split at hb
  .cases hb
  .rename_i hit
   obtain⟨h1,h2,h3⟩:=h.fresh i b hb
   refine⟨h1,h2,fun ho=>?_⟩
   rcases n1.own b ho with h4|h4
   .exact h3 h4
   .exact hit (h.disj i t b hb h4)
 .show(if i=t then[] else f i).Nodup
  split
  .exact List.nodup_nil
  .exact h.nodup i
 .split at hi
  .cases hi
  .split at hj
   .cases hj
   .exact h.disj i j b hi hj
end
end
section
section
variable {b0:Nat->Prop} {β:bB5} {ob:Obs} {w:World}
theorem vr21{bad:Nat->Prop}{a:AV}(hn:∀vs,a ≠ .tup vs){v:Value}{bs:List Nat}(h:VR2 β ob w bad a v bs):VR1 β ob w bad a v bs:=by
 cases a<;>first|exact h|exact absurd rfl (hn _)
theorem vs_nil{r:AV->Value->List Nat->Prop}{as:List AV}{vs:List Value}{bs:List Nat}(h:Vs r as vs bs):(∀a v b,a∈as->r a v b->b=[])->bs=[]:=by
 induction h with
 |nil=>intro _;rfl
 |cons h1 _ ih=>intro hr;rw[hr _ _ _ (by simp) h1,ih fun a v b ha h=>hr a v b (by simp[ha]) h];rfl
theorem bRg{bad:Nat->Prop}{a:AV}{v:Value}{bs:List Nat}(h:VR0 β ob w bad a v bs)(hn:bQy a=false):bs=[]:=by
 cases a<;>first
  |(simp[bQy]at hn;done)
  |exact h.1
  |exact h.2
  |exact h.elim
  |exact h
theorem bPp{bad:Nat->Prop}{a:AV}{v:Value}{bs:List Nat}(h:VR1 β ob w bad a v bs)(hn:bQx a=false):bs=[]:=by
 cases a with
 |agg cs=>
  obtain⟨vs,rfl,hv⟩:=h
  refine vs_nil hv fun a v b ha hr=>bRg hr ?_
  have:=List.any_eq_false.1 hn a ha
  simpa using this
 |nbox cs=>simp[bQx,bQy]at hn
 |fn g caps=>exact h.1
 |tup vs=>exact h.elim
 |any=>exact bRg (a:=.any) (v:=v) (β:=β) (ob:=ob) (w:=w) (bad:=bad) h hn
 |non=>exact bRg (a:=.non) (β:=β) (ob:=ob) (w:=w) (bad:=bad) h hn
 |d τ x=>exact bRg (a:=.d τ x) (β:=β) (ob:=ob) (w:=w) (bad:=bad) h hn
 |nil=>exact bRg (a:=.nil) (β:=β) (ob:=ob) (w:=w) (bad:=bad) h hn
 |full τ l=>exact bRg (a:=.full τ l) (β:=β) (ob:=ob) (w:=w) (bad:=bad) h hn
 |new τ l=>exact bRg (a:=.new τ l) (β:=β) (ob:=ob) (w:=w) (bad:=bad) h hn
 |ow k=>exact bRg (a:=.ow k) (β:=β) (ob:=ob) (w:=w) (bad:=bad) h hn
 |own k o l=>exact bRg (a:=.own k o l) (β:=β) (ob:=ob) (w:=w) (bad:=bad) h hn
 |arr n τ l=>exact bRg (a:=.arr n τ l) (β:=β) (ob:=ob) (w:=w) (bad:=bad) h hn
 |narr n τ l=>exact bRg (a:=.narr n τ l) (β:=β) (ob:=ob) (w:=w) (bad:=bad) h hn
 |ptr k o=>exact bRg (a:=.ptr k o) (β:=β) (ob:=ob) (w:=w) (bad:=bad) h hn
 |ap k n=>exact bRg (a:=.ap k n) (β:=β) (ob:=ob) (w:=w) (bad:=bad) h hn
 |rop τ x=>exact bRg (a:=.rop τ x) (β:=β) (ob:=ob) (w:=w) (bad:=bad) h hn
 |rptr k j o=>exact bRg (a:=.rptr k j o) (β:=β) (ob:=ob) (w:=w) (bad:=bad) h hn
theorem bYk{bad:Nat->Prop}{a:AV}{v:Value}{bs:List Nat}(h:VR2 β ob w bad a v bs)(hn:bFb a=false):bs=[]:=by
 cases a with
 |tup as=>
  obtain⟨vs,rfl,hv⟩:=h
  refine vs_nil hv fun a v b ha hr=>bPp hr ?_
  have:=List.any_eq_false.1 hn a ha
  simpa using this
 |agg cs=>exact bPp (a:=.agg cs) (β:=β) (ob:=ob) (w:=w) (bad:=bad) h hn
 |nbox cs=>exact bPp (a:=.nbox cs) (β:=β) (ob:=ob) (w:=w) (bad:=bad) h hn
 |fn g caps=>exact bPp (a:=.fn g caps) (β:=β) (ob:=ob) (w:=w) (bad:=bad) h hn
 |any=>exact bPp (a:=.any) (v:=v) (β:=β) (ob:=ob) (w:=w) (bad:=bad) h hn
 |non=>exact bPp (a:=.non) (β:=β) (ob:=ob) (w:=w) (bad:=bad) h hn
 |d τ x=>exact bPp (a:=.d τ x) (β:=β) (ob:=ob) (w:=w) (bad:=bad) h hn
 |nil=>exact bPp (a:=.nil) (β:=β) (ob:=ob) (w:=w) (bad:=bad) h hn
 |full τ l=>exact bPp (a:=.full τ l) (β:=β) (ob:=ob) (w:=w) (bad:=bad) h hn
 |new τ l=>exact bPp (a:=.new τ l) (β:=β) (ob:=ob) (w:=w) (bad:=bad) h hn
 |ow k=>exact bPp (a:=.ow k) (β:=β) (ob:=ob) (w:=w) (bad:=bad) h hn
 |own k o l=>exact bPp (a:=.own k o l) (β:=β) (ob:=ob) (w:=w) (bad:=bad) h hn
 |arr n τ l=>exact bPp (a:=.arr n τ l) (β:=β) (ob:=ob) (w:=w) (bad:=bad) h hn
 |narr n τ l=>exact bPp (a:=.narr n τ l) (β:=β) (ob:=ob) (w:=w) (bad:=bad) h hn
 |ptr k o=>exact bPp (a:=.ptr k o) (β:=β) (ob:=ob) (w:=w) (bad:=bad) h hn
 |ap k n=>exact bPp (a:=.ap k n) (β:=β) (ob:=ob) (w:=w) (bad:=bad) h hn
 |rop τ x=>exact bPp (a:=.rop τ x) (β:=β) (ob:=ob) (w:=w) (bad:=bad) h hn
 |rptr k j o=>exact bPp (a:=.rptr k j o) (β:=β) (ob:=ob) (w:=w) (bad:=bad) h hn
abbrev F0:Nat->List Nat:=fun _=>[]
def cBy(sl:List AV):Prop:=∀i,bFb (sl.getD i .any)=false
theorem bXz{b:Nat}:Av b0 β ob F0 b↔b0 b\/Own β ob b:=by
 constructor
 .rintro(h|h|⟨i,h⟩)
  .exact .inl h
  .exact .inr h
  .cases h
 .rintro(h|h)
  .exact .inl h
  .exact .inr (.inl h)
theorem sr_f0{f:Nat->List Nat}{sl:List AV}{tmps:Array Value}(h:SR b0 β ob w sl tmps f)(hn:cBy sl):SR b0 β ob w sl tmps F0:=by
 have:f=F0:=funext fun i=>bYk (h.slot i) (hn i)
 rwa [this]at h
theorem bRi{sl:List AV}{t:Nat}{a:AV}(h:cBy sl)(ha:bFb a=false):cBy (setL sl t a):=by
 intro i
 rw[bMw]
 split
 .exact ha
 .exact h i
theorem SR.put{sl:List AV}{tmps:Array Value}{used:List Nat}{w':World}{av:AV}{v:Value}{bs:List Nat}{key:Nat}(h:SR b0 β ob w sl tmps F0)(hd:Done b0 β ob F0 used w w' av v bs)(t:Nat):
  ∃β',SR b0 β' (keyed key ob av).2 w' (setL sl t (keyed key ob av).1) (tmps.setIfInBounds t v) F0/\bFb (keyed key ob av).1=false /\
   (∀b,Own β' (keyed key ob av).2 b->Own β ob b\/w.heap.size<=b):=by
 have hsame:Same (fun _=>False) w w':=hd.same.mono fun b _ ⟨i,_,hi⟩=>by cases hi
 have hbs:∀b∈bs,w.heap.size<=b:=fun b hb=>by
  rcases(hd.from_ b hb).2 with⟨i,_,hi⟩|h
  .cases hi
  .exact h
 have hsub:∀b,b<w.heap.size->(b0 b\/Own β ob b\/b∈bs)->Av b0 β ob F0 b:=by
  intro b hlt hb
  rcases hb with h|h|h
  .exact .inl h
  .exact .inr (.inl h)
  .have:=hbs b h;omega
 have hO:=h.obs.mono hsame (fun _ _ x=>x.elim) hsub (fun _ _ x=>x)
 have hrel:VR2 β ob w' (fun b=>b0 b\/Own β ob b\/b∈bs) av v bs:=hd.rel.weaken fun b _ hb=>by
  rcases hb with h|h|h
  .exact .inl h
  .exact .inr (.inl h)
  .exact .inr (.inr (.inr h))
 have hl:bR1 b0 β ob w' bs:=⟨hd.nodup,fun b hb=>⟨(hd.from_ b hb).1,fun h0=>by have:=h.b0lt b h0;have:=hbs b hb;omega,fun ho=>by have:=(h.obs.lt b ho).1;have:=hbs b hb;omega⟩⟩
 obtain⟨β',n1,g1,f1⟩:=bVi (key:=key) hO hl hrel
 have hav:∀b,b<w'.heap.size->Av b0 β' (keyed key ob av).2 F0 b->(b0 b\/Own β ob b\/b∈bs):=by
  intro b _ hb
  rcases bXz.1 hb with h1|h1
  .exact .inl h1
  .rcases n1.own b h1 with h2|h2
   .exact .inr (.inl h2)
   .exact .inr (.inr h2)
 refine⟨β',⟨n1.obs.mono (bad0:=fun _=>False) (Same.refl _ w') (fun _ _ x=>x.elim) hav (fun _ _ x=>x),fun i=>?_,by rw[bM7];simpa using h.size,(fun i b hb=>by cases hb),fun i=>List.nodup_nil,(fun i j b hi=>by cases hi),
  fun b hb=>Nat.lt_of_lt_of_le (h.b0lt b hb) hsame.1⟩,f1,fun b hb=>?_⟩
 .rw[bMw]
  by_cases hi:i=t/\i<sl.length
  .rw[if_pos hi]
   have hlt:t<tmps.size:=by rw[h.size];exact hi.1▸hi.2
   have:(tmps.setIfInBounds t v).getD i undef=v:=by rw[hi.1];simp[hlt]
   rw[this]
   exact g1.weaken hav
  .rw[if_neg hi]
   have:(tmps.setIfInBounds t v).getD i undef=tmps.getD i undef:=by
    by_cases hit:t=i
    .subst hit
     have:¬t<tmps.size:=by rw[h.size];exact fun h'=>hi ⟨rfl,h'⟩
     simp[Array.setIfInBounds,this]
    .simp[Array.getElem?_setIfInBounds_ne hit]
   rw[this]
   exact((bJd hsame (fun _ _ x=>x.elim) hsub (fun _ _ x=>x) (h.slot i)).ext n1.ext).weaken hav
 .rcases n1.own b hb with h1|h1
  .exact .inl h1
  .exact .inr (hbs b h1)
theorem cAm{r:AV->Value->List Nat->Prop}{r':AV->Value->List Nat->Prop}{g:AV->AV}{as:List AV}{vs:List Value}(h:Vs r as vs [])(hg:∀a v,a∈as->r a v []->r' (g a) v []):Vs r' (as.map g) vs []:=by
 generalize hb:([]:List Nat)=bs at h
 induction h with
 |nil=>exact .nil
 |cons h1 _ ih=>
  have hb':=hb.symm
  rw[List.append_eq_nil_iff]at hb'
  obtain⟨rfl,rfl⟩:=hb'
  have:=Vs.cons (hg _ _ (by simp) h1) (ih (fun a v ha hr=>hg a v (by simp[ha]) hr) rfl)
  simpa using this
section
variable {β':bB5} {ob':Obs} {bad bad':Nat->Prop} {g:AV->AV}
theorem bY2(h0:∀a v,VR0 β ob w bad a v []->VR0 β' ob' w bad' (g a) v []){a:AV}{v:Value}(h:VR1 β ob w bad a v []):VR1 β' ob' w bad' (cAy g a) v []:=by
 cases a with
 |agg cs=>obtain⟨vs,rfl,hv⟩:=h;exact⟨vs,rfl,cAm hv fun a v _ hr=>h0 a v hr⟩
 |fn f caps=>obtain⟨_,vs,rfl,hv⟩:=h;exact⟨rfl,vs,rfl,cAm hv fun a v _ hr=>h0 a v hr⟩
 |nbox cs=>obtain⟨b,_,_,_,_,hb,_⟩:=h;cases hb
 |tup vs=>exact h.elim
 |any=>exact vr01 (h0 .any v h)
 |non=>exact vr01 (h0 .non v h)
 |d τ x=>exact vr01 (h0 (.d τ x) v h)
 |nil=>exact vr01 (h0 .nil v h)
 |full τ l=>exact vr01 (h0 (.full τ l) v h)
 |new τ l=>exact vr01 (h0 (.new τ l) v h)
 |ow k=>exact vr01 (h0 (.ow k) v h)
 |own k o l=>exact vr01 (h0 (.own k o l) v h)
 |arr n τ l=>exact vr01 (h0 (.arr n τ l) v h)
 |narr n τ l=>exact vr01 (h0 (.narr n τ l) v h)
 |ptr k o=>exact vr01 (h0 (.ptr k o) v h)
 |ap k n=>exact vr01 (h0 (.ap k n) v h)
 |rop τ x=>exact vr01 (h0 (.rop τ x) v h)
 |rptr k j o=>exact vr01 (h0 (.rptr k j o) v h)
theorem lift2_sound(h0:∀a v,VR0 β ob w bad a v []->VR0 β' ob' w bad' (g a) v []){a:AV}{v:Value}(h:VR2 β ob w bad a v []):VR2 β' ob' w bad' (bR4 g a) v []:=by
 cases a with
 |tup as=>obtain⟨vs,rfl,hv⟩:=h;exact⟨vs,rfl,cAm hv fun a v _ hr=>bY2 h0 hr⟩
 |_=>exact vr12 (bY2 h0 (vr21 (by simp) h))
theorem lift2_cell(h0:∀a v,VR0 β ob w bad a v []->VR0 β' ob' w bad' (g a) v []){a:AV}{v:Value}(h:VR1 β ob w bad a v []):VR1 β' ob' w bad' (bR4 g a) v []:=by
 cases a with
 |tup as=>exact h.elim
 |_=>exact bY2 h0 h
end
def Tame(g:AV->AV):Prop:=∀a,bQy a=false->bVm (g a)=true\/g a=a
theorem Tame.new0{g:AV->AV}(h:Tame g){a:AV}(ha:bQy a=false):bQy (g a)=false:=by
 rcases h a ha with h|h
 .exact cF0 h
 .rw[h];exact ha
theorem flat1_new1{a:AV}(h:bVm a=true):bQx a=false:=by cases a<;>simp_all [bVm,bQx,bQy]
theorem Tame.new1{g:AV->AV}(h:Tame g){a:AV}(ha:bQx a=false):bQx (cAy g a)=false:=by
 have flat:bQy a=false->bQx a=false->bQx (g a)=false:=fun h0 h1=>by
  rcases h a h0 with hf|hf
  .exact flat1_new1 hf
  .rw[hf];exact h1
 cases a with
 |agg cs=>
  simp only[cAy,bQx,List.any_eq_false,List.mem_map]at ha ⊢
  rintro x ⟨y,hy,rfl⟩
  have:=ha y hy
  simp[h.new0 (by simpa using this)]
 |fn f cs=>rfl
 |_=>exact flat (by first|rfl|exact ha) ha
theorem Tame.new2{g:AV->AV}(h:Tame g){a:AV}(ha:bFb a=false):bFb (bR4 g a)=false:=by
 have base:∀x,bQy x=false->bFb x=false->bFb (g x)=false:=fun x h0 h1=>by
  rcases h x h0 with hf|hf
  .exact cBp hf
  .rw[hf];exact h1
 have one:bQx a=false->(∀vs,cAy g a ≠ .tup vs)->bFb (cAy g a)=false:=by
  intro h1 hne
  have:=h.new1 h1
  generalize cAy g a=y at this hne
  cases y with
  |tup vs=>exact absurd rfl (hne vs)
  |_=>exact this
 cases a with
 |tup vs=>
  simp only[bR4,bFb,List.any_eq_false,List.mem_map]at ha ⊢
  rintro x ⟨y,hy,rfl⟩
  have:=ha y hy
  simp[h.new1 (by simpa using this)]
 |agg cs=>exact one ha (by simp[cAy])
 |fn f cs=>exact one ha (by simp[cAy])
 |_=>
  simp only[bR4,cAy]
  exact base _ ha ha
theorem SR.regroup{sl:List AV}{tmps:Array Value}(h:SR b0 β ob w sl tmps F0){β':bB5}{ob':Obs}{g:AV->AV}(ρ:Nat->Nat){b0':Nat->Prop}
  (hrow:∀k τ l,bBc ob' k=some (.row τ l)->bBc ob (ρ k)=some (.row τ l)/\β' k=β (ρ k))
  (hbox:∀k cs',bBc ob' k=some (.box cs')->∃cs,bBc ob (ρ k)=some (.box cs)/\β' k=β (ρ k)/\cs'=cs.map (bR4 g))
  (hinj:∀k1 k2 x1 x2,bBc ob' k1=some x1->bBc ob' k2=some x2->ρ k1=ρ k2->k1=k2)
  (hb0:∀b,b0' b->b0 b\/Own β ob b) (hdis:∀b,Own β' ob' b->¬b0' b)
  (hg:(∀b,b<w.heap.size->Av b0' β' ob' F0 b->Av b0 β ob F0 b)->∀a v,VR0 β ob w (Av b0 β ob F0) a v []->VR0 β' ob' w (Av b0' β' ob' F0) (g a) v [])
  {sl':List AV} (hlen:sl'.length=sl.length) (hsl:∀i,sl'.getD i .any=bR4 g (sl.getD i .any)\/sl'.getD i .any = .any) :
  SR b0' β' ob' w sl' tmps F0/\(∀b,Own β' ob' b->Own β ob b):=by
 have old:∀k x,bBc ob' k=some x->∃y,bBc ob (ρ k)=some y/\β' k=β (ρ k):=by
  intro k x hk
  cases x with
  |row τ l=>obtain⟨h1,h2⟩:=hrow k τ l hk;exact⟨_,h1,h2⟩
  |box cs=>obtain⟨cs0,h1,h2,_⟩:=hbox k cs hk;exact⟨_,h1,h2⟩
 have hown:∀b,Own β' ob' b->Own β ob b:=by
  rintro b ⟨k,x,o,c,hk,hb⟩
  obtain⟨y,h1,h2⟩:=old k x hk
  exact⟨ρ k,y,o,c,h1,h2▸hb⟩
 have hav:∀b,b<w.heap.size->Av b0' β' ob' F0 b->Av b0 β ob F0 b:=by
  intro b _ hb
  rcases bXz.1 hb with h|h
  .exact bXz.2 (hb0 b h)
  .exact .inr (.inl (hown b h))
 have h0:=hg hav
 refine⟨⟨⟨fun k τ l hk=>?_,fun k cs' hk=>?_,fun k1 k2 x1 x2 b o1 c1 o2 c2 h1 h2 h3 h4=>?_,fun b hb=>⟨(h.obs.lt b (hown b hb)).1,hdis b hb⟩⟩,fun i=>?_,by rw[hlen];exact h.size,(fun i b hb=>by cases hb),fun i=>List.nodup_nil,(fun i j b hi=>by cases hi),fun b hb=>?_⟩,hown⟩
 .obtain⟨h1,h2⟩:=hrow k τ l hk
  rw[h2]
  rcases h.obs.row (ρ k) τ l h1 with h|⟨b,o,c,hb,hr⟩
  .exact .inl h
  .exact .inr ⟨b,o,c,hb,hr.sameBlock hav⟩
 .obtain⟨cs,h1,h2,rfl⟩:=hbox k cs' hk
  obtain⟨b,cells,elem,hb,hh,hv⟩:=h.obs.box (ρ k) cs h1
  exact⟨b,cells,elem,by rw[h2,hb,List.length_map],hh,cAm hv fun a v _ hr=>lift2_cell h0 hr⟩
 .obtain⟨y1,e1,f1⟩:=old k1 x1 h1
  obtain⟨y2,e2,f2⟩:=old k2 x2 h2
  exact hinj k1 k2 x1 x2 h1 h2 (h.obs.apart _ _ _ _ _ _ _ _ _ e1 e2 (f1▸h3) (f2▸h4))
 .rcases hsl i with hi|hi
  .rw[hi];exact lift2_sound h0 (h.slot i)
  .rw[hi];rfl
 .rcases hb0 b hb with h1|h1
  .exact h.b0lt b h1
  .exact(h.obs.lt b h1).1
theorem bMs{k j:Nat}:∀{l:Obs},bBc (delN l k) j=if j=k then none else bBc l j
 |[]=>by simp[delN,bBc]
 |(i,x)::r=>by
  simp only[delN]
  cases hb:Nat.beq i k with
  |true=>
   have:=Nat.eq_of_beq_eq_true hb
   subst this
   simp only[cond_true]
   rw[bMs,bC2]
   by_cases hj:j=i
   .simp[hj]
   .simp[hj,Ne.symm hj]
  |false=>
   have hne:i≠k:=fun e=>by subst e;rw[Nat.beq_refl]at hb;cases hb
   simp only[cond_false]
   rw[bC2,bC2,bMs]
   by_cases hj:j=k
   .subst hj;simp[hne]
   .by_cases hij:i=j
    .simp[hij,hj]
    .simp[hij,hj]
theorem bX8{g:AV->AV}{j:Nat}:∀{l:Obs},bBc (mapB g l) j=(bBc l j).map fun|.box cs=>.box (cs.map g)|o=>o
 |[]=>rfl
 |(i,x)::r=>by
  show bBc ((i,_)::mapB g r) j=_
  rw[bC2,bC2,bX8]
  split<;>rfl
theorem VR0.keep{bad:Nat->Prop}{β':bB5}{ob':Obs}{a:AV}{v:Value}{bs:List Nat}(h:VR0 β ob w bad a v bs){bad':Nat->Prop}(hb:∀b,b<w.heap.size->bad' b->bad b)
  (hk:∀k∈bMb a,(∀τ l,bBc ob k=some (.row τ l)->bBc ob' k=some (.row τ l))/\(∀cs,bBc ob k=some (.box cs)->∃cs',bBc ob' k=some (.box cs'))/\β' k=β k):VR0 β' ob' w bad' a v bs:=by
 have h':VR0 β ob w bad' a v bs:=bHw (bad0:=fun _=>False) (Same.refl _ w) (fun _ _ x=>x.elim) hb (fun _ _ x=>x) h
 cases a with
 |ow key=>obtain⟨h1,τ,l,h2,hs⟩:=h;obtain⟨g1,_,g3⟩:=hk key (by simp[bMb]);exact⟨h1,τ,l,g1 _ _ h2,hs.ext g3⟩
 |own key off len=>obtain⟨h1,τ,l,h2,hl,hs⟩:=h;obtain⟨g1,_,g3⟩:=hk key (by simp[bMb]);exact⟨h1,τ,l,g1 _ _ h2,hl,hs.ext g3⟩
 |ptr key off=>obtain⟨h1,b,c,cs,h2,h3,hv⟩:=h;obtain⟨_,g2,g3⟩:=hk key (by simp[bMb]);obtain⟨cs',g2⟩:=g2 _ h3;exact⟨h1,b,c,cs',g3.trans h2,g2,hv⟩
 |ap key n=>obtain⟨h1,τ,l,b,c,h2,hl,h3,hv⟩:=h;obtain⟨g1,_,g3⟩:=hk key (by simp[bMb]);exact⟨h1,τ,l,b,c,g1 _ _ h2,hl,g3.trans h3,hv⟩
 |rptr key j off=>obtain⟨h1,τ,l,b,o,c,h2,h3,hv⟩:=h;obtain⟨g1,_,g3⟩:=hk key (by simp[bMb]);exact⟨h1,τ,l,b,o,c,g1 _ _ h2,g3.trans h3,hv⟩
 |_=>exact h'
theorem getD_map{g:AV->AV}(hg:g .any = .any){sl:List AV}{i:Nat}:(sl.map g).getD i .any=g (sl.getD i .any):=by
 simp only[List.getD_eq_getElem?_getD,List.getElem?_map]
 cases sl[i]?<;>simp[hg]
theorem cBy.lift{sl:List AV}{g:AV->AV}(hn:cBy sl)(ht:Tame g)(hg:g .any = .any):cBy (sl.map (bR4 g)):=by
 intro i
 rw[getD_map (by simpa[bR4,cAy]using hg)]
 exact ht.new2 (hn i)
theorem bW9{g:AV->AV}{key k:Nat}{x:Ob}(h:bBc (mapB g (delN ob key)) k=some x):k≠key/\∃y,bBc ob k=some y/\x=(match y with|.box cs=>.box (cs.map g)|o=>o):=by
 rw[bX8,bMs]at h
 split at h
 .cases h
 .rename_i hne
  rw[Option.map_eq_some_iff]at h
  obtain⟨y,h1,h2⟩:=h
  exact⟨hne,y,h1,h2.symm⟩
theorem bMr{g:AV->AV}{key k:Nat}(hk:k≠key):(∀τ l,bBc ob k=some (.row τ l)->bBc (mapB g (delN ob key)) k=some (.row τ l))/\(∀cs,bBc ob k=some (.box cs)->∃cs',bBc (mapB g (delN ob key)) k=some (.box cs'))/\β k=β k:=by
 refine⟨fun τ l h=>?_,fun cs h=>?_,rfl⟩
 .rw[bX8,bMs,if_neg hk,h];rfl
 .rw[bX8,bMs,if_neg hk,h];exact⟨_,rfl⟩
theorem SR.drop{sl:List AV}{tmps:Array Value}(h:SR b0 β ob w sl tmps F0){g:AV->AV}(key:Nat){b0':Nat->Prop}(hany:g .any = .any)
  (hb0:∀b,b0' b->b0 b\/Own β ob b) (hdis:∀b,Own β (mapB (bR4 g) (delN ob key)) b->¬b0' b)
  (hg:(∀b,b<w.heap.size->Av b0' β (mapB (bR4 g) (delN ob key)) F0 b->Av b0 β ob F0 b)->∀a v,VR0 β ob w (Av b0 β ob F0) a v [] ->
   VR0 β (mapB (bR4 g) (delN ob key)) w (Av b0' β (mapB (bR4 g) (delN ob key)) F0) (g a) v []) :
  SR b0' β (mapB (bR4 g) (delN ob key)) w (sl.map (bR4 g)) tmps F0/\(∀b,Own β (mapB (bR4 g) (delN ob key)) b->Own β ob b):=by
 refine h.regroup (fun k=>k) (fun k τ l hk=>?_) (fun k cs' hk=>?_) (fun _ _ _ _ _ _ he=>he) hb0 hdis hg (by simp) (fun i=>.inl (getD_map (by simpa[bR4,cAy]using hany)))
 .obtain⟨_,y,h1,h2⟩:=bW9 hk
  cases y with
  |row σ m=>cases h2;exact⟨h1,rfl⟩
  |box cs=>cases h2
 .obtain⟨_,y,h1,h2⟩:=bW9 hk
  cases y with
  |row σ m=>cases h2
  |box cs=>cases h2;exact⟨cs,h1,rfl,rfl⟩
theorem bZu(key:Nat):cG2 key .any = .any:=rfl
theorem bZt(key:Nat):Tame (cG2 key):=by
 intro a ha
 cases a<;>first
  |exact .inr rfl
  |(simp only[cG2];cases Nat.beq _ key<;>first|exact .inl rfl|exact .inr rfl)
theorem bKn{a b:Nat}(h:Nat.beq a b=false):a≠b:=fun e=>by subst e;rw[Nat.beq_refl]at h;cases h
theorem own_drop{g:AV->AV}{key b:Nat}(h:Own β (mapB g (delN ob key)) b):∃k x o c,k≠key/\bBc ob k=some x/\β k=some (b,o,c):=by
 obtain⟨k,x,o,c,hk,hb⟩:=h
 obtain⟨hne,y,hy,_⟩:=bW9 hk
 exact⟨k,y,o,c,hne,hy,hb⟩
def bFr(β:bB5)(ob:Obs)(key b:Nat):Prop:=∃x o c,bBc ob key=some x/\β key=some (b,o,c)
theorem SR.kill{sl:List AV}{tmps:Array Value}(h:SR b0 β ob w sl tmps F0)(key:Nat):
  SR (fun b=>b0 b\/bFr β ob key b) β (mapB (bXd key) (delN ob key)) w (sl.map (bXd key)) tmps F0/\(∀b,Own β (mapB (bXd key) (delN ob key)) b->Own β ob b):=by
 refine h.drop key (bZu key) (fun b hb=>hb.imp id fun⟨x,o,c,h1,h2⟩=>⟨key,x,o,c,h1,h2⟩) (fun b hb hb'=>?_) fun hav a v ha=>?_
 .obtain⟨k,x,o,c,hne,hk,hbk⟩:=own_drop hb
  rcases hb' with hb'|⟨x',o',c',hk',hbk'⟩
  .exact(h.obs.lt b ⟨k,x,o,c,hk,hbk⟩).2 hb'
  .exact hne (h.obs.apart _ _ _ _ _ _ _ _ _ hk hk' hbk hbk')
 cases a with
 |ow k=>
  simp only[cG2]
  cases hb:Nat.beq k key with
  |true=>rfl
  |false=>exact VR0.keep (a:=.ow k) ha hav fun k' hk'=>by simp[bMb]at hk';subst hk';exact bMr (bKn hb)
 |own k o l=>
  simp only[cG2]
  cases hb:Nat.beq k key with
  |true=>rfl
  |false=>exact VR0.keep (a:=.own k o l) ha hav fun k' hk'=>by simp[bMb]at hk';subst hk';exact bMr (bKn hb)
 |ptr k o=>
  simp only[cG2]
  cases hb:Nat.beq k key with
  |true=>rfl
  |false=>exact VR0.keep (a:=.ptr k o) ha hav fun k' hk'=>by simp[bMb]at hk';subst hk';exact bMr (bKn hb)
 |ap k n=>
  simp only[cG2]
  cases hb:Nat.beq k key with
  |true=>rfl
  |false=>exact VR0.keep (a:=.ap k n) ha hav fun k' hk'=>by simp[bMb]at hk';subst hk';exact bMr (bKn hb)
 |rptr k j o=>
  simp only[cG2]
  cases hb:Nat.beq k key with
  |true=>rfl
  |false=>exact VR0.keep (a:=.rptr k j o) ha hav fun k' hk'=>by simp[bMb]at hk';subst hk';exact bMr (bKn hb)
 |_=>exact VR0.keep ha hav fun k' hk'=>by simp[bMb]at hk'
theorem froz_any(key:Nat)(o:Ob):cDj key o .any = .any:=rfl
theorem froz_tame(key:Nat)(τ:Ty)(l:List τ.den):Tame (cDj key (.row τ l)):=by
 intro a ha
 cases a<;>first
  |exact .inr rfl
  |(simp only[cDj];cases Nat.beq _ key<;>first|exact .inl rfl|exact .inr rfl)
theorem SR.freeze{sl:List AV}{tmps:Array Value}(h:SR b0 β ob w sl tmps F0){key:Nat}{τ:Ty}{l:List τ.den}(hk:bBc ob key=some (.row τ l)):
  SR b0 β (mapB (frozV key (.row τ l)) (delN ob key)) w (sl.map (frozV key (.row τ l))) tmps F0/\(∀b,Own β (mapB (frozV key (.row τ l)) (delN ob key)) b->Own β ob b):=by
 refine h.drop key (froz_any key _) (fun b hb=>.inl hb) (fun b hb hb'=>by
  obtain⟨k,x,o,c,hne,hk',hbk⟩:=own_drop hb
  exact(h.obs.lt b ⟨k,x,o,c,hk',hbk⟩).2 hb') fun hav a v ha=>?_
 have data:∀{off len:Nat} {v:Value},off+len<=l.length->SlV β key τ.size off len v ->
   VR0 β (mapB (bR4 (cDj key (.row τ l))) (delN ob key)) w (Av b0 β (mapB (bR4 (cDj key (.row τ l))) (delN ob key)) F0) (.d (.list τ) (bFj l off len)) v []:=by
  intro off len v hol hs
  obtain⟨h1,h2⟩:=bVd h.obs hk hol hs
  refine⟨rfl,[v],rfl,(h1.mono hav).enc fun hpos a n c hv hb=>?_⟩
  have ho:∃o c',β key=some (a.block,o,c'):=by
   unfold SlV at hs
   split at hs
   .simp only[bFj,List.length_take,List.length_drop]at hpos;omega
   .rename_i b o c0 hb'
    obtain⟨A,c',rfl,_⟩:=hs
    cases hv
    exact⟨o,c0,hb'⟩
  obtain⟨o,c',ho⟩:=ho
  rcases bXz.1 hb with hb|⟨k,x,o2,c2,hkx,hb2⟩
  .exact(h.obs.lt _ ⟨key,_,_,_,hk,ho⟩).2 hb
  .obtain⟨hne,y,hy,_⟩:=bW9 hkx
   exact hne (h.obs.apart _ _ _ _ _ _ _ _ _ hy hk hb2 ho)
 cases a with
 |ow k=>
  simp only[cDj]
  cases hb:Nat.beq k key with
  |true=>
   have:=Nat.eq_of_beq_eq_true hb
   subst this
   obtain⟨_,σ,m,h1,h2⟩:=ha
   rw[hk]at h1
   cases h1
   have:=data (off:=0) (len:=l.length) (by omega) h2
   rwa [bP3]at this
  |false=>exact VR0.keep (a:=.ow k) ha hav fun k' hk'=>by simp[bMb]at hk';subst hk';exact bMr (bKn hb)
 |own k o n=>
  simp only[cDj]
  cases hb:Nat.beq k key with
  |true=>
   have:=Nat.eq_of_beq_eq_true hb
   subst this
   obtain⟨_,σ,m,h1,hol,h2⟩:=ha
   rw[hk]at h1
   cases h1
   exact data hol h2
  |false=>exact VR0.keep (a:=.own k o n) ha hav fun k' hk'=>by simp[bMb]at hk';subst hk';exact bMr (bKn hb)
 |ptr k o=>
  simp only[cDj]
  cases hb:Nat.beq k key with
  |true=>rfl
  |false=>exact VR0.keep (a:=.ptr k o) ha hav fun k' hk'=>by simp[bMb]at hk';subst hk';exact bMr (bKn hb)
 |ap k n=>
  simp only[cDj]
  cases hb:Nat.beq k key with
  |true=>rfl
  |false=>exact VR0.keep (a:=.ap k n) ha hav fun k' hk'=>by simp[bMb]at hk';subst hk';exact bMr (bKn hb)
 |rptr k j o=>
  simp only[cDj]
  cases hb:Nat.beq k key with
  |true=>rfl
  |false=>exact VR0.keep (a:=.rptr k j o) ha hav fun k' hk'=>by simp[bMb]at hk';subst hk';exact bMr (bKn hb)
 |_=>exact VR0.keep ha hav fun k' hk'=>by simp[bMb]at hk'
structure Rel(b0:Nat->Prop)(β:bB5)(st:St)(w:World)(tmps:Array Value):Prop where
 sr:SR b0 β st.ob w st.sl tmps F0
 nn:cBy st.sl
theorem cBo{st:St}{tmps:Array Value}(h:Rel b0 β st w tmps)(key:Nat):Rel b0 β (freeze st key) w tmps/\(∀b,Own β (freeze st key).ob b->Own β st.ob b)/\(freeze st key).f=st.f:=by
 unfold freeze
 split
 .rename_i τ l hk
  obtain⟨h1,h2⟩:=h.sr.freeze hk
  exact⟨⟨h1,h.nn.lift (froz_tame key τ l) rfl⟩,h2,rfl⟩
 .exact⟨h,fun _ h=>h,rfl⟩
theorem bPh{tmps:Array Value}:∀(ks:List Nat) {st:St},Rel b0 β st w tmps->Rel b0 β (bPi st ks) w tmps/\(∀b,Own β (bPi st ks).ob b->Own β st.ob b)/\(bPi st ks).f=st.f
 |[],st,h=>⟨h,fun _ h=>h,rfl⟩
 |k::ks,st,h=>by
  obtain⟨h1,h2,h3⟩:=cBo h k
  obtain⟨g1,g2,g3⟩:=bPh ks h1
  exact⟨g1,fun b hb=>h2 b (g2 b hb),g3.trans h3⟩
theorem bYn{tmps:Array Value}:∀(ts:List Nat) {st:St},Rel b0 β st w tmps->Rel b0 β (bZ1 st ts) w tmps/\(∀b,Own β (bZ1 st ts).ob b->Own β st.ob b)/\(bZ1 st ts).f=st.f
 |[],st,h=>⟨h,fun _ h=>h,rfl⟩
 |t::ts,st,h=>by
  obtain⟨h1,h2,h3⟩:=bPh (keysAt st (st.sl.getD t .any)) h
  obtain⟨g1,g2,g3⟩:=bYn ts h1
  exact⟨g1,fun b hb=>h2 b (g2 b hb),g3.trans h3⟩
theorem Rel.put{st:St}{tmps:Array Value}{used:List Nat}{w':World}{av:AV}{v:Value}{bs:List Nat}(h:Rel b0 β st w tmps)(hd:Done b0 β st.ob F0 used w w' av v bs)(dst:Option Nat):
  ∃β',Rel b0 β' (st.put dst av) w' (putT tmps dst v)/\(∀b,Own β' (st.put dst av).ob b->Own β st.ob b\/w.heap.size<=b):=by
 cases dst with
 |some t=>
  obtain⟨β',h1,h2,h3⟩:=h.sr.put (key:=keyOf t) hd t
  exact⟨β',⟨h1,bRi h.nn h2⟩,h3⟩
 |none=>
  have:=h.sr.step (f':=F0) (dst:=none) hd rfl (fun t ht=>by cases ht) (fun i _=>.inl ⟨rfl,rfl,fun _=>rfl⟩)
  exact⟨β,⟨this,h.nn⟩,fun b hb=>.inl hb⟩
end
end
section
def noβ:bB5:=fun _=>none
def Enters(P : Program)(g : FuncId): Prop := ∃ fn, P.funcs[g]? = some fn ∧ (fn.name == "runtime.NumGoroutine") = false ∧ fn.body.isSome = true
theorem Enters.run{P:Program}{g:FuncId}(h:Enters P g)(args:Array Value)(w:World):(callFunc g args).run P w = .ok (.enter g args) w:=by
 obtain⟨fn,h1,h2,h3⟩:=h
 have h2' : ¬ fn.name = "runtime.NumGoroutine" := by simpa using h2
 have h3':¬fn.body=none:=by intro h;rw[h]at h3;cases h3
 simp[callFunc,h1,h2',h3']
def bRr:List Mode->List Value->List Value
 |.io _::ms,v::vs=>v::bRr ms vs
 |_::ms,_::vs=>bRr ms vs
 |_,_=>[]
structure bX2(b0:Nat->Prop)(ms:List Mode)(rs:List Sh)(vs:List Value)(bs:List Nat)(w w':World)(r:dens (rs++bGn ms))(v:Value):Prop where
 same:Same (· ∈ bs) w w'
 res:∃b1 b2,(b1++b2).Nodup/\(∀b∈b1++b2,b<w'.heap.size/\(b∈bs\/w.heap.size<=b)) /\
  VR2 noβ [] w' (fun b=>b0 b\/b∈b1++b2) (bR3 rs (bH3 rs (bGn ms) r).1) v b1 /\
  Vs (VR2 noβ [] w' (fun b=>b0 b\/b∈b1++b2)) ((bK1 (bGn ms) (bH3 rs (bGn ms) r).2).map ioOf) (bRr ms vs) b2
def bJu(P:Program)(E:Env)(C:bCg):Prop:=
 ∀g ms rs,bBc E.sg g=some (ms,rs)->∀xs r,C g xs (rs++bGn ms)=some r->Enters P g /\
  ∀(b0:Nat->Prop) (w:World) (vs:List Value) (bs:List Nat),Vs (VR2 noβ [] w (fun b=>b0 b\/b∈bs)) xs vs bs->bs.Nodup->(∀b∈bs,b<w.heap.size/\¬b0 b)->(∀b,b0 b->b<w.heap.size) ->
   Calls P g vs.toArray w fun e w'=>∃v,e = .returned v/\bX2 b0 ms rs vs bs w w' r v
def CloneOk(P:Program)(E:Env):Prop:=
 ∀g e,bBc E.cl g=some e->Enters P g/\∀(bad:Nat->Prop) (w:World) (l:List e.den) (v:Value),Reads w bad e l v->l.length<=LIM ->
  Calls P g #[v] w fun en w'=>∃u bs,en = .returned u/\Same (fun _=>False) w w'/\bs.Nodup/\(∀b∈bs,b<w'.heap.size/\w.heap.size<=b) /\
   ∀bad',(∀b,b<w.heap.size->bad' b->bad b)->newV w' bad' e l u bs
def GrowOk(P:Program)(E:Env):Prop:=
 ∀g e,bBc E.gr g=some e->Enters P g/\∀(w:World) (n:Int),0<=n->n<=(LIM:Int) ->
  Calls P g #[.slice none 0 0,.int .i64 n] w fun en w'=>∃u bs,en = .returned u/\Same (fun _=>False) w w'/\bs.Nodup/\(∀b∈bs,b<w'.heap.size/\w.heap.size<=b) /\
   ∀bad',newV w' bad' e ([]:List e.den) u bs
def cmpArg:Option FuncId->List Value
 |none=>[]
 |some g=>[.func (.func g) #[] #[]]
inductive Two(r:AV->Value->Prop):List AV->List Value->Prop
 |nil:Two r [] []
 |cons {a v as vs}:r a v->Two r as vs->Two r (a::as) (v::vs)
def CalcDo(P:Program)(g:FuncId)(f:List (Nat×Ob)->List AV->Option (Bool×AV)):Prop:=
 ∀(b0:Nat->Prop) (β:bB5) (ob:Obs) (w:World) (av:Nat->Prop),ObR b0 β ob w av->(∀b,b0 b->b<w.heap.size)->∀(xs:List AV) (us:List Value) (r:AV),Two (fun v u=>VR2 β ob w av v u []) xs us->f ob xs=some (true,r) ->
  Calls P g us.toArray w fun e w'=>∃v,e = .returned v/\Same (fun _=>False) w w'/\∀bad',VR2 β ob w' bad' r v []
def cD4(P:Program)(g:FuncId):Xt->Prop
 |.calc f=>CalcDo P g f
 |.inplace τ f c=>(∀l,(f l).length=l.length) /\
   (∀(w:World) (A:Option Addr) (C:Nat),Calls P g (.slice A 0 C::cmpArg c).toArray w fun e w'=>e = .returned (.tuple #[])/\w'=w) /\
   ∀(bad:Nat->Prop) (w:World) (l:List τ.den) (b o c' C:Nat),Row w bad τ l b o c'->l≠[]->l.length<=C->l.length<=LIM ->
    Calls P g (.slice (some ⟨b,o,none⟩) l.length C::cmpArg c).toArray w fun e w'=>e = .returned (.tuple #[])/\Same (· = b) w w'/\∀bad',Row w' bad' τ (f l) b o c'
 |.take τ f=>τ.hasList=false/\f []=[] /\
   (∀(w:World) (A:Option Addr) (C:Nat),Calls P g #[.slice A 0 C] w fun e w'=>e = .returned (.slice A 0 C)/\w'=w) /\
   ∀(bad:Nat->Prop) (w:World) (l:List τ.den) (b o c' C:Nat),Row w bad τ l b o c'->l≠[]->l.length<=C->C<=c'->l.length<=LIM ->
    Calls P g #[.slice (some ⟨b,o,none⟩) l.length C] w fun e w'=>e = .returned (.slice (some ⟨b,o,none⟩) (f l).length C)/\Same (· = b) w w'/\∀bad',Row w' bad' τ (f l) b o C
 |.cut τ=>τ.hasList=false /\
   (∀(w:World) (A:Option Addr) (C:Nat),Calls P g #[.slice A 0 C,.int .i64 0,.int .i64 0] w fun e w'=>e = .returned (.slice A 0 C)/\w'=w) /\
   ∀(bad:Nat->Prop) (w:World) (l:List τ.den) (b o c' C i j:Nat),Row w bad τ l b o c'->l≠[]->l.length<=C->C<=c'->C<=9223372036854775807->l.length<=LIM->i<=j->j<=l.length ->
    Calls P g #[.slice (some ⟨b,o,none⟩) l.length C,.int .i64 i,.int .i64 j] w fun e w'=>e = .returned (.slice (some ⟨b,o,none⟩) (l.take i++l.drop j).length C)/\Same (· = b) w w'/\∀bad',Row w' bad' τ (l.take i++l.drop j) b o C
def ExtOk(P:Program)(E:Env):Prop:=∀g x,bBc E.so g=some x->Enters P g/\cD4 P g x
def HkDo(P:Program)(E:Env)(g:FuncId)(h:HK):Prop:=
 ∀(C:bCg),bJu P E C->∀ms rs,bBc E.sg g=some (ms,rs)->∀xs r,h.run C xs (rs++bGn ms)=some r ->
  ∀(b0:Nat->Prop) (w:World) (vs:List Value) (bs:List Nat),Vs (VR2 noβ [] w (fun b=>b0 b\/b∈bs)) xs vs bs->bs.Nodup->(∀b∈bs,b<w.heap.size/\¬b0 b)->(∀b,b0 b->b<w.heap.size) ->
   Calls P g vs.toArray w fun e w'=>∃v,e = .returned v/\bX2 b0 ms rs vs bs w w' r v
def HkOk(P:Program)(E:Env):Prop:=∀g h,bBc E.hk g=some h->Enters P g/\HkDo P E g h
section
variable {b0:Nat->Prop} {β:bB5} {ob:Obs} {w:World} {f:Nat->List Nat}
theorem owns_of{a c:AV}(hc:c∈cellsOf a)(ho:bPu c=true):bSg a=true:=by
 have hd:∀(τ:Ty) (x:τ.den) (c:AV),c∈bSw τ x->bPu c=false:=by
  intro τ
  induction τ with
  |pair a b iha ihb=>
   intro x c hc
   simp only[bSw,List.mem_append]at hc
   rcases hc with h|h
   .exact iha _ _ h
   .exact ihb _ _ h
  |_=>intro x c hc;simp only[bSw,List.mem_singleton]at hc;subst hc;rfl
 cases a with
 |agg cs=>
  simp only[bSg,List.any_eq_true]
  exact⟨c,hc,by cases c<;>simp_all [bPu,owns0]⟩
 |d τ x=>rw[hd τ x c hc]at ho;cases ho
 |tup vs=>simp[cellsOf]at hc
 |any=>simp[cellsOf]at hc
 |arr n τ l=>simp[cellsOf]at hc
 |_=>
  simp only[cellsOf,List.mem_singleton]at hc
  subst hc
  first|rfl|(simp[bPu]at ho)
theorem vrep_one{τ:Ty}{u:Value}{ds:List Value}(hp:cDd τ=false)(h:Vrep τ u ds):ds=[u]:=by
 cases τ with
 |pair a b=>cases hp
 |_=>exact h
theorem pairUp_sound{bad:Nat->Prop}:∀{cs:List AV} {vs:List Value} {x:(τ:Ty)×τ.den},Vs (VR1 β ob w bad) cs vs []->pairUp cs=some x->enc w bad x.1 x.2 vs:=by
 intro cs
 induction cs with
 |nil=>intro vs x _ h;unfold pairUp at h;cases h
 |cons c r ih=>
  intro vs x hv h
  cases c with
  |d τ v=>
   unfold pairUp at h
   cases hp:cDd τ with
   |true=>rw[hp]at h;cases h
   |false=>
    rw[hp]at h
    generalize hbs:([]:List Nat)=bs at hv
    cases hv with
    |cons h1 h2=>
     rename_i u us b bs'
     obtain⟨e1,e2⟩:=List.append_eq_nil_iff.1 hbs.symm
     subst e1;subst e2
     obtain⟨_,ds,hrep,he⟩:=h1
     have hds:ds=[u]:=vrep_one hp hrep
     subst hds
     simp only[cond_false]at h
     split at h
     .cases h
      cases h2
      exact he
     .simp only[Option.map_eq_some_iff]at h
      obtain⟨y,hy,rfl⟩:=h
      exact⟨[u],us,rfl,he,ih h2 hy⟩
  |_=>unfold pairUp at h;cases h
theorem bZk{bad bad':Nat->Prop}(hO:ObR b0 β ob w bad)(hno:∀b,¬bad' b){key off:Nat}{u:Value}(h:VR0 β ob w bad (.ptr key off) u []):VR0 noβ [] w bad' (cGw ob key off) u []:=by
 obtain⟨_,b,c,cs,hb,hk,rfl⟩:=h
 obtain⟨b',cells,elem,hb',hh,hv⟩:=hO.box key cs hk
 rw[hb]at hb'
 cases hb'
 have hat:∀{x:AV},cs[off]?=some x->∃y,cells[off]?=some y/\VR1 β ob w bad x y []/\At w b off [y]:=by
  intro x hx
  obtain⟨y,h1,h2⟩:=hv.pointwise.2 off x hx
  simp only[Array.getElem?_toList]at h1
  refine⟨y,h1,h2,fun j z hj=>?_⟩
  cases j with
  |zero=>simp at hj;subst hj;rw[cell_of hh];exact h1
  |succ j=>simp at hj
 simp only[cGw,hk]
 split
 .rename_i x hx
  cases hc:(Nat.beq off 0&&Nat.ble 2 cs.length) with
  |false=>rw[hc]at hx;cases hx
  |true=>
   rw[hc]at hx
   rw[Bool.and_eq_true]at hc
   have h0:off=0:=Nat.eq_of_beq_eq_true hc.1
   subst h0
   have he:=pairUp_sound hv hx
   refine⟨rfl,⟨b,0,none⟩,cells.toList,rfl,rfl,hno _,bHk (bad0:=fun _=>False) (Same.refl _ w) (fun _ _ x=>x.elim) (fun b _ h=>(hno b h).elim) he,fun j z hj=>?_⟩
   rw[cell_of hh,Nat.zero_add]
   simpa using hj
 split
 .rename_i τ x hx
  cases hp:cDd τ with
  |true=>rfl
  |false=>
   obtain⟨y,h1,h2,h3⟩:=hat hx
   obtain⟨_,ds,hrep,he⟩:=h2
   have hds:ds=[y]:=by cases τ<;>simp_all [cDd,Vrep]
   subst hds
   exact⟨rfl,_,_,rfl,rfl,hno _,bHk (bad0:=fun _=>False) (Same.refl _ w) (fun _ _ x=>x.elim) (fun b _ h=>(hno b h).elim) he,h3⟩
 .rename_i key' hx
  obtain⟨y,h1,h2,h3⟩:=hat hx
  split
  .rename_i σ l hkey
   obtain⟨_,τ,l',hl',hs⟩:=h2
   rw[hkey]at hl'
   cases hl'
   obtain⟨g1,g2⟩:=bVd (off:=0) hO hkey (by omega) hs
   rw[bP3]at g1
   exact⟨rfl,_,_,rfl,rfl,hno _,(g1.mono (fun b _ h=>(hno b h).elim)).enc fun _ _ _ _ _=>hno _,h3⟩
  .rfl
 .rfl
theorem cC7{bad bad':Nat->Prop}(hO:ObR b0 β ob w bad)(hb:∀b,b<w.heap.size->bad' b->bad b){c:AV}{u:Value}(hown:owns0 c=true->∀b,¬bad' b)(h:VR0 β ob w bad c u []):VR0 noβ [] w bad' (lendC ob c) u []:=by
 have keep:VR0 β ob w bad' c u []:=bHw (bad0:=fun _=>False) (Same.refl _ w) (fun _ _ x=>x.elim) hb (fun _ _ x=>x) h
 cases c with
 |d τ x=>exact keep
 |rop τ x=>exact keep
 |ptr key off=>exact bZk hO (hown rfl) h
 |_=>rfl
theorem arg_sound{R:Type}{E:Env}{bad bad':Nat->Prop}(hO:ObR b0 β ob w bad)(hb:∀b,b<w.heap.size->bad' b->bad b){t:TypeId}{v:AV}{k:AV->Option R}{r:R}(hk:argK E ob t v k=some r){u:Value}{bs:List Nat}
  (h:VR2 β ob w bad v u bs) (hbs:∀b∈bs,¬bad' b) (hown:bSg v=true->∀b,¬bad' b):∃x,k x=some r/\VR2 noβ [] w bad' x u []:=by
 unfold argK at hk
 split at hk
 .rename_i τ hτ
  obtain⟨x,h1,h2,h3⟩:=cAo hO hb hk h hbs fun c hc ho _ b _=>hown (owns_of hc ho) b
  refine⟨_,h1,?_⟩
  cases τ with
  |pair a b=>exact⟨_,h3,bLx h2⟩
  |int κ=>exact⟨rfl,_,h3,h2⟩
  |bool=>exact⟨rfl,_,h3,h2⟩
  |list e=>exact⟨rfl,_,h3,h2⟩
 .have keep:VR2 β ob w bad' v u bs:=h.weaken hb
  split at hk
  .rename_i g caps
   obtain⟨rfl,vs,rfl,hv⟩:=h
   refine⟨_,hk,rfl,vs,rfl,cAm hv fun a u ha hr=>cC7 hO hb (fun ho=>hown ?_) hr⟩
   simp only[bSg,List.any_eq_true]
   exact⟨a,ha,ho⟩
  .rename_i key off
   have h':=h
   obtain⟨rfl,_⟩:=h
   exact⟨_,hk,vr12 (vr01 (bZk hO (hown rfl) h'))⟩
  .obtain⟨rfl,h2⟩:=keep
   exact⟨_,hk,rfl,h2⟩
  .split at hk
   .obtain⟨_,hk1⟩:=bCj hk
    obtain⟨rfl,h2⟩:=keep
    exact⟨_,hk1,rfl,h2⟩
   .cases hk
  .cases hk
theorem args_sound{R:Type}{E:Env}{bad bad':Nat->Prop}(hO:ObR b0 β ob w bad)(hb:∀b,b<w.heap.size->bad' b->bad b):∀{ts:List TypeId} {vs:List AV} {us:List Value} {k:List AV->Option R} {r:R},
  cFb E ob ts vs k=some r->Two (fun v u=>∃bs,VR2 β ob w bad v u bs/\(∀b∈bs,¬bad' b)/\(bSg v=true->∀b,¬bad' b)) vs us->∃xs,k xs=some r/\Vs (VR2 noβ [] w bad') xs us []:=by
 intro ts
 induction ts with
 |nil=>
  intro vs us k r hk h2
  cases h2 with
  |nil=>exact⟨[],hk,.nil⟩
  |cons _ _=>simp[cFb]at hk
 |cons t ts ih=>
  intro vs us k r hk h2
  cases h2 with
  |nil=>simp[cFb]at hk
  |cons h3 h4=>
   obtain⟨bs,g1,g2,g3⟩:=h3
   simp only[cFb]at hk
   obtain⟨x,hk1,hx⟩:=arg_sound hO hb hk g1 g2 g3
   obtain⟨xs,hk2,hxs⟩:=ih hk1 h4
   exact⟨x::xs,hk2,.cons (b:=[]) hx hxs⟩
def cBf:AV->Bool
 |.d τ _=>!τ.hasList
 |.new τ _=>!τ.hasList
 |_=>false
theorem bXu:∀{τ:Ty} {x:τ.den},τ.hasList=false->(bSw τ x).all cBf=true
 |.pair a b,x,h=>by
  simp only[Ty.hasList,Bool.or_eq_false_iff]at h
  simp only[bSw,List.all_append,bXu h.1,bXu h.2,Bool.and_self]
 |.int _,x,_=>rfl
 |.bool,x,_=>rfl
 |.list e,x,h=>by simp[Ty.hasList]at h
theorem cAq:∀{s:Sh} {x:s.den},s.hasList=false->(shAV s x).all cBf=true
 |.d τ,x,h=>bXu h
 |.own τ,x,h=>by simpa[shAV,cBf,Sh.hasList]using h
 |.agg a b,x,h=>by
  simp only[Sh.hasList,Bool.or_eq_false_iff]at h
  simp only[shAV,List.all_append,cAq h.1,cAq h.2,Bool.and_self]
theorem bQm{bad bad':Nat->Prop}{w':World}:∀{τ:Ty} {x:τ.den} {cs:List Value},τ.hasList=false->enc w bad τ x cs->enc w' bad' τ x cs
 |.pair a b,x,cs,hl,h=>by
  simp only[Ty.hasList,Bool.or_eq_false_iff]at hl
  obtain⟨c1,c2,rfl,h1,h2⟩:=h
  exact⟨c1,c2,rfl,bQm hl.1 h1,bQm hl.2 h2⟩
 |.int _,x,cs,_,h=>h
 |.bool,x,cs,_,h=>h
 |.list e,x,cs,hl,h=>by simp[Ty.hasList]at hl
theorem cFn{bad bad':Nat->Prop}{τ:Ty}{l:List τ.den}(hl:τ.hasList=false){v:Value}{bs:List Nat}(h:newV w bad τ l v bs):newV w bad' τ l v bs:=by
 rcases h with h|⟨b,o,c,hb,hv,cells,elem,hh,h1,h2,h3⟩
 .exact .inl h
 .exact .inr ⟨b,o,c,hb,hv,cells,elem,hh,h1,h2,fun i x hx=>let ⟨ds,he,hd⟩:=h3 i x hx;⟨ds,bQm hl he,hd⟩⟩
theorem vr0_plain{bad bad':Nat->Prop}{β':bB5}{ob':Obs}{a:AV}(hp:cBf a=true){v:Value}{bs:List Nat}(h:VR0 β ob w bad a v bs):VR0 β' ob' w bad' a v bs:=by
 cases a with
 |d τ x=>
  obtain⟨rfl,cs,hv,he⟩:=h
  exact⟨rfl,cs,hv,bQm (by simpa[cBf]using hp) he⟩
 |new τ l=>exact cFn (by simpa[cBf]using hp) h
 |_=>simp[cBf]at hp
theorem vs_plain{bad bad':Nat->Prop}{β':bB5}{ob':Obs}{as:List AV}{vs:List Value}{bs:List Nat}(h:Vs (VR0 β ob w bad) as vs bs)(hp:as.all cBf=true):Vs (VR0 β' ob' w bad') as vs bs:=
 h.imp' fun a v b ha _ hr=>vr0_plain (List.all_eq_true.1 hp a ha) hr
theorem bYx{bad bad':Nat->Prop}{β':bB5}{ob':Obs}{s:Sh}{x:s.den}(hs:s.hasList=false){v:Value}{bs:List Nat}(h:VR1 β ob w bad (bVz s x) v bs):VR1 β' ob' w bad' (bVz s x) v bs:=by
 cases s with
 |d τ=>
  obtain⟨rfl,cs,hv,he⟩:=h
  exact⟨rfl,cs,hv,bQm hs he⟩
 |own τ=>exact cFn hs h
 |agg a b=>
  obtain⟨vs,rfl,hv⟩:=h
  exact⟨vs,rfl,vs_plain hv (by
   have:=cAq (s:=.agg a b) (x:=x) hs
   simpa[shAV]using this)⟩
theorem cBc{bad bad':Nat->Prop}{β':bB5}{ob':Obs}:∀{s:List Sh} {x:dens s},s.any Sh.hasList=false->∀{vs:List Value} {bs:List Nat},Vs (VR1 β ob w bad) (bK1 s x) vs bs->Vs (VR1 β' ob' w bad') (bK1 s x) vs bs
 |[],x,_,vs,bs,h=>by cases h;exact .nil
 |[s],x,hs,vs,bs,h=>by
  simp only[List.any_cons,List.any_nil,Bool.or_false]at hs
  obtain⟨v,vr,b,br,rfl,rfl,h1,h2⟩:=h.split
  cases h2
  exact .cons (bYx hs h1) .nil
 |s::t::r,x,hs,vs,bs,h=>by
  simp only[List.any_cons,Bool.or_eq_false_iff]at hs
  obtain⟨v,vr,b,br,rfl,rfl,h1,h2⟩:=Vs.split (a:=bVz s x.1) (as:=bK1 (t::r) x.2) h
  exact .cons (bYx hs.1 h1) (cBc (s:=t::r) (x:=x.2) (by simp[hs.2]) h2)
theorem resAV_plain{bad bad':Nat->Prop}{β':bB5}{ob':Obs}{s:List Sh}{x:dens s}(hs:s.any Sh.hasList=false){v:Value}{bs:List Nat}(h:VR2 β ob w bad (bR3 s x) v bs):VR2 β' ob' w bad' (bR3 s x) v bs:=by
 match s,x,hs,h with
 |[],x,hs,h=>
  obtain⟨vs,rfl,hv⟩:=h
  cases hv
  exact⟨[],rfl,.nil⟩
 |[s],x,hs,h=>
  simp only[List.any_cons,List.any_nil,Bool.or_false]at hs
  have h1:VR1 β ob w bad (bVz s x) v bs:=vr21 (a:=bVz s x) (fun vs=>by cases s<;>simp[bVz]) h
  exact vr12 (bYx hs h1)
 |s::t::r,x,hs,h=>
  have he:bR3 (s::t::r) x = .tup (bK1 (s::t::r) x):=by
   cases r<;>rfl
  rw[he]at h ⊢
  obtain⟨vs,rfl,hv⟩:=h
  exact⟨vs,rfl,cBc (s:=s::t::r) hs hv⟩
theorem ext_no(β:bB5)(ob:Obs):Ext noβ [] β ob:=⟨fun k x h=>by cases h⟩
theorem ioShs_ro:∀{ms:List Mode},ms.all Mode.isRo=true->bGn ms=[]
 |[],_=>rfl
 |.ro::ms,h=>by simp only[bGn];exact ioShs_ro (by simpa[Mode.isRo]using h)
 |.mv _::ms,h=>by simp[Mode.isRo]at h
 |.io _::ms,h=>by simp[Mode.isRo]at h
theorem argsTwo {sl : List AV} {a : Act} (hS : SR b0 β ob w sl a.tmps f) {used : List Nat} {bad' : Nat → Prop} (hu : ∀ b, bad' b → badU b0 β ob f used b) (xs : List Operand) (hx : ∀ x ∈ xs, ∀ t, x = .tmp t → t ∈ used) (hown : (xs.map (bCm sl)).any bSg = true → ∀ b, ¬ bad' b) :
    Two (fun v u => ∃ bs, VR2 β ob w (Av b0 β ob f) v u bs ∧ (∀ b ∈ bs, ¬ bad' b) ∧ (bSg v = true → ∀ b, ¬ bad' b)) (xs.map (bCm sl)) (xs.map a.eval) := by
  induction xs with
  | nil => exact .nil
  | cons x xs ih =>
    obtain ⟨bs, h1, h2, h3, _⟩ := opnd hS x
    refine .cons ⟨bs, h1, fun b hb hbad => ?_, fun ho => hown (by simp [ho])⟩ (ih (fun y hy => hx y (by simp [hy])) fun ho => hown (by rw [List.map_cons, List.any_cons, ho, Bool.or_true]))
    obtain ⟨t, ht, hbt⟩ := h3 b hb
    exact badU_used hS (hx x (by simp) t ht) hbt (hu b hbad)
theorem callK_sound {P : Program} {R : Type} {E : Env} (hE : bQs P E) {C : bCg} (hC : bJu P E C) (hCl : CloneOk P E) (hGr : GrowOk P E) {sl : List AV} {a : Act} (hS : SR b0 β ob w sl a.tmps f) {o : Oper} {fn : Operand} {args : Array Operand} {ts : Array TypeId} (ho : o.op = .call ⟨.value fn, args, ts⟩) {k : AV → Option R} {r : R}
    (hk : cA5 E C ob (bCm sl fn) ts.toList (args.toList.map (bCm sl)) k = some r) :
    ∃ av, k av = some r ∧ ∀ next Q, (∀ v w' bs, Done b0 β ob f (bFv o) w w' av v bs → next (a.put o.dst v) w') → o.wp P a w next Q := by
  have hmem : ∀ x ∈ args.toList, ∀ t, x = .tmp t → t ∈ bFv o := fun x hx t ht => bTg.2 (by
    rw [ho, ← ht]; have : x ∈ args := by simpa using hx
    simp [Op.operands, Call.operands, this])
  have enter : ∀ {g : FuncId} {caps : List AV} {cv : List Value}, a.eval fn = .func (.func g) #[] cv.toArray → Enters P g → (execOp a.eval o).run P w = .ok (.enter g (args.toList.map a.eval ++ cv).toArray) w := by
    intro g caps cv hv hent
    have hr := hent.run (args.toList.map a.eval ++ cv).toArray w
    have he : (Array.map a.eval args ++ cv.toArray) = (args.toList.map a.eval ++ cv).toArray := by
      apply Array.ext'; simp
    unfold execOp
    rw [ho]
    simp only [resolve, hv, Deferred.ofValue, Sem.run_bind, Sem.run_pure, Result.andThen_ok, invoke, Array.empty_append, he, hr]
  unfold cA5 at hk
  split at hk
  · rename_i g caps hfn
    obtain ⟨bf, hf1, _⟩ := opnd hS fn
    rw [hfn] at hf1
    obtain ⟨hbf, cv, hfv, hcv⟩ := hf1
    split at hk
    · rename_i e hcl
      split at hk
      · rename_i x hargs
        obtain ⟨y, hy, hyx⟩ : ∃ y, args.toList = [y] ∧ bCm sl y = x := by
          match h : args.toList, hargs with
          | [y], h2 => exact ⟨y, rfl, by simpa using h2⟩
          | [], h2 => simp at h2
          | _ :: _ :: _, h2 => simp at h2
        cases hcv
        obtain ⟨bs, g1, g2, g3⟩ := opnd' hS (o := o) (x := y) (by rw [ho]; have : y ∈ args := by rw [← Array.mem_toList_iff, hy]; simp
                                                                  simp [Op.operands, Call.operands, this])
        rw [hyx] at g1
        obtain ⟨l, hk1, hr, _⟩ := bRm hk hS.obs g1
        obtain ⟨l', hl', hk2⟩ := bind_some hk1
        obtain ⟨hll, hlim⟩ := cAf hl'
        rw [List.nil_append] at hll
        subst hll
        obtain ⟨hent, hcall⟩ := hCl g e hcl
        refine ⟨_, hk2, fun next Q hn => ?_⟩
        have hrun := enter (caps := []) hfv hent
        rw [hy] at hrun
        simp only [Oper.wp, hrun, Oper.upon]
        refine (hcall _ w l' _ hr (by simpa using hlim)).mono fun en w' h => ?_
        obtain ⟨u, b1, rfl, hsame, hnd, hfr, hnew⟩ := h
        refine hn u w' b1 ⟨hsame.mono fun _ _ x => x.elim, ?_, hnd, fun b hb => ⟨(hfr b hb).1, .inr (hfr b hb).2⟩⟩
        refine hnew _ fun b hlt hc => ?_
        rcases hc with h | h | ⟨i, _, h⟩ | h
        · exact .inl h
        · exact .inr (.inl h)
        · exact .inr (.inr ⟨i, h⟩)
        · have := (hfr b h).2; omega
      · cases hk
    · rename_i hcl
      split at hk
      · rename_i e hgr
        split at hk
        · rename_i x hargs
          obtain ⟨y0, y, hy, hy0, hyx⟩ : ∃ y0 y, args.toList = [y0, y] ∧ bCm sl y0 = .nil ∧ bCm sl y = x := by
            match h : args.toList, hargs with
            | [y0, y], h2 => exact ⟨y0, y, rfl, by simpa using h2⟩
            | [], h2 => simp at h2
            | [_], h2 => simp at h2
            | _ :: _ :: _ :: _, h2 => simp at h2
          cases hcv
          obtain ⟨bs0, q1, _⟩ := opnd hS y0
          obtain ⟨bs, g1, _⟩ := opnd hS y
          rw [hy0] at q1
          rw [hyx] at g1
          obtain ⟨_, hv0⟩ := q1
          cases x with
          | d τ n =>
            cases τ with
            | int κ =>
              simp only [intK] at hk
              cases κ with
              | i64 =>
                simp only at hk
                cases hc : (decide (0 ≤ n) && decide (n ≤ (LIM : Int))) with
                | false => rw [hc] at hk; cases hk
                | true =>
                  rw [hc] at hk
                  simp only [Bool.and_eq_true, decide_eq_true_eq] at hc
                  obtain ⟨_, cs, hv1, he1⟩ := g1
                  have hvn : a.eval y = .int .i64 n := by
                    cases hv1
                    exact by simpa [enc] using he1
                  obtain ⟨hent, hcall⟩ := hGr g e hgr
                  refine ⟨_, hk, fun next Q hn => ?_⟩
                  have hrun := enter (caps := []) hfv hent
                  rw [hy] at hrun
                  simp only [List.map_cons, List.map_nil, hv0, hvn, List.append_nil] at hrun
                  simp only [Oper.wp, hrun, Oper.upon]
                  refine (hcall w n hc.1 hc.2).mono fun en w' h => ?_
                  obtain ⟨u, b1, rfl, hsame, hnd, hfr, hnew⟩ := h
                  exact hn u w' b1 ⟨hsame.mono fun _ _ x => x.elim, hnew _, hnd, fun b hb => ⟨(hfr b hb).1, .inr (hfr b hb).2⟩⟩
              | _ => cases hk
            | _ => cases hk
          | _ => cases hk
        · cases hk
      rename_i hgr
      split at hk
      · rename_i ms s hsg
        cases hg : (s.any Sh.hasList && ((args.toList.map (bCm sl)).any bSg || caps.any owns0)) || !ms.all Mode.isRo with
        | true => rw [hg] at hk; cases hk
        | false =>
          rw [hg] at hk
          simp only [cond_false] at hk
          simp only [Bool.or_eq_false_iff, Bool.not_eq_false', Bool.and_eq_false_iff] at hg
          obtain ⟨hg, hro⟩ := hg
          let bad' : Nat → Prop := fun b => s.any Sh.hasList = true ∧ badU b0 β ob f (bFv o) b
          have hbu : ∀ b, bad' b → badU b0 β ob f (bFv o) b := fun b h => h.2
          have hba : ∀ b, b < w.heap.size → bad' b → Av b0 β ob f b := fun b _ h => cD1 h.2
          have two := argsTwo hS hbu args.toList hmem (fun ho b hb => by
            rcases hg with h | h
            · have := hb.1; rw [h] at this; cases this
            · rw [ho] at h; exact absurd h.1 (by simp))
          obtain ⟨xs, hk1, hxs⟩ := args_sound hS.obs hba hk two
          obtain ⟨z, hz, hk2⟩ := bind_some hk1
          obtain ⟨hent, hcall⟩ := hC g ms s hsg _ _ hz
          refine ⟨_, hk2, fun next Q hn => ?_⟩
          have hcaps : Vs (VR2 noβ [] w bad') (caps.map (lendC ob)) cv [] := (cAm hcv fun c u hc hr => cC7 (bad' := bad') hS.obs hba (fun ho b hb => by
            rcases hg with h | h
            · have := hb.1; rw [h] at this; cases this
            · have := List.any_eq_false.1 h.2 c hc; exact this ho) hr).imp fun a v b _ hr => vr12 (vr01 hr)
          have hall := hxs.app hcaps
          rw [List.append_nil] at hall
          have hcalls := hcall bad' w _ [] (hall.imp fun a v b _ hr => hr.weaken fun c _ hc => by
            rcases hc with h | h
            · exact h
            · cases h) List.nodup_nil (by simp) (fun b hb => by
              rcases hb.2 with h | h | ⟨i, _, h⟩
              · exact hS.b0lt b h
              · exact (hS.obs.lt b h).1
              · exact (hS.fresh i b h).1)
          simp only [Oper.wp, enter (caps := caps) hfv hent, Oper.upon]
          refine hcalls.mono fun en w' h => ?_
          obtain ⟨v, rfl, hres⟩ := h
          obtain ⟨b1, b2, hnd, hfr, hv, hio⟩ := hres.res
          refine hn v w' b1 ⟨hres.same.mono (fun b _ hb => by cases hb), ?_, (List.nodup_append.1 hnd).1, fun b hb => ?_⟩
          · cases hl : s.any Sh.hasList with
            | false => exact resAV_plain hl hv
            | true =>
              refine ((hv.ext (ext_no β ob)).weaken fun b _ hb => ?_)
              rcases hb with h | h | h | h
              · exact .inl ⟨hl, .inl h⟩
              · exact .inl ⟨hl, .inr (.inl h)⟩
              · exact .inl ⟨hl, .inr (.inr h)⟩
              · exact .inr (by simp [h])
          · obtain ⟨h1, h2⟩ := hfr b (by simp [hb])
            exact ⟨h1, .inr (h2.resolve_left (by simp))⟩
      · cases hk
  · cases hk
end
end
section
section
variable {b0:Nat->Prop} {β:bB5} {ob:Obs} {w:World}
theorem SR.weakB{b0':Nat->Prop}{sl:List AV}{tmps:Array Value}(h:SR b0' β ob w sl tmps F0)(hb:∀b,b0 b->b0' b):SR b0 β ob w sl tmps F0:=by
 have hav:∀b,b<w.heap.size->Av b0 β ob F0 b->Av b0' β ob F0 b:=fun b _ h=>by
  rcases bXz.1 h with h|h
  .exact .inl (hb b h)
  .exact .inr (.inl h)
 have hO:=h.obs.mono (bad0:=fun _=>False) (Same.refl _ w) (fun _ _ x=>x.elim) hav (fun _ _ x=>x)
 exact⟨⟨hO.row,hO.box,hO.apart,fun b hb'=>⟨(h.obs.lt b hb').1,fun h0=>(h.obs.lt b hb').2 (hb b h0)⟩⟩,fun i=>(h.slot i).weaken hav,h.size,(fun i b hb=>by cases hb),fun i=>List.nodup_nil,(fun i j b hi=>by cases hi),fun b h0=>h.b0lt b (hb b h0)⟩
theorem SR.world{sl:List AV}{tmps:Array Value}{w':World}{bad0:Nat->Prop}(h:SR b0 β ob w sl tmps F0)(hs:Same bad0 w w')(hb:∀b,b<w.heap.size->bad0 b->b0 b):SR b0 β ob w' sl tmps F0:=by
 have h0:∀b,b<w.heap.size->bad0 b->Av b0 β ob F0 b:=fun b hlt h=>.inl (hb b hlt h)
 exact⟨h.obs.mono hs h0 (fun _ _ h=>h) (fun b ho hbad=>(h.obs.lt b ho).2 (hb b (h.obs.lt b ho).1 hbad)),fun i=>bJd hs h0 (fun _ _ h=>h) (fun b hb=>by cases hb) (h.slot i),h.size,(fun i b hb=>by cases hb),fun i=>List.nodup_nil,(fun i j b hi=>by cases hi),
  fun b h0=>Nat.lt_of_lt_of_le (h.b0lt b h0) hs.1⟩
theorem SR.putL{sl:List AV}{tmps:Array Value}{av:AV}{v:Value}{bs:List Nat}{key:Nat}(h:SR (fun b=>b0 b\/b∈bs) β ob w sl tmps F0)(hl:bR1 b0 β ob w bs)(hrel:VR2 β ob w (fun b=>b0 b\/Own β ob b\/b∈bs) av v bs)(t:Nat):
  ∃β',SR b0 β' (keyed key ob av).2 w (setL sl t (keyed key ob av).1) (tmps.setIfInBounds t v) F0/\bFb (keyed key ob av).1=false /\
   (∀b,Own β' (keyed key ob av).2 b->Own β ob b\/b∈bs):=by
 have hsub:∀b,b<w.heap.size->(b0 b\/Own β ob b\/b∈bs)->Av (fun b=>b0 b\/b∈bs) β ob F0 b:=by
  intro b _ hb
  rcases hb with h|h|h
  .exact .inl (.inl h)
  .exact .inr (.inl h)
  .exact .inl (.inr h)
 have hO0:=h.obs.mono (bad0:=fun _=>False) (Same.refl _ w) (fun _ _ x=>x.elim) hsub (fun _ _ x=>x)
 have hO:ObR b0 β ob w (fun b=>b0 b\/Own β ob b\/b∈bs):=⟨hO0.row,hO0.box,hO0.apart,fun b hb=>⟨(h.obs.lt b hb).1,fun h0=>(h.obs.lt b hb).2 (.inl h0)⟩⟩
 obtain⟨β',n1,g1,f1⟩:=bVi (key:=key) hO hl hrel
 have hav:∀b,b<w.heap.size->Av b0 β' (keyed key ob av).2 F0 b->(b0 b\/Own β ob b\/b∈bs):=by
  intro b _ hb
  rcases bXz.1 hb with h1|h1
  .exact .inl h1
  .rcases n1.own b h1 with h2|h2
   .exact .inr (.inl h2)
   .exact .inr (.inr h2)
 refine⟨β',⟨n1.obs.mono (bad0:=fun _=>False) (Same.refl _ w) (fun _ _ x=>x.elim) hav (fun _ _ x=>x),fun i=>?_,by rw[bM7];simpa using h.size,(fun i b hb=>by cases hb),fun i=>List.nodup_nil,(fun i j b hi=>by cases hi),
  fun b hb=>h.b0lt b (.inl hb)⟩,f1,fun b hb=>n1.own b hb⟩
 rw[bMw]
 by_cases hi:i=t/\i<sl.length
 .rw[if_pos hi]
  have hlt:t<tmps.size:=by rw[h.size];exact hi.1▸hi.2
  have:(tmps.setIfInBounds t v).getD i undef=v:=by rw[hi.1];simp[hlt]
  rw[this]
  exact g1.weaken hav
 .rw[if_neg hi]
  have:(tmps.setIfInBounds t v).getD i undef=tmps.getD i undef:=by
   by_cases hit:t=i
   .subst hit
    have:¬t<tmps.size:=by rw[h.size];exact fun h'=>hi ⟨rfl,h'⟩
    simp[Array.setIfInBounds,this]
   .simp[Array.getElem?_setIfInBounds_ne hit]
  rw[this]
  exact(((h.slot i).weaken hsub).ext n1.ext).weaken hav
def Alike:Ob->Ob->Prop
 |.row τ l,.row σ m=>σ=τ/\m.length=l.length
 |.box cs,.box ds=>ds.length=cs.length
 |_,_=>False
theorem bTn{key k:Nat}{x:Ob}:∀{l:Obs},(∃y,bBc l key=some y)->bBc (setN l key x) k=if k=key then some x else bBc l k
 |[],h=>by obtain⟨y,h⟩:=h;simp[bBc]at h
 |(i,y)::r,h=>by
  simp only[setN]
  cases hb:Nat.beq i key with
  |true=>
   have:=Nat.eq_of_beq_eq_true hb
   subst this
   simp only[cond_true]
   rw[bC2,bC2]
   by_cases hk:k=i
   .simp[hk]
   .simp[hk,Ne.symm hk]
  |false=>
   have hne:=bKn hb
   simp only[cond_false]
   rw[bC2,if_neg hne]at h
   rw[bC2,bC2,bTn h]
   by_cases hk:k=key
   .subst hk;simp[hne]
   .by_cases hik:i=k
    .simp[hik,hk]
    .simp[hik,hk]
theorem VR0.alike{bad:Nat->Prop}{key:Nat}{x x':Ob}(hk:bBc ob key=some x)(ha:Alike x x'){a:AV}{v:Value}{bs:List Nat}(h:VR0 β ob w bad a v bs):VR0 β (setN ob key x') w bad a v bs:=by
 have hl:=fun k=>bTn (key:=key) (k:=k) (x:=x') ⟨x,hk⟩
 have row:∀{k τ l},bBc ob k=some (.row τ l)->∃l':List τ.den,bBc (setN ob key x') k=some (.row τ l')/\l'.length=l.length:=by
  intro k τ l h
  rw[hl k]
  by_cases he:k=key
  .subst he
   rw[h]at hk
   cases hk
   cases x' with
   |row σ m=>obtain⟨rfl,hm⟩:=ha;exact⟨m,by simp,hm⟩
   |box cs=>exact ha.elim
  .rw[if_neg he];exact⟨l,h,rfl⟩
 have box:∀{k cs},bBc ob k=some (.box cs)->∃cs',bBc (setN ob key x') k=some (.box cs'):=by
  intro k cs h
  rw[hl k]
  by_cases he:k=key
  .subst he
   rw[h]at hk
   cases hk
   cases x' with
   |row σ m=>exact ha.elim
   |box ds=>exact⟨ds,by simp⟩
  .rw[if_neg he];exact⟨cs,h⟩
 cases a with
 |ow key=>obtain⟨h1,τ,l,h2,hs⟩:=h;obtain⟨l',g1,g2⟩:=row h2;exact⟨h1,τ,l',g1,by rw[g2];exact hs⟩
 |own key off len=>obtain⟨h1,τ,l,h2,hol,hs⟩:=h;obtain⟨l',g1,g2⟩:=row h2;exact⟨h1,τ,l',g1,by rw[g2];exact hol,hs⟩
 |ptr key off=>obtain⟨h1,b,c,cs,h2,h3,hv⟩:=h;obtain⟨cs',g1⟩:=box h3;exact⟨h1,b,c,cs',h2,g1,hv⟩
 |ap key n=>obtain⟨h1,τ,l,b,c,h2,hn,h3,hv⟩:=h;obtain⟨l',g1,g2⟩:=row h2;exact⟨h1,τ,l',b,c,g1,by rw[g2];exact hn,h3,hv⟩
 |rptr key j off=>obtain⟨h1,τ,l,b,o,c,h2,h3,hv⟩:=h;obtain⟨l',g1,_⟩:=row h2;exact⟨h1,τ,l',b,o,c,g1,h3,hv⟩
 |_=>exact h
theorem VR1.alike{bad:Nat->Prop}{key:Nat}{x x':Ob}(hk:bBc ob key=some x)(ha:Alike x x'){a:AV}{v:Value}{bs:List Nat}(h:VR1 β ob w bad a v bs):VR1 β (setN ob key x') w bad a v bs:=by
 have lift:∀{cs:List AV} {vs:List Value} {bs':List Nat},Vs (VR0 β ob w bad) cs vs bs'->Vs (VR0 β (setN ob key x') w bad) cs vs bs':=fun hv=>hv.imp fun a v b _ hr=>hr.alike hk ha
 cases a with
 |agg cs=>obtain⟨vs,rfl,hv⟩:=h;exact⟨vs,rfl,lift hv⟩
 |nbox cs=>obtain⟨b,cells,elem,bs',rfl,rfl,hh,hv⟩:=h;exact⟨b,cells,elem,bs',rfl,rfl,hh,lift hv⟩
 |fn g caps=>obtain⟨rfl,vs,rfl,hv⟩:=h;exact⟨rfl,vs,rfl,lift hv⟩
 |tup vs=>exact h.elim
 |ow key=>exact VR0.alike (w:=w) (bad:=bad) (a:=.ow key) hk ha h
 |own key off len=>exact VR0.alike (w:=w) (bad:=bad) (a:=.own key off len) hk ha h
 |ptr key off=>exact VR0.alike (w:=w) (bad:=bad) (a:=.ptr key off) hk ha h
 |ap key n=>exact VR0.alike (w:=w) (bad:=bad) (a:=.ap key n) hk ha h
 |rptr key j off=>exact VR0.alike (w:=w) (bad:=bad) (a:=.rptr key j off) hk ha h
 |_=>exact h
theorem VR2.alike{bad:Nat->Prop}{key:Nat}{x x':Ob}(hk:bBc ob key=some x)(ha:Alike x x'){a:AV}{v:Value}{bs:List Nat}(h:VR2 β ob w bad a v bs):VR2 β (setN ob key x') w bad a v bs:=by
 cases a with
 |tup as=>obtain⟨vs,rfl,hv⟩:=h;exact⟨vs,rfl,hv.imp fun a v b _ hr=>hr.alike hk ha⟩
 |_=>exact vr12 (VR1.alike hk ha (vr21 (by simp) h))
theorem bMj{key:Nat}{x x':Ob}(hk:bBc ob key=some x){b:Nat}:Own β (setN ob key x') b↔Own β ob b:=by
 have hl:=fun k=>bTn (key:=key) (k:=k) (x:=x') ⟨x,hk⟩
 constructor
 .rintro⟨k,y,o,c,h1,h2⟩
  rw[hl k]at h1
  split at h1
  .rename_i he;subst he;exact⟨k,x,o,c,hk,h2⟩
  .exact⟨k,y,o,c,h1,h2⟩
 .rintro⟨k,y,o,c,h1,h2⟩
  by_cases he:k=key
  .subst he;exact⟨k,x',o,c,by rw[hl k,if_pos rfl],h2⟩
  .exact⟨k,y,o,c,by rw[hl k,if_neg he];exact h1,h2⟩
theorem SR.write{sl:List AV}{tmps:Array Value}(h:SR b0 β ob w sl tmps F0){key b o c:Nat}{x x':Ob}{w':World}(hk:bBc ob key=some x)(hb:β key=some (b,o,c))(ha:Alike x x')(hs:Same (· = b) w w')
  (hrow:∀τ l,x' = .row τ l->Row w' (Av b0 β ob F0) τ l b o c)
  (hbox:∀cs,x' = .box cs->o=0/\c=cs.length/\∃cells elem,w'.heap[b]?=some (.cells cells elem (0,0))/\Vs (VR1 β ob w' (Av b0 β ob F0)) cs cells.toList []) :
  SR b0 β (setN ob key x') w' sl tmps F0:=by
 have hl:=fun k=>bTn (key:=key) (k:=k) (x:=x') ⟨x,hk⟩
 have hob:Own β ob b:=⟨key,x,o,c,hk,hb⟩
 have h0:∀y,y<w.heap.size->y=b->Av b0 β ob F0 y:=fun y _ he=>he ▸ .inr (.inl hob)
 have hav:∀y,y<w.heap.size->Av b0 β (setN ob key x') F0 y->Av b0 β ob F0 y:=by
  intro y _ hy
  rcases bXz.1 hy with h|h
  .exact .inl h
  .exact .inr (.inl ((bMj hk).1 h))
 have hav':∀y,y<w'.heap.size->Av b0 β (setN ob key x') F0 y->Av b0 β ob F0 y:=by
  intro y _ hy
  rcases bXz.1 hy with h|h
  .exact .inl h
  .exact .inr (.inl ((bMj hk).1 h))
 refine⟨⟨fun k τ l hk'=>?_,fun k cs hk'=>?_,fun k1 k2 x1 x2 b' o1 c1 o2 c2 h1 h2 h3 h4=>?_,fun b' hb'=>?_⟩,fun i=>?_,h.size,(fun i b hb=>by cases hb),fun i=>List.nodup_nil,(fun i j b hi=>by cases hi),fun y hy=>Nat.lt_of_lt_of_le (h.b0lt y hy) hs.1⟩
 .rw[hl k]at hk'
  split at hk'
  .rename_i he
   subst he
   exact .inr ⟨b,o,c,hb,(hrow τ l (Option.some.inj hk')).sameBlock hav'⟩
  .rename_i hne
   rcases h.obs.row k τ l hk' with h1|⟨b',o',c',hb',hr⟩
   .exact .inl h1
   .refine .inr ⟨b',o',c',hb',hr.mono hs h0 hav fun he=>?_⟩
    subst he
    exact hne (h.obs.apart _ _ _ _ _ _ _ _ _ hk' hk hb' hb)
 .rw[hl k]at hk'
  split at hk'
  .rename_i he
   subst he
   obtain⟨ho,hc,cells,elem,hh,hv⟩:=hbox cs (Option.some.inj hk')
   subst ho
   subst hc
   exact⟨b,cells,elem,hb,hh,hv.imp fun a v b _ hr=>(bGk (bad0:=fun _=>False) (Same.refl _ w') (fun _ _ x=>x.elim) hav' (fun _ _ x=>x) hr).alike hk ha⟩
  .rename_i hne
   obtain⟨b',cells,elem,hb',hh,hv⟩:=h.obs.box k cs hk'
   have hbb:b'≠b:=fun he=>by subst he;exact hne (h.obs.apart _ _ _ _ _ _ _ _ _ hk' hk hb' hb)
   have hlt:=(h.obs.lt b' ⟨k,_,_,_,hk',hb'⟩).1
   refine⟨b',cells,elem,hb',by rw[hs.2 b' hlt hbb];exact hh,hv.imp fun a v bs hbs hr=>(bGk hs h0 hav (fun y hy=>by have:=hbs y hy;cases this) hr).alike hk ha⟩
 .have old:∀{k y},bBc (setN ob key x') k=some y->∃z,bBc ob k=some z:=by
   intro k y hy
   rw[hl k]at hy
   split at hy
   .rename_i he;subst he;exact⟨x,hk⟩
   .exact⟨y,hy⟩
  obtain⟨z1,e1⟩:=old h1
  obtain⟨z2,e2⟩:=old h2
  exact h.obs.apart _ _ _ _ _ _ _ _ _ e1 e2 h3 h4
 .obtain⟨h1,h2⟩:=h.obs.lt b' ((bMj hk).1 hb')
  exact⟨Nat.lt_of_lt_of_le h1 hs.1,h2⟩
 .exact(bJd hs h0 hav (fun y hy=>by cases hy) (h.slot i)).alike hk ha
theorem take_part{A:Type}{c1 c2 ds:List A}{o:Nat}(ho:o+ds.length<=c1.length):(c1++c2).take o++ds++(c1++c2).drop (o+ds.length)=(c1.take o++ds++c1.drop (o+ds.length))++c2:=by
 rw[List.take_append_of_le_length (by omega),List.drop_append_of_le_length (by omega)]
 simp
theorem take_part2{A:Type}{c1 c2 ds:List A}{o:Nat}(ho:c1.length<=o):(c1++c2).take o++ds++(c1++c2).drop (o+ds.length)=c1++(c2.take (o-c1.length)++ds++c2.drop (o-c1.length+ds.length)):=by
 rw[List.take_append,List.drop_append,List.take_of_length_le ho,List.drop_eq_nil_of_le (by omega)]
 simp only[List.nil_append,List.append_assoc]
 rw[show o+ds.length-c1.length=o-c1.length+ds.length from by omega]
theorem enc_setAt{bad:Nat->Prop}:∀{τ:Ty} {y:τ.den} {cs:List Value} {o:Nat} {σ:Ty} {x:σ.den} {ds:List Value} {z:τ.den},enc w bad τ y cs->enc w bad σ x ds->setAt τ y o σ x=some z ->
  enc w bad τ z (cs.take o++ds++cs.drop (o+ds.length))/\o+ds.length<=cs.length:=by
 intro τ
 have leaf:∀{τ:Ty} {cs:List Value} {o:Nat} {σ:Ty} {x:σ.den} {ds:List Value} {z:τ.den},cs.length=τ.size->enc w bad σ x ds->(if h:o=0/\σ=τ then some (h.2▸x) else none)=some z ->
   enc w bad τ z (cs.take o++ds++cs.drop (o+ds.length))/\o+ds.length<=cs.length:=by
  intro τ cs o σ x ds z hl hx hz
  split at hz
  .rename_i h
   obtain⟨rfl,rfl⟩:=h
   simp only[Option.some.injEq]at hz
   subst hz
   have hd:=bGc hx
   have:cs.drop (0+ds.length)=[]:=List.drop_eq_nil_of_le (by omega)
   rw[this]
   simpa using⟨hx,by omega⟩
  .cases hz
 induction τ with
 |pair a b iha ihb=>
  intro y cs o σ x ds z hy hx hz
  obtain⟨c1,c2,rfl,h1,h2⟩:=hy
  have hl1:=bGc h1
  have hl2:=bGc h2
  unfold setAt at hz
  split at hz
  .rename_i h
   obtain⟨rfl,rfl⟩:=h
   exact leaf (τ:=.pair a b) (cs:=c1++c2) (o:=0) (by simp[Ty.size,hl1,hl2]) hx (by rw[dif_pos ⟨rfl,rfl⟩];exact hz)
  .split at hz
   .rename_i hlt
    rw[Option.map_eq_some_iff]at hz
    obtain⟨z1,hz1,rfl⟩:=hz
    obtain⟨g1,g2⟩:=iha h1 hx hz1
    rw[take_part g2]
    exact⟨⟨_,_,rfl,g1,h2⟩,by simp;omega⟩
   .rename_i hge
    rw[Option.map_eq_some_iff]at hz
    obtain⟨z2,hz2,rfl⟩:=hz
    obtain⟨g1,g2⟩:=ihb h2 hx hz2
    rw[take_part2 (by omega),hl1]
    exact⟨⟨_,_,rfl,h1,g1⟩,by simp;omega⟩
 |int κ=>intro y cs o σ x ds z hy hx hz;exact leaf (bGc hy) hx hz
 |bool=>intro y cs o σ x ds z hy hx hz;exact leaf (bGc hy) hx hz
 |list e ih=>intro y cs o σ x ds z hy hx hz;exact leaf (bGc hy) hx hz
theorem bVc{cells:Array Value}{ds:List Value}{o:Nat}(h:o+ds.length<=cells.size):(cells.toList.take o++ds++cells.toList.drop (o+ds.length)).toArray.size=cells.size:=by
 simp only[List.size_toArray,List.length_append,List.length_take,List.length_drop,Array.length_toList];omega
theorem bZz{cs ds:List Value}{o k:Nat}(ho:o<=cs.length):(cs.take o++ds++cs.drop (o+ds.length))[k]?=if k<o then cs[k]? else if k<o+ds.length then ds[k-o]? else cs[k]?:=by
 have htl:(cs.take o).length=o:=by simp;omega
 rw[List.append_assoc]
 by_cases hk:k<o
 .rw[if_pos hk,List.getElem?_append_left (by omega),List.getElem?_take_of_lt hk]
 .rw[if_neg hk,List.getElem?_append_right (by omega),htl]
  by_cases hk2:k<o+ds.length
  .rw[if_pos hk2,List.getElem?_append_left (by omega)]
  .rw[if_neg hk2,List.getElem?_append_right (by omega),List.getElem?_drop]
   congr 1;omega
theorem bHt{A:Type}{l:List A}{i:Nat}{x:A}(h:l[i]?=some x):i<l.length:=by
 rcases Nat.lt_or_ge i l.length with hl|hl
 .exact hl
 .rw[List.getElem?_eq_none hl]at h;cases h
theorem row_set{bad:Nat->Prop}{τ σ:Ty}{l:List τ.den}{b o c j off:Nat}{y z:τ.den}{x:σ.den}{ds:List Value}(hr:Row w bad τ l b o c)(hb:bad b)(hy:l[j]?=some y)(hx:enc w bad σ x ds)(hz:setAt τ y off σ x=some z):
  ∃cells elem,w.heap[b]?=some (.cells cells elem (0,0))/\o+j*τ.size+off+ds.length<=cells.size /\
   Row (w.setRow b (cells.toList.take (o+j*τ.size+off)++ds++cells.toList.drop (o+j*τ.size+off+ds.length)).toArray) bad τ (l.set j z) b o c:=by
 obtain⟨cells,elem,hh,hl,hc,hrd⟩:=hr
 obtain⟨cs,he,hd⟩:=hrd j y hy
 obtain⟨g1,g2⟩:=enc_setAt he hx hz
 have hcs:=bGc he
 have hj:=bHt hy
 have hroom:j*τ.size+τ.size<=c*τ.size:=by
  have:(j+1)*τ.size<=c*τ.size:=Nat.mul_le_mul_right _ (by omega)
  rw[Nat.add_mul]at this;omega
 have hfit:o+j*τ.size+off+ds.length<=cells.size:=by omega
 have hsame:Same (· = b) w (w.setRow b (cells.toList.take (o+j*τ.size+off)++ds++cells.toList.drop (o+j*τ.size+off+ds.length)).toArray):=bM6 hh (bVc (by first|omega|(simp only[Array.length_toList]at *;omega)))
 have hget:∀k,(cells.toList.take (o+j*τ.size+off)++ds++cells.toList.drop (o+j*τ.size+off+ds.length)).toArray[k]?=if k<o+j*τ.size+off then cells[k]? else if k<o+j*τ.size+off+ds.length then ds[k-(o+j*τ.size+off)]? else cells[k]?:=by
  intro k
  rw[List.getElem?_toArray,bZz (by simp;omega)]
  simp only[Array.getElem?_toList]
 refine⟨cells,elem,hh,hfit,_,elem,setRow_heap w b cells _ elem _ hh,by simpa using hl,by simp;omega,fun i u hu=>?_⟩
 have up:∀{σ:Ty} {x:σ.den} {ds':List Value},enc w bad σ x ds'->enc (w.setRow b (cells.toList.take (o+j*τ.size+off)++ds++cells.toList.drop (o+j*τ.size+off+ds.length)).toArray) bad σ x ds':=
  fun h=>bHk hsame (fun y _ hy=>hy▸hb) (fun _ _ h=>h) h
 rw[List.getElem?_set]at hu
 split at hu
 .rename_i hij
  subst hij
  cases hu
  refine⟨_,up g1,fun k v hk=>?_⟩
  rw[bZz (by omega)]at hk
  rw[hget]
  have hkl:k<τ.size:=by
   rcases Nat.lt_or_ge k τ.size with h|h
   .exact h
   .rw[if_neg (by omega),if_neg (by omega),List.getElem?_eq_none (by omega)]at hk;cases hk
  by_cases h1:k<off
  .rw[if_pos h1]at hk
   rw[if_pos (by omega)]
   exact hd k v hk
  .rw[if_neg h1]at hk
   rw[if_neg (by omega)]
   by_cases h2:k<off+ds.length
   .rw[if_pos h2]at hk
    rw[if_pos (by omega),show o+j*τ.size+k-(o+j*τ.size+off)=k-off from by omega]
    exact hk
   .rw[if_neg h2]at hk
    rw[if_neg (by omega)]
    exact hd k v hk
 .rename_i hij
  obtain⟨es,ee,ed⟩:=hrd i u hu
  refine⟨es,up ee,fun k v hk=>?_⟩
  have hkl:k<τ.size:=by rw[<-bGc ee];exact bHt hk
  rw[hget]
  rcases Nat.lt_or_ge i j with h|h
  .have:(i+1)*τ.size<=j*τ.size:=Nat.mul_le_mul_right _ h
   rw[Nat.add_mul]at this
   rw[if_pos (by omega)]
   exact ed k v hk
  .have:(j+1)*τ.size<=i*τ.size:=Nat.mul_le_mul_right _ (by omega)
   rw[Nat.add_mul]at this
   rw[if_neg (by omega),if_neg (by omega)]
   exact ed k v hk
theorem bSc{P:Program}{t:TypeId}{n:Nat}(hn:∃i,P.info? t=some i/\i.size=n){b o:Nat}{cells:Array Value}{elem:TypeId}{v:Value}(hh:w.heap[b]?=some (.cells cells elem (0,0)))(hv:v.cells.size=n)(hfit:o+n<=cells.size)(h1:∀u∈v.cells.toList,u.oneCell'=true):
  (Instr.storeAt t (.pointer (some ⟨b,o,none⟩)) v).run P w = .ok () (w.setRow b (cells.toList.take o++v.cells.toList++cells.toList.drop (o+v.cells.toList.length)).toArray):=by
 obtain⟨i,hi,hs⟩:=hn
 have hst:=run_storeCells_at P b o elem v.cells.toList 0 cells w hh (by simpa[hv]using hfit) h1
 simp only[Nat.add_zero]at hst
 simp[Instr.storeAt,storeVar,Instr.sureAddr,sizeOf,typeInfo,hi,hs,hv,hst]
end
end
section
section
variable {b0:Nat->Prop} {β:bB5} {ob:Obs} {w:World} {f:Nat->List Nat}
structure bNb(P:Program)(E:Env):Prop where
 env:bQs P E
 ot:OtOk P E
 cl:CloneOk P E
 gr:GrowOk P E
 so:ExtOk P E
 hk:HkOk P E
theorem cFj{P:Program}{R:Type}{E:Env}(hA:bNb P E){C:bCg}(hC:bJu P E C){sl:List AV}{a:Act}(hS:SR b0 β ob w sl a.tmps f){o:Oper}{k:AV->Option R}{r:R}(hk:bH7 E C ob (bCm sl) o k=some r):
  ∃av,k av=some r/\∀next Q,(∀v w' bs,Done b0 β ob f (bFv o) w w' av v bs->next (a.put o.dst v) w')->o.wp P a w next Q:=by
 by_cases hc:∃c g,o.op = .call c/\c.callee = .value g
 .obtain⟨⟨callee,args,ts⟩,g,ho,hg⟩:=hc
  simp only at hg
  subst hg
  refine callK_sound hA.env hC hA.cl hA.gr hS ho ?_
  unfold bH7 at hk
  rw[ho]at hk
  exact hk
 .obtain⟨av,v,w',bs,h1,h2,h3⟩:=pure_plain hA.env hA.ot hS hk fun c hc' g hg=>hc ⟨c,g,hc',hg⟩
  exact⟨av,h1,fun next Q hn=>bR7 h2 (hn v w' bs h3)⟩
structure Goes(b0:Nat->Prop)(β:bB5)(st st':St)(w w':World)(tmps:Array Value):Prop where
 rel:∃β',Rel b0 β' st' w' tmps/\(∀b,Own β' st'.ob b->Own β st.ob b\/w.heap.size<=b)
 same:Same (Own β st.ob) w w'
theorem bTe{P:Program}{R:Type}{E:Env}(hA:bNb P E){C:bCg}(hC:bJu P E C){st:St}{a:Act}(hS:Rel b0 β st w a.tmps){o:Oper}{k:St->Option R}{r:R}(hk:bH7 E C st.ob (bCm st.sl) o (fun v=>k (st.put o.dst v))=some r):
  ∃st',k st'=some r/\st'.f=st.f/\∀next Q,(∀v w',Goes b0 β st st' w w' (putT a.tmps o.dst v)->next (a.put o.dst v) w')->o.wp P a w next Q:=by
 obtain⟨av,h1,h2⟩:=cFj hA hC hS.sr hk
 refine⟨_,h1,by cases o.dst<;>rfl,fun next Q hn=>h2 next Q fun v w' bs hd=>?_⟩
 obtain⟨β',h3,h4⟩:=hS.put hd o.dst
 exact hn v w' ⟨⟨β',h3,h4⟩,hd.same.mono fun b _ ⟨i,_,hi⟩=>by cases hi⟩
theorem Goes.frozen{st st1 st':St}{w':World}{tmps:Array Value}(h:Goes b0 β st1 st' w w' tmps)(ho:∀b,Own β st1.ob b->Own β st.ob b):Goes b0 β st st' w w' tmps:=by
 obtain⟨⟨β',h1,h2⟩,h3⟩:=h
 exact⟨⟨β',h1,fun b hb=>(h2 b hb).imp (ho b) id⟩,h3.mono fun b _ hb=>ho b hb⟩
theorem bT5{st:St}{w':World}{tmps:Array Value}{dst:Option Nat}{β':bB5}(h:Rel b0 β' st w' tmps)(hs:Same (Own β ob) w w')(ho:∀b,Own β' st.ob b->Own β ob b\/w.heap.size<=b):
  ∃β'',Rel b0 β'' (st.put dst .non) w' (putT tmps dst undef)/\(∀b,Own β'' (st.put dst .non).ob b->Own β ob b\/w.heap.size<=b):=by
 obtain⟨β'',h1,h2⟩:=h.put (w':=w') (used:=[]) (av:=.non) (v:=undef) (bs:=[]) (Done.stay ⟨rfl,rfl⟩) dst
 refine⟨β'',h1,fun b hb=>?_⟩
 rcases h2 b hb with h3|h3
 .exact ho b h3
 .exact .inr (Nat.le_trans hs.1 h3)
theorem cGb{P:Program}{o:Oper}{a:Act}{w w':World}{next:Act->World->Prop}{Q:Exit->Act->World->Prop}
  (h:(execOp a.eval o).run P w = .ok .skip w') (hn:next (a.put o.dst undef) w'):o.wp P a w next Q:=by
 simp only[Oper.wp,h,Oper.upon];exact hn
theorem cell1_one{bad:Nat->Prop}{a:AV}(hc:cell1 a=true){v:Value}{bs:List Nat}(h:VR1 β ob w bad a v bs):v.oneCell'=true:=by
 cases a with
 |d τ x=>
  obtain⟨_,cs,hv,he⟩:=h
  cases τ with
  |pair a b=>simp[cell1]at hc
  |_=>simp only[Vrep]at hv;subst hv;exact cDo he v (by simp)
 |nil=>obtain⟨_,rfl⟩:=h;rfl
 |full τ l=>obtain⟨_,A,rfl,_⟩:=h;rfl
 |new τ l=>
  rcases h with⟨⟨A,rfl⟩,_⟩|⟨b,o,c,_,rfl,_⟩
  .rfl
  .rfl
 |ow key=>
  obtain⟨_,τ,l,_,hs⟩:=h
  unfold SlV at hs
  split at hs
  .obtain⟨⟨A,rfl⟩,_⟩:=hs;rfl
  .obtain⟨A,c,rfl,_⟩:=hs;rfl
 |own key off len=>
  obtain⟨_,τ,l,_,_,hs⟩:=h
  unfold SlV at hs
  split at hs
  .obtain⟨⟨A,rfl⟩,_⟩:=hs;rfl
  .obtain⟨A,c,rfl,_⟩:=hs;rfl
 |narr n τ l=>obtain⟨_,b,_,rfl,_⟩:=h;rfl
 |ptr key off=>obtain⟨_,b,c,cs,_,_,rfl⟩:=h;rfl
 |ap key n=>obtain⟨_,τ,l,b,c,_,_,_,rfl⟩:=h;rfl
 |rop τ x=>obtain⟨_,ad,cs,rfl,_⟩:=h;rfl
 |rptr key j off=>obtain⟨_,τ,l,b,o,c,_,_,rfl⟩:=h;rfl
 |_=>simp[cell1]at hc
theorem cell1_flat{a:AV}(h:cell1 a=true):cD8 a=true:=by cases a<;>simp_all [cell1,cD8]
theorem sizeOf_pos{P:Program}{E:Env}(hE:bQs P E){t:TypeId}{n:Nat}(h:E.sizeOf t=some n):0<n:=by
 unfold Env.sizeOf at h
 split at h
 .rename_i m l hfs
  cases h
  obtain⟨_,τ,_,_,_,hn,_⟩:=hE.fs _ _ _ hfs
  rw[<-hn];exact τ.size_pos
 .split at h
  .rename_i τ hty;cases h;exact τ.size_pos
  .split at h
   .cases h;omega
   .cases h
theorem SR.named{sl:List AV}{tmps:Array Value}(h:SR b0 β ob w sl tmps F0){β':bB5}{ob':Obs}(hn:bNu b0 w (Av b0 β ob F0) [] β ob β' ob'):SR b0 β' ob' w sl tmps F0:=by
 have hav:∀b,b<w.heap.size->Av b0 β' ob' F0 b->Av b0 β ob F0 b:=by
  intro b _ hb
  rcases bXz.1 hb with h|h
  .exact .inl h
  .exact .inr (.inl ((hn.own b h).resolve_right (by simp)))
 exact⟨hn.obs.mono (bad0:=fun _=>False) (Same.refl _ w) (fun _ _ x=>x.elim) hav (fun _ _ x=>x),fun i=>((h.slot i).ext hn.ext).weaken hav,h.size,(fun i b hb=>by cases hb),fun i=>List.nodup_nil,(fun i j b hi=>by cases hi),h.b0lt⟩
theorem cBb{P:Program}{R:Type}{E:Env}(hA:bNb P E){st:St}{a:Act}(hS:Rel b0 β st w a.tmps){o:Oper}{t:TypeId}{x y:Operand}(ho:o.op = .store t x y){k:St->Option R}{r:R}(hk:cCh E o.dst st t (bCm st.sl x) (bCm st.sl y) k=some r):
  ∃st',k st'=some r/\st'.f=st.f/\∀next Q,(∀v w',Goes b0 β st st' w w' (putT a.tmps o.dst v)->next (a.put o.dst v) w')->o.wp P a w next Q:=by
 obtain⟨bx,hx,_⟩:=opnd hS.sr x
 obtain⟨by_,hy,_,_,hyf⟩:=opnd hS.sr y
 have hby:by_=[]:=by
  cases y with
  |tmp t=>exact hyf t rfl
  |_=>exact bYk hy (by first|rfl|(simp only[bCm];unfold cDt;split<;>rfl))
 subst hby
 have run:∀{w':World},(Instr.storeAt t (a.eval x) (a.eval y)).run P w = .ok () w'->(execOp a.eval o).run P w = .ok .skip w':=by
  intro w' h
  unfold execOp
  rw[ho]
  simp[h]
 unfold cCh at hk
 split at hk
 .rename_i key off hpx
  rw[hpx]at hx
  split at hk
  .rename_i cs hbox
   simp only at hk
   obtain⟨hc,hk⟩:=bCj hk
   simp only[Bool.and_eq_true,decide_eq_true_eq]at hc
   obtain⟨⟨hfit,hsz⟩,hcell⟩:=hc
   obtain⟨n,hn,hnn⟩:∃n,E.sizeOf t=some n/\n=(bGm (key+64+off) st.ob (E.freshC t (cellsOf (bCm st.sl y)))).1.length:=by
    cases h:E.sizeOf t with
    |none=>rw[h]at hsz;simp at hsz
    |some n=>rw[h]at hsz;exact⟨n,rfl,by simpa using hsz⟩
   have hpos:=sizeOf_pos hA.env hn
   have hne:cellsOf (bCm st.sl y)≠[]:=by
    intro he
    rw[he]at hnn
    have:E.freshC t []=[]:=by
     unfold Env.freshC
     split
     .rename_i τ _
      have:=τ.size_pos
      have h0:(([]:List AV).length==τ.size)=false:=by simp;omega
      rw[h0];rfl
     .rfl
    rw[this]at hnn
    simp[bGm]at hnn
    omega
   have hcs:=bM9 hy hne
   have hone:∀u∈(a.eval y).cells.toList,u.oneCell'=true:=by
    intro u hu
    obtain⟨i,hi⟩:=List.getElem?_of_mem hu
    have hlt:=bHt hi
    rw[<-hcs.len]at hlt
    obtain⟨u',h1,h2⟩:=hcs.pointwise.2 i _ (List.getElem?_eq_getElem hlt)
    rw[hi]at h1
    cases h1
    exact cell1_one (List.all_eq_true.1 hcell _ (List.getElem_mem hlt)) h2
   have hcs0:=hcs.imp' fun c v b hm _ hr=>vr0_of hr (cell1_flat (List.all_eq_true.1 hcell c hm))
   obtain⟨β1,n1,g1,_⟩:=bNn (key:=key+64+off) hS.sr.obs ⟨List.nodup_nil,by simp⟩ (bXj (E:=E) (t:=t) hcs0)
   have hS1:=hS.sr.named n1
   obtain⟨_,b,c,cs',hb,hk',hv⟩:=hx
   rw[hbox]at hk'
   cases hk'
   obtain⟨hbox1,hβ1⟩:=n1.ext.keep key _ hbox
   obtain⟨b',cells,elem,hb',hh,hvs⟩:=hS.sr.obs.box key cs hbox
   rw[hb]at hb'
   cases hb'
   have hlen:=g1.len
   have hl2:cs.length=cells.size:=by have:=hvs.len;simpa using this
   have hrun:=bSc (P:=P) (sizeOf_eq hA.env hA.ot hn) (v:=a.eval y) (o:=off) hh (by rw[<-Array.length_toList,<-hlen,<-hnn]) (by rw[hnn,hlen];rw[hlen]at hfit;omega) hone
   let w':=w.setRow b (cells.toList.take off++(a.eval y).cells.toList++cells.toList.drop (off+(a.eval y).cells.toList.length)).toArray
   have hsame:Same (· = b) w w':=bM6 hh (bVc (by first|omega|(simp only[Array.length_toList]at *;omega)))
   have hob:Own β st.ob b:=⟨key,_,_,_,hbox,hb⟩
   have hW:=hS1.write (w':=w') (x':=.box (cs.take off++(bGm (key+64+off) st.ob (E.freshC t (cellsOf (bCm st.sl y)))).1++cs.drop (off+(bGm (key+64+off) st.ob (E.freshC t (cellsOf (bCm st.sl y)))).1.length)))
    hbox1 (hβ1.trans hb) (by simp only[Alike,List.length_append,List.length_take,List.length_drop];omega) hsame (by simp) (fun ds hd=>by
     cases hd
     refine⟨rfl,by simp only[List.length_append,List.length_take,List.length_drop];omega,_,elem,setRow_heap w b cells _ elem _ hh,?_⟩
     have up:∀{c:AV} {v:Value},VR1 β1 (bGm (key+64+off) st.ob (E.freshC t (cellsOf (bCm st.sl y)))).2 w (Av b0 β1 (bGm (key+64+off) st.ob (E.freshC t (cellsOf (bCm st.sl y)))).2 F0) c v [] ->
       VR1 β1 (bGm (key+64+off) st.ob (E.freshC t (cellsOf (bCm st.sl y)))).2 w' (Av b0 β1 (bGm (key+64+off) st.ob (E.freshC t (cellsOf (bCm st.sl y)))).2 F0) c v []:=fun h=>
      bGk hsame (fun y _ hy=>hy ▸ .inr (.inl ⟨key,_,_,_,hbox1,hβ1.trans hb⟩)) (fun _ _ h=>h) (fun y hy=>by cases hy) h
     obtain⟨b2,cells2,elem2,hb2,hh2,hvs2⟩:=hS1.obs.box key cs hbox1
     rw[hβ1,hb]at hb2
     cases hb2
     rw[hh]at hh2
     cases hh2
     have g1':Vs (VR1 β1 (bGm (key+64+off) st.ob (E.freshC t (cellsOf (bCm st.sl y)))).2 w (Av b0 β1 (bGm (key+64+off) st.ob (E.freshC t (cellsOf (bCm st.sl y)))).2 F0)) (bGm (key+64+off) st.ob (E.freshC t (cellsOf (bCm st.sl y)))).1 (a.eval y).cells.toList []:=
      g1.imp fun a v b _ hr=>bGk (bad0:=fun _=>False) (Same.refl _ w) (fun _ _ x=>x.elim) (fun y _ hy=>by
       rcases bXz.1 hy with h|h
       .exact .inl h
       .exact .inr (.inl ((n1.own y h).resolve_right (by simp)))) (fun _ _ x=>x) (vr01 hr)
     have cat:∀{r:AV->Value->List Nat->Prop} {as:List AV} {vs:List Value} (i j:Nat),Vs r as vs []->Vs r (as.take i) (vs.take i) []/\Vs r (as.drop j) (vs.drop j) []:=by
      intro r as vs i j h
      obtain⟨hl,hp⟩:=h.pointwise
      refine⟨Vs.of (by simp[hl]) fun q a v h1 h2=>?_,Vs.of (by simp[hl]) fun q a v h1 h2=>?_⟩
      .rw[List.getElem?_take]at h1 h2
       split at h1
       .rw[if_pos (by assumption)]at h2
        obtain⟨v',e1,e2⟩:=hp q a h1
        rw[h2]at e1;cases e1;exact e2
       .cases h1
      .rw[List.getElem?_drop]at h1 h2
       obtain⟨v',e1,e2⟩:=hp _ a h1
       rw[h2]at e1;cases e1;exact e2
     obtain⟨t1,_⟩:=cat off off hvs2
     obtain⟨_,t2⟩:=cat 0 (off+(bGm (key+64+off) st.ob (E.freshC t (cellsOf (bCm st.sl y)))).1.length) hvs2
     have:=(t1.app g1').app t2
     rw[hlen]at this ⊢
     exact this.imp fun a v b hbs hr=>by
      have:b=[]:=by
       cases b with
       |nil=>rfl
       |cons x b=>have:=hbs x (by simp);simp at this
      subst this
      exact up hr)
   have hR:Rel b0 β1 { st with ob:=setN (bGm (key+64+off) st.ob (E.freshC t (cellsOf (bCm st.sl y)))).2 key (.box (cs.take off++(bGm (key+64+off) st.ob (E.freshC t (cellsOf (bCm st.sl y)))).1++cs.drop (off+(bGm (key+64+off) st.ob (E.freshC t (cellsOf (bCm st.sl y)))).1.length))) } w' a.tmps:=⟨hW,hS.nn⟩
   have hs2:Same (Own β st.ob) w w':=hsame.mono fun y _ hy=>hy▸hob
   obtain⟨β2,h1,h2⟩:=bT5 (dst:=o.dst) (β:=β) (ob:=st.ob) hR hs2 (fun y hy=>by
    have:=(bMj hbox1).1 hy
    exact .inl ((n1.own y this).resolve_right (by simp)))
   refine⟨_,hk,by cases o.dst<;>rfl,fun next Q hn=>cGb (run (by rw[hv];exact hrun)) (hn _ _ ⟨⟨β2,h1,h2⟩,hs2⟩)⟩
  .cases hk
 .rename_i key n hpx
  rw[hpx]at hx
  split at hk
  .rename_i τ l n' σ m n'' e hrow hpy har
   split at hk
   .rename_i hστ
    subst hστ
    obtain⟨hc,hk1⟩:=bCj hk
    clear hk
    simp only[Bool.and_eq_true,decide_eq_true_eq]at hc
    obtain⟨⟨hn1,hn2⟩,he⟩:=hc
    have hn1:=Nat.eq_of_beq_eq_true hn1
    have hn2:=Nat.eq_of_beq_eq_true hn2
    subst hn1
    subst hn2
    subst he
    obtain⟨_,τ',l',b,c,hrow',hl',hb,hv⟩:=hx
    rw[hrow]at hrow'
    cases hrow'
    rw[hpy]at hy
    obtain⟨_,hm,css,hvy,h1,h2⟩:=hy
    obtain⟨te,i,hu,hte,hi,hsz,_⟩:=hA.env.ar _ _ _ har
    have hR:=(hS.sr.obs.row key _ l hrow).resolve_left (fun h=>by rw[hb]at h;cases h.1)
    obtain⟨b',o',c',hb',cells,elem,hh,hlc,hcs,_⟩:=hR
    rw[hb]at hb'
    cases hb'
    have hfl:=bQ1 h1 h2
    have hroom:n*e.size<=c*e.size:=Nat.mul_le_mul_right _ (by omega)
    have hvc:(a.eval y).cells.toList=css.flatten:=by rw[hvy];simp[Value.cells]
    have hrun:=bSc (P:=P) (w:=w) ⟨i,hi,hsz⟩ (v:=a.eval y) (o:=0) hh (by rw[<-Array.length_toList,hvc,hfl,hm]) (by omega) (by rw[hvc];exact encs_one h1 h2)
    rw[hvc]at hrun
    have hob:Own β st.ob b:=⟨key,_,_,_,hrow,hb⟩
    have hsame:Same (· = b) w (w.setRow b (cells.toList.take 0++css.flatten++cells.toList.drop (0+css.flatten.length)).toArray):=bM6 hh (bVc (by rw[hfl,hm];omega))
    have hW:=hS.sr.write (x':=.row e m) hrow hb ⟨rfl,by omega⟩ hsame (fun τ' l' he=>by
     cases he
     refine⟨_,elem,setRow_heap w b cells _ elem _ hh,by omega,by simp;omega,?_⟩
     have hH:=bMc (w:=w) (bad:=Av b0 β st.ob F0) (cells:=(cells.toList.take 0++css.flatten++cells.toList.drop (0+css.flatten.length)).toArray) (o:=0) h1 h2 (fun j u hj=>by
      rw[List.getElem?_toArray,bZz (by omega),if_neg (by omega),if_pos (by have:=bHt hj;omega)]
      simpa using hj)
     exact hH.mono hsame (fun y _ hy=>hy ▸ .inr (.inl hob)) (fun _ _ h=>h)) (by simp)
    have hR2:Rel b0 β { st with ob:=setN st.ob key (.row e m) } _ a.tmps:=⟨hW,hS.nn⟩
    have hs2:Same (Own β st.ob) w (w.setRow b (cells.toList.take 0++css.flatten++cells.toList.drop (0+css.flatten.length)).toArray):=hsame.mono fun y _ hy=>hy▸hob
    obtain⟨β2,g1,g2⟩:=bT5 (dst:=o.dst) (β:=β) (ob:=st.ob) hR2 hs2 (fun y hy=>.inl ((bMj hrow).1 hy))
    refine⟨_,hk1,by cases o.dst<;>rfl,fun next Q hn=>cGb (run (by rw[hv];exact hrun)) (hn _ _ ⟨⟨β2,g1,g2⟩,hs2⟩)⟩
   .cases hk
  .cases hk
 .cases hk
end
end
section
section
variable {R:Type} {ob:Obs}
theorem dite_b{α:Type}{c:Prop}[Decidable c](x:c->α)(k:α->Option R):(if h:c then k (x h) else none)=(if h:c then some (x h) else none:Option α).bind k:=by
 by_cases h:c<;>simp[h]
theorem bRn(e:Ty)(v:AV)(k:List e.den->Option R):bXb ob e v k=(bXb ob e v some).bind k:=by
 unfold bXb
 split
 .rfl
 .exact dite_b _ k
 .exact dite_b _ k
 .exact dite_b _ k
 .split
  .exact dite_b _ k
  .rfl
 .split
  .exact dite_b _ k
  .rfl
 .rfl
end
section
variable {b0:Nat->Prop} {β:bB5} {ob:Obs} {w:World}
def Part(ob' ob:Obs):Prop:=∀k x,bBc ob' k=some x->bBc ob k=some x
theorem Part.refl(ob:Obs):Part ob ob:=fun _ _ h=>h
theorem Part.trans{ob1 ob2 ob3:Obs}(h:Part ob1 ob2)(h':Part ob2 ob3):Part ob1 ob3:=fun k x hk=>h' k x (h k x hk)
theorem Part.del(ob:Obs)(key:Nat):Part (delN ob key) ob:=fun k x h=>by
 rw[bMs]at h
 split at h
 .cases h
 .exact h
def Gone(ob ob':Obs)(key:Nat):Prop:=(∃x,bBc ob key=some x)/\bBc ob' key=none
theorem Gone.left{ob1 ob2 ob3:Obs}{k:Nat}(h:Gone ob1 ob2 k)(hp:Part ob3 ob2):Gone ob1 ob3 k:=by
 refine⟨h.1,?_⟩
 cases h3:bBc ob3 k with
 |none=>rfl
 |some x=>have:=hp _ _ h3;rw[h.2]at this;cases this
theorem Gone.right{ob1 ob2 ob3:Obs}{k:Nat}(hp:Part ob2 ob1)(h:Gone ob2 ob3 k):Gone ob1 ob3 k:=by
 obtain⟨⟨x,hx⟩,h2⟩:=h
 exact⟨⟨x,hp _ _ hx⟩,h2⟩
theorem row_own{bad:Nat->Prop}{τ:Ty}{l:List τ.den}{key off len:Nat}{v:Value}(hr:(β key=none/\l=[])\/∃b o c,β key=some (b,o,c)/\Row w bad τ l b o c)(hol:off+len<=l.length)(hs:SlV β key τ.size off len v):
  ∃bs:List Nat,(∀bad':Nat->Prop,(∀b,b<w.heap.size->bad' b->bad b)->newV w bad' τ (bFj l off len) v bs)/\bs.Nodup/\∀b∈bs,∃o c,β key=some (b,o,c):=by
 have hsl:(bFj l off len).length=len:=by simp[bFj];omega
 unfold SlV at hs
 split at hs
 .obtain⟨hA,hl⟩:=hs
  subst hl
  exact⟨[],fun _ _=>.inl ⟨hA,by simp[bFj],rfl⟩,by simp,by simp⟩
 .rename_i b o c0 hb'
  obtain⟨A,c,rfl,h1,h2,h3⟩:=hs
  rcases Nat.eq_zero_or_pos c with hc|hc
  .subst hc
   have hl:len=0:=by omega
   subst hl
   exact⟨[],fun _ _=>.inl ⟨⟨_,rfl⟩,by simp[bFj],rfl⟩,by simp,by simp⟩
  .obtain⟨b2,o2,c2,hb2,cells,elem,hh,hlc,hcs,hrd⟩:=hr.resolve_left (fun h=>by rw[hb']at h;cases h.1)
   rw[hb']at hb2
   cases hb2
   have hA:A=o+off*τ.size:=h3 (by omega)
   subst hA
   refine⟨[b],fun bad' hb=>.inr ⟨b,_,c,rfl,by rw[hsl],cells,elem,hh,by omega,?_,fun i x hx=>?_⟩,by simp,fun y hy=>?_⟩
   .have:=Nat.mul_le_mul_right τ.size (show off+c<=c0 by omega)
    rw[Nat.add_mul]at this;omega
   .have hi:i<len:=by have:=bHt hx;omega
    have hx':l[off+i]?=some x:=by
     simp only[bFj,List.getElem?_take,List.getElem?_drop]at hx
     rw[if_pos hi]at hx;exact hx
    obtain⟨ds,he,hd⟩:=hrd _ _ hx'
    refine⟨ds,bHk (bad0:=fun _=>False) (Same.refl _ w) (fun _ _ x=>x.elim) hb he,fun j v hj=>?_⟩
    have:=hd j v hj
    rw[Nat.add_mul]at this
    rw[show o+off*τ.size+i*τ.size+j=o+(off*τ.size+i*τ.size)+j from by omega]
    exact this
   .have:y=b:=by simpa using hy
    subst this
    exact⟨o,c0,hb'⟩
theorem cA7{key b:Nat}{x:Ob}{o c:Nat}(hk:bBc ob key=some x)(hb:β key=some (b,o,c)):bFr β ob key b:=⟨x,o,c,hk,hb⟩
theorem dataE{R:Type}{ob0:Obs}{av:Nat->Prop}(hO:ObR b0 β ob0 w av)(hp:Part ob ob0):∀{τ:Ty} {cs:List AV} {k:τ.den->List AV->Option R} {r:R} {vs:List Value},
  bGg ob true τ cs k=some r->Vs (VR1 β ob0 w av) cs vs []->∃x v1 v2,k x (cs.drop τ.size)=some r/\vs=v1++v2/\Vs (VR1 β ob0 w av) (cs.drop τ.size) v2 []/\τ.size<=cs.length /\
   (∀c∈cs.take τ.size,bPu c=true->∀key∈bMb c,∃y,bBc ob key=some y) /\
   ∀bad',(∀b,b<w.heap.size->bad' b->av b)->(∀c∈cs.take τ.size,bPu c=true->∀key∈bMb c,∀b,bFr β ob0 key b->¬bad' b)->enc w bad' τ x v1:=by
 intro τ
 induction τ with
 |pair a b iha ihb=>
  intro cs k r vs hk hv
  simp only[bGg]at hk
  obtain⟨x,v1,v2,h1,rfl,h3,h4,h5,h6⟩:=iha hk hv
  obtain⟨y,v3,v4,g1,rfl,g3,g4,g5,g6⟩:=ihb h1 h3
  rw[List.length_drop]at g4
  have ht:cs.take (Ty.pair a b).size=cs.take a.size++(cs.drop a.size).take b.size:=by
   simp only[Ty.size];rw[List.take_add]
  refine⟨(x,y),v1++v3,v4,by simp only[Ty.size];rw[<-List.drop_drop];exact g1,by rw[List.append_assoc],by simp only[Ty.size];rw[<-List.drop_drop];exact g3,by simp only[Ty.size];omega,fun c hc=>?_,fun bad' hb hn=>⟨v1,v3,rfl,h6 bad' hb fun c hc=>hn c (by rw[ht];simp[hc]),g6 bad' hb fun c hc=>hn c (by rw[ht];simp[hc])⟩⟩
  rw[ht,List.mem_append]at hc
  exact hc.elim (h5 c) (g5 c)
 |list e ih=>
  intro cs k r vs hk hv
  cases cs with
  |nil=>simp[bGg]at hk
  |cons c cs=>
   obtain⟨v,vr,b1,br,rfl,hb,hc,hr⟩:=hv.split
   have hb':=hb.symm
   rw[List.append_eq_nil_iff]at hb'
   obtain⟨rfl,rfl⟩:=hb'
   have hk':bXb ob e c (fun l=>k l cs)=some r:=by
    simpa only[bGg]using hk
   have hk0:∃l,k l cs=some r/\(bPu c=true->∀key∈bMb c,∃y,bBc ob key=some y)/\∀bad',(∀b,b<w.heap.size->bad' b->av b)->(bPu c=true->∀key∈bMb c,∀b,bFr β ob0 key b->¬bad' b)->enc w bad' (.list e) l [v]:=by
    have full:∀{l:List e.den},(∃bad,(∀bad':Nat->Prop,(∀b,b<w.heap.size->bad' b->av b)->∀b,b<w.heap.size->bad' b->bad b)/\enc w bad (.list e) l [v])->∀bad',(∀b,b<w.heap.size->bad' b->av b)->enc w bad' (.list e) l [v]:=by
     rintro l ⟨bad,h1,h2⟩ bad' hb
     exact bHk (bad0:=fun _=>False) (Same.refl _ w) (fun _ _ x=>x.elim) (h1 bad' hb) h2
    unfold bXb at hk'
    split at hk'
    .obtain⟨_,rfl⟩:=hc
     exact⟨[],hk',by simp[bPu],fun bad' hb _=>⟨none,0,rfl,Nat.le_refl _,fun _=>rfl,fun a h=>by cases h⟩⟩
    .split at hk'
     .rename_i σ l hσ
      subst hσ
      obtain⟨_,ds,hd,he⟩:=hc
      simp only[Vrep]at hd
      subst hd
      exact⟨l,hk',by simp[bPu],fun bad' hb _=>full ⟨av,fun _ h=>h,he⟩ bad' hb⟩
     .cases hk'
    .split at hk'
     .rename_i σ l hσ
      subst hσ
      obtain⟨_,A,rfl,he⟩:=hc
      exact⟨l,hk',by simp[bPu],fun bad' hb _=>full ⟨av,fun _ h=>h,he⟩ bad' hb⟩
     .cases hk'
    .split at hk'
     .rename_i σ l hσ
      subst hσ
      rcases hc with⟨⟨A,rfl⟩,rfl,_⟩|⟨b,o,c,hb,_⟩
      .exact⟨[],hk',by simp[bPu],fun bad' hb _=>⟨A,0,rfl,Nat.le_refl _,fun _=>rfl,fun a h i x hx=>by simp at hx⟩⟩
      .cases hb
     .cases hk'
    .rename_i key
     split at hk'
     .split at hk'
      .rename_i _ σ l hrow hσ
       subst hσ
       obtain⟨_,τ',l',hl',hs⟩:=hc
       have h0:=hp _ _ hrow
       rw[h0]at hl'
       cases hl'
       obtain⟨g1,g2⟩:=bVd (off:=0) hO h0 (by omega) hs
       rw[bP3]at g1
       refine⟨l,hk',fun _ k' hk'=>by simp[bMb]at hk';subst hk';exact⟨_,hrow⟩,fun bad' hb hn=>(g1.mono hb).enc fun hpos a n c hv hbad=>?_⟩
       refine hn rfl key (by simp[bMb]) a.block ?_ hbad
       unfold SlV at hs
       split at hs
       .omega
       .rename_i b o c0 hβ
        obtain⟨A,c',hv',_⟩:=hs
        rw[hv]at hv'
        cases hv'
        exact⟨_,o,c0,h0,hβ⟩
      .cases hk'
     .cases hk'
    .rename_i key off len
     split at hk'
     .split at hk'
      .rename_i _ σ l hrow hσ
       subst hσ
       obtain⟨_,τ',l',hl',hol,hs⟩:=hc
       have h0:=hp _ _ hrow
       rw[h0]at hl'
       cases hl'
       obtain⟨g1,g2⟩:=bVd hO h0 hol hs
       refine⟨_,hk',fun _ k' hk'=>by simp[bMb]at hk';subst hk';exact⟨_,hrow⟩,fun bad' hb hn=>(g1.mono hb).enc fun hpos a n c hv hbad=>?_⟩
       refine hn rfl key (by simp[bMb]) a.block ?_ hbad
       unfold SlV at hs
       split at hs
       .simp only[bFj,List.length_take,List.length_drop]at hpos;omega
       .rename_i b o c0 hβ
        obtain⟨A,c',hv',_⟩:=hs
        rw[hv]at hv'
        cases hv'
        exact⟨_,o,c0,h0,hβ⟩
      .cases hk'
     .cases hk'
    .cases hk'
   obtain⟨l,g1,g2,g3⟩:=hk0
   exact⟨l,[v],vr,g1,rfl,hr,by simp[Ty.size],fun c' hc'=>by simp[Ty.size]at hc';subst hc';exact g2,fun bad' hb hn=>g3 bad' hb (hn c (by simp[Ty.size]))⟩
 |int κ=>
  intro cs k r vs hk hv
  cases cs with
  |nil=>simp[bGg]at hk
  |cons c cs=>
   obtain⟨v,vr,b1,br,rfl,hb,hc,hr⟩:=hv.split
   have hb':=hb.symm
   rw[List.append_eq_nil_iff]at hb'
   obtain⟨rfl,rfl⟩:=hb'
   simp only[bGg]at hk
   split at hk
   .split at hk
    .rename_i σ x hσ
     subst hσ
     obtain⟨hv',_⟩:=bDw (β:=β) (ob:=ob0) (w:=w) (bad:=av) hc
     subst hv'
     exact⟨x,[_],vr,hk,rfl,hr,by simp[Ty.size],fun c' hc'=>by simp[Ty.size]at hc';subst hc';simp[bPu],fun _ _ _=>rfl⟩
    .cases hk
   .cases hk
 |bool=>
  intro cs k r vs hk hv
  cases cs with
  |nil=>simp[bGg]at hk
  |cons c cs=>
   obtain⟨v,vr,b1,br,rfl,hb,hc,hr⟩:=hv.split
   have hb':=hb.symm
   rw[List.append_eq_nil_iff]at hb'
   obtain⟨rfl,rfl⟩:=hb'
   simp only[bGg]at hk
   split at hk
   .split at hk
    .rename_i σ x hσ
     subst hσ
     obtain⟨hv',_⟩:=bK2 (β:=β) (ob:=ob0) (w:=w) (bad:=av) hc
     subst hv'
     exact⟨x,[_],vr,hk,rfl,hr,by simp[Ty.size],fun c' hc'=>by simp[Ty.size]at hc';subst hc';simp[bPu],fun _ _ _=>rfl⟩
    .cases hk
   .cases hk
end
end
section
section
variable {b0:Nat->Prop} {β:bB5} {ob:Obs} {w:World}
theorem cA2{ow:Bool}{R:Type}:∀{τ:Ty} {cs:List AV} {k:τ.den->List AV->Option R} {r:R},bGg ob ow τ cs k=some r->∃x,k x (cs.drop τ.size)=some r
 |.pair a b,cs,k,r,h=>by
  simp only[bGg]at h
  obtain⟨x,h1⟩:=cA2 (τ:=a) h
  obtain⟨y,h2⟩:=cA2 (τ:=b) h1
  exact⟨(x,y),by simp only[Ty.size];rw[<-List.drop_drop];exact h2⟩
 |.list e,[],k,r,h=>by simp[bGg]at h
 |.int _,[],k,r,h=>by simp[bGg]at h
 |.bool,[],k,r,h=>by simp[bGg]at h
 |.list e,c::cs,k,r,h=>by
  have hl:∀{k':List e.den->Option R},bXb ob e c k'=some r->∃l,k' l=some r:=by
   intro k' h'
   rw[bRn]at h'
   obtain⟨l,_,h2⟩:=bind_some h'
   exact⟨l,h2⟩
  simp only[bGg]at h
  split at h
  .cases h
  .cases h
  .exact hl h
 |.int _,c::cs,k,r,h=>by
  simp only[bGg]at h
  split at h
  .split at h
   .exact⟨_,h⟩
   .cases h
  .cases h
 |.bool,c::cs,k,r,h=>by
  simp only[bGg]at h
  split at h
  .split at h
   .exact⟨_,h⟩
   .cases h
  .cases h
theorem frzE{R:Type}:∀{τ:Ty} {cs:List AV} {k:τ.den->List AV->Option R} {r:R},bGg ob true τ cs k=some r->∀ob1,Part (shK.frz ob1 τ cs) ob1/\∀c∈cs.take τ.size,bPu c=true->∀key∈bMb c,bBc (shK.frz ob1 τ cs) key=none
 |.pair a b,cs,k,r,h,ob1=>by
  simp only[bGg]at h
  obtain⟨x,h1⟩:=cA2 (τ:=a) h
  obtain⟨p1,g1⟩:=frzE (τ:=a) h ob1
  obtain⟨p2,g2⟩:=frzE (τ:=b) h1 (shK.frz ob1 a cs)
  simp only[shK.frz]
  refine⟨p2.trans p1,fun c hc ho key hk=>?_⟩
  simp only[Ty.size,List.take_add,List.mem_append]at hc
  rcases hc with hc|hc
  .have:=g1 c hc ho key hk
   cases h3:bBc (shK.frz (shK.frz ob1 a cs) b (cs.drop a.size)) key with
   |none=>rfl
   |some y=>have:=p2 _ _ h3;rw[g1 c hc ho key hk]at this;cases this
  .exact g2 c hc ho key hk
 |.list e,[],k,r,h,ob1=>by simp[bGg]at h
 |.int _,[],k,r,h,ob1=>by simp[bGg]at h
 |.bool,[],k,r,h,ob1=>by simp[bGg]at h
 |.list e,c::cs,k,r,h,ob1=>by
  have hd:∀key,bBc (delN ob1 key) key=none:=fun key=>by rw[bMs];simp
  refine⟨?_,fun c' hc' ho key hk=>?_⟩
  .cases c<;>first
    |exact Part.refl _
    |exact Part.del _ _
  .have hc':c'=c:=by simpa[Ty.size]using hc'
   subst hc'
   cases c'<;>first
    |(simp[bPu]at ho;done)
    |(simp only[bMb,List.mem_singleton]at hk;subst hk;exact hd _)
 |.int _,c::cs,k,r,h,ob1=>by
  refine⟨by simp only[shK.frz];exact Part.refl _,fun c' hc' ho=>?_⟩
  simp only[Ty.size,List.take_succ_cons,List.take_zero,List.mem_singleton]at hc'
  subst hc'
  simp only[bGg]at h
  split at h
  .simp[bPu]at ho
  .cases h
 |.bool,c::cs,k,r,h,ob1=>by
  refine⟨by simp only[shK.frz];exact Part.refl _,fun c' hc' ho=>?_⟩
  simp only[Ty.size,List.take_succ_cons,List.take_zero,List.mem_singleton]at hc'
  subst hc'
  simp only[bGg]at h
  split at h
  .simp[bPu]at ho
  .cases h
def ShR(w:World)(bad:Nat->Prop):(s:Sh)->s.den->List Value->List Nat->Prop
 |.d τ,x,vs,bs=>bs=[]/\enc w bad τ x vs
 |.own τ,l,vs,bs=>∃v,vs=[v]/\newV w bad τ l v bs
 |.agg a b,x,vs,bs=>∃v1 v2 b1 b2,vs=v1++v2/\bs=b1++b2/\ShR w bad a x.1 v1 b1/\ShR w bad b x.2 v2 b2
theorem ShR.cells{bad:Nat->Prop}:∀{s:Sh} {x:s.den} {vs:List Value} {bs:List Nat},ShR w bad s x vs bs->Vs (VR0 β ob w bad) (shAV s x) vs bs
 |.d τ,x,vs,bs,h=>by obtain⟨rfl,he⟩:=h;exact bLx he
 |.own τ,l,vs,bs,h=>by
  obtain⟨v,rfl,hn⟩:=h
  have:=Vs.cons (r:=VR0 β ob w bad) (a:=.new τ l) (v:=v) (b:=bs) hn .nil
  rw[List.append_nil]at this
  exact this
 |.agg a b,x,vs,bs,h=>by
  obtain⟨v1,v2,b1,b2,rfl,rfl,h1,h2⟩:=h
  exact(ShR.cells h1).app (ShR.cells h2)
structure Took(β:bB5)(ob0 ob ob':Obs)(rk ok:List Nat)(bs:List Nat):Prop where
 part:Part ob' ob
 gr:∀key∈rk,Gone ob ob' key
 go:∀key∈ok,Gone ob ob' key
 dis:∀key∈rk,key∉ok
 nd:bs.Nodup
 own:∀b∈bs,∃key∈ok,bFr β ob0 key b
theorem Took.refl(β:bB5)(ob0 ob:Obs):Took β ob0 ob ob [] [] []:=⟨Part.refl _,by simp,by simp,by simp,List.nodup_nil,by simp⟩
theorem cD0{av:Nat->Prop}(hO:ObR b0 β ob w av){k1 k2 b:Nat}(h1:bFr β ob k1 b)(h2:bFr β ob k2 b):k1=k2:=by
 obtain⟨x,o,c,h1,g1⟩:=h1
 obtain⟨x',o',c',h2,g2⟩:=h2
 exact hO.apart _ _ _ _ _ _ _ _ _ h1 h2 g1 g2
theorem Took.cross{ob0 ob1 ob2:Obs}{k1 k2:Nat}(h1:Gone ob1 ob2 k1)(h2:∃x,bBc ob2 k2=some x):k1≠k2:=by
 rintro rfl
 obtain⟨x,hx⟩:=h2
 rw[h1.2]at hx;cases hx
theorem Took.trans{av:Nat->Prop}{ob0 ob1 ob2 ob3:Obs}(hO:ObR b0 β ob0 w av){rk1 ok1 bs1 rk2 ok2 bs2:List Nat}(h:Took β ob0 ob1 ob2 rk1 ok1 bs1)(h':Took β ob0 ob2 ob3 rk2 ok2 bs2):Took β ob0 ob1 ob3 (rk1++rk2) (ok1++ok2) (bs1++bs2) where
 part:=h'.part.trans h.part
 gr:=fun key hk=>(List.mem_append.1 hk).elim (fun hk=>(h.gr key hk).left h'.part) (fun hk=>Gone.right h.part (h'.gr key hk))
 go:=fun key hk=>(List.mem_append.1 hk).elim (fun hk=>(h.go key hk).left h'.part) (fun hk=>Gone.right h.part (h'.go key hk))
 dis:=fun key hk ho=>by
  rcases List.mem_append.1 hk with hk|hk<;>rcases List.mem_append.1 ho with ho|ho
  .exact h.dis key hk ho
  .exact Took.cross (ob0:=ob0) (h.gr key hk) (h'.go key ho).1 rfl
  .exact Took.cross (ob0:=ob0) (h.go key ho) (h'.gr key hk).1 rfl
  .exact h'.dis key hk ho
 nd:=List.nodup_append.2 ⟨h.nd,h'.nd,fun b hb c hc he=>by
  subst he
  obtain⟨k1,hk1,hb1⟩:=h.own b hb
  obtain⟨k2,hk2,hb2⟩:=h'.own b hc
  exact Took.cross (ob0:=ob0) (h.go k1 hk1) (h'.go k2 hk2).1 (cD0 hO hb1 hb2)⟩
 own:=fun b hb=>by
  rcases List.mem_append.1 hb with hb|hb
  .obtain⟨k,hk,h1⟩:=h.own b hb;exact⟨k,by simp[hk],h1⟩
  .obtain⟨k,hk,h1⟩:=h'.own b hb;exact⟨k,by simp[hk],h1⟩
def Calm(β:bB5)(ob0:Obs)(w:World)(av:Nat->Prop)(rk:List Nat)(bad:Nat->Prop):Prop:=
 (∀b,b<w.heap.size->bad b->av b)/\∀key∈rk,∀b,bFr β ob0 key b->¬bad b
theorem Calm.sub{ob0:Obs}{av:Nat->Prop}{rk rk':List Nat}{bad:Nat->Prop}(h:Calm β ob0 w av rk bad)(hs:∀k∈rk',k∈rk):Calm β ob0 w av rk' bad:=⟨h.1,fun k hk=>h.2 k (hs k hk)⟩
theorem shE{R:Type}{ob0:Obs}{av:Nat->Prop}(hO:ObR b0 β ob0 w av):∀{s:Sh} {ob:Obs},Part ob ob0->∀{cs:List AV} {k:s.den->List AV->Obs->Option R} {r:R} {vs:List Value},
  shK ob s cs k=some r->Vs (VR1 β ob0 w av) cs vs []->∃x rest ob' v1 v2 rk ok bs,k x rest ob'=some r/\vs=v1++v2/\Vs (VR1 β ob0 w av) rest v2 []/\Took β ob0 ob ob' rk ok bs/\∀bad',Calm β ob0 w av rk bad'->ShR w bad' s x v1 bs:=by
 intro s
 induction s with
 |d τ=>
  intro ob hp cs k r vs hk hv
  simp only[shK]at hk
  obtain⟨x,v1,v2,h1,h2,h3,h4,h5,h6⟩:=dataE hO hp hk hv
  obtain⟨p1,g1⟩:=frzE hk ob
  refine⟨x,_,_,v1,v2,(cs.take τ.size).flatMap (fun c=>bif bPu c then bMb c else[]),[],[],h1,h2,h3,⟨p1,fun key hkey=>?_,by simp,by simp,List.nodup_nil,by simp⟩,fun bad' hb=>⟨rfl,h6 bad' hb.1 fun c hc ho key hkey b hbl=>?_⟩⟩
  .obtain⟨c,hc,hkey⟩:=List.mem_flatMap.1 hkey
   cases ho:bPu c with
   |false=>rw[ho]at hkey;cases hkey
   |true=>rw[ho]at hkey;exact⟨h5 c hc ho key hkey,g1 c hc ho key hkey⟩
  .exact hb.2 key (List.mem_flatMap.2 ⟨c,hc,by rw[ho];exact hkey⟩) b hbl
 |own τ=>
  intro ob hp cs k r vs hk hv
  cases cs with
  |nil=>simp[shK]at hk
  |cons c cs=>
   obtain⟨v,vr,b1,br,rfl,hb,hc,hr⟩:=hv.split
   have hb':=hb.symm
   rw[List.append_eq_nil_iff]at hb'
   obtain⟨rfl,rfl⟩:=hb'
   have own:∀{key off len:Nat} {σ:Ty} {l:List σ.den} (h:σ=τ) {kk:List τ.den},bBc ob key=some (.row σ l)->off+len<=l.length->SlV β key σ.size off len v->kk=h▸bFj l off len->k kk cs (delN ob key)=some r ->
     ∃x rest ob' v1 v2 rk ok bs,k x rest ob'=some r/\v::vr=v1++v2/\Vs (VR1 β ob0 w av) rest v2 []/\Took β ob0 ob ob' rk ok bs/\∀bad',Calm β ob0 w av rk bad'->ShR w bad' (.own τ) x v1 bs:=by
    intro key off len σ l h kk hrow hol hs hkk hk
    subst h
    subst hkk
    have h0:=hp _ _ hrow
    have hRow:=hO.row key σ l h0
    obtain⟨bs,hnew,hnd,hbs⟩:=row_own hRow hol hs
    refine⟨_,cs,delN ob key,[v],vr,[],[key],bs,hk,rfl,hr,⟨Part.del _ _,by simp,fun k' hk'=>?_,by simp,hnd,fun b hb=>?_⟩,fun bad' hb=>⟨v,rfl,hnew bad' hb.1⟩⟩
    .have:k'=key:=by simpa using hk'
     subst this
     exact⟨⟨_,hrow⟩,by rw[bMs];simp⟩
    .obtain⟨o,c,hβ⟩:=hbs b hb
     exact⟨key,by simp,cA7 h0 hβ⟩
   simp only[shK]at hk
   split at hk
   .obtain⟨_,rfl⟩:=hc
    exact⟨[],cs,ob,[.slice none 0 0],vr,[],[],[],hk,rfl,hr,Took.refl _ _ _,fun bad' hb=>⟨_,rfl,.inl ⟨⟨_,rfl⟩,rfl,rfl⟩⟩⟩
   .rename_i key
    split at hk
    .rename_i σ l hrow
     split at hk
     .rename_i hσ
      obtain⟨_,τ',l',hl',hs⟩:=hc
      rw[hp _ _ hrow]at hl'
      cases hl'
      exact own (off:=0) (len:=l.length) hσ hrow (by omega) hs (by rw[bP3]) hk
     .cases hk
    .cases hk
   .rename_i key off len
    split at hk
    .rename_i σ l hrow
     split at hk
     .rename_i hσ
      obtain⟨_,τ',l',hl',hol,hs⟩:=hc
      rw[hp _ _ hrow]at hl'
      cases hl'
      exact own hσ hrow hol hs rfl hk
     .cases hk
    .cases hk
   .cases hk
 |agg a b iha ihb=>
  intro ob hp cs k r vs hk hv
  simp only[shK]at hk
  obtain⟨x,rest,ob1,v1,v2,rk1,ok1,bs1,h1,rfl,h3,h4,h5⟩:=iha hp hk hv
  obtain⟨y,rest',ob2,v3,v4,rk2,ok2,bs2,g1,rfl,g3,g4,g5⟩:=ihb (h4.part.trans hp) h1 h3
  exact⟨(x,y),rest',ob2,v1++v3,v4,rk1++rk2,ok1++ok2,bs1++bs2,g1,by rw[List.append_assoc],g3,h4.trans hO g4,fun bad' hb=>
   ⟨v1,v3,bs1,bs2,rfl,rfl,h5 bad' (hb.sub fun k hk=>by simp[hk]),g5 bad' (hb.sub fun k hk=>by simp[hk])⟩⟩
end
end
section
section
variable {b0:Nat->Prop} {β:bB5} {w:World}
theorem mv_sound{R:Type}{ob0:Obs}{av:Nat->Prop}(hO:ObR b0 β ob0 w av){ob:Obs}(hp:Part ob ob0){τ:Ty}{v:AV}{u:Value}(h:VR2 β ob0 w av v u []){k:List τ.den->Obs->Option R}{r:R}
  (hk:(shK ob (.own τ) [v] fun x _ ob'=>k x ob')=some r):∃x ob' rk ok bs,k x ob'=some r/\Took β ob0 ob ob' rk ok bs/\∀bad',Calm β ob0 w av rk bad'->VR2 noβ [] w bad' (.new τ x) u bs:=by
 have h1:VR1 β ob0 w av v u []:=by
  cases v<;>first|exact h|(simp[shK]at hk)
 obtain⟨x,rest,ob',v1,v2,rk,ok,bs,g1,g2,g3,g4,g5⟩:=shE hO hp hk (Vs.cons (b:=[]) h1 .nil)
 refine⟨x,ob',rk,ok,bs,g1,g4,fun bad' hc=>?_⟩
 obtain⟨v',hv,hn⟩:=g5 bad' hc
 subst hv
 simp only[List.singleton_append,List.cons.injEq]at g2
 obtain⟨rfl,_⟩:=g2
 exact hn
theorem io1E{R:Type}{ob0:Obs}{av:Nat->Prop}(hO:ObR b0 β ob0 w av){s:Sh}{ob:Obs}(hp:Part ob ob0){a:AV}{k:s.den->Obs->Option R}{r:R}{u:Value}(hk:iosK.io1 ob s a k=some r)(h:VR2 β ob0 w av a u []):
  ∃x ob' rk ok bs,k x ob'=some r/\Took β ob0 ob ob' rk ok bs/\(∀bad',Calm β ob0 w av rk bad'->VR2 noβ [] w bad' (ioOf (bVz s x)) u bs)/\(∀key off,a = .ptr key off->key∈ok)/\∀key,a = .ow key->key∈ok:=by
 unfold iosK.io1 at hk
 split at hk
 .rename_i τ key k
  split at hk
  .rename_i σ l hrow
   split at hk
   .rename_i hσ
    subst hσ
    have h0:=hp _ _ hrow
    obtain⟨_,τ',l',hl',hs⟩:=h
    rw[h0]at hl'
    cases hl'
    obtain⟨bs,hnew,hnd,hbs⟩:=row_own (off:=0) (len:=l.length) (hO.row key σ l h0) (by omega) hs
    rw[bP3]at hnew
    refine⟨l,delN ob key,[],[key],bs,hk,⟨Part.del _ _,by simp,fun k' hk'=>?_,by simp,hnd,fun b hb=>?_⟩,(fun bad' hb=>hnew bad' hb.1),by simp,by simp⟩
    .have:k'=key:=by simpa using hk'
     subst this
     exact⟨⟨_,hrow⟩,by rw[bMs];simp⟩
    .obtain⟨o,c,hβ⟩:=hbs b hb
     exact⟨key,by simp,cA7 h0 hβ⟩
   .cases hk
  .cases hk
 .cases hk
 .rename_i key hs
  split at hk
  .rename_i cs hbox
   have h0:=hp _ _ hbox
   obtain⟨_,b,c,cs',hb,hk',rfl⟩:=h
   rw[h0]at hk'
   cases hk'
   obtain⟨b',cells,elem,hb',hh,hvs⟩:=hO.box key cs h0
   rw[hb]at hb'
   cases hb'
   obtain⟨x,rest,ob',v1,v2,rk,ok,bs,h1,h2,h3,h4,h5⟩:=shE hO (Part.trans (Part.del ob key) hp) hk hvs
   cases rest with
   |cons _ _=>cases h1
   |nil=>
    cases h3
    rw[List.append_nil]at h2
    have hgone:Gone ob (delN ob key) key:=⟨⟨_,hbox⟩,by rw[bMs];simp⟩
    have hT:Took β ob0 ob (delN ob key) [] [key] [b]:=⟨Part.del _ _,by simp,fun k' hk'=>by
     have:k'=key:=by simpa using hk'
     subst this;exact hgone,by simp,by simp,fun y hy=>by
     have:y=b:=by simpa using hy
     subst this;exact⟨key,by simp,cA7 h0 hb⟩⟩
    refine⟨x,ob',rk,key::ok,b::bs,h1,hT.trans hO h4,fun bad' hbad=>?_,(fun k' o' he=>by cases he;simp),by simp⟩
    have hcells:=(h5 bad' hbad).cells (β:=noβ) (ob:=[])
    have hio:ioOf (bVz s x) = .nbox (shAV s x):=by
     cases s with
     |d τ=>rfl
     |own τ=>exact(hs τ k rfl HEq.rfl).elim
     |agg a b=>rfl
    rw[hio]
    refine⟨b,cells,elem,bs,rfl,rfl,hh,?_⟩
    rw[h2];exact hcells
  .cases hk
 .cases hk
def Mvd(w:World)(bad:Nat->Prop):List (Option AV)->List Value->List Nat->Prop
 |[],us,bs=>us=[]/\bs=[]
 |none::xs,u::us,bs=>Mvd w bad xs us bs
 |some x::xs,u::us,bs=>∃b1 b2,bs=b1++b2/\VR2 noβ [] w bad x u b1/\Mvd w bad xs us b2
 |_::_,[],_=>False
theorem movesV_sound{R:Type}{ob0:Obs}{av:Nat->Prop}(hO:ObR b0 β ob0 w av):∀{ms:List Mode} {vs:List AV} {us:List Value} {ob:Obs} {k:List (Option AV)->Obs->Option R} {r:R},Part ob ob0 ->
  bN6 ob ms vs k=some r->Two (fun v u=>VR2 β ob0 w av v u []) vs us->∃xs ob' rk ok bs,k xs ob'=some r/\Took β ob0 ob ob' rk ok bs/\(∀bad',Calm β ob0 w av rk bad'->Mvd w bad' xs us bs)/\∀key,cDe ms vs=some key->key∈ok:=by
 intro ms
 induction ms with
 |nil=>
  intro vs us ob k r hp hk h2
  cases h2 with
  |nil=>exact⟨[],ob,[],[],[],by simpa[bN6]using hk,Took.refl _ _ _,(fun _ _=>⟨rfl,rfl⟩),by simp[cDe]⟩
  |cons _ _=>simp[bN6]at hk
 |cons m ms ih=>
  intro vs us ob k r hp hk h2
  cases h2 with
  |nil=>cases m<;>simp[bN6]at hk
  |cons h1 h2=>
   cases m with
   |ro=>
    simp only[bN6]at hk
    obtain⟨xs,ob',rk,ok,bs,g1,g2,g3,g4⟩:=ih hp hk h2
    exact⟨none::xs,ob',rk,ok,bs,g1,g2,fun bad' hc=>g3 bad' hc,fun key hk=>g4 key hk⟩
   |mv s=>
    cases s with
    |own τ=>
     simp only[bN6]at hk
     obtain⟨x,ob1,rk1,ok1,bs1,e1,e2,e3⟩:=mv_sound hO hp h1 hk
     obtain⟨xs,ob',rk,ok,bs,g1,g2,g3,g4⟩:=ih (e2.part.trans hp) e1 h2
     refine⟨some (.new τ x)::xs,ob',rk1++rk,ok1++ok,bs1++bs,g1,Took.trans hO e2 g2,fun bad' hc=>⟨bs1,bs,rfl,e3 bad' (hc.sub (by simp +contextual)),g3 bad' (hc.sub (by simp +contextual))⟩,fun key hk=>List.mem_append_right _ (g4 key hk)⟩
    |_=>simp[bN6]at hk
   |io s=>
    simp only[bN6]at hk
    obtain⟨x,ob1,rk1,ok1,bs1,e1,e2,e3,e4,e5⟩:=io1E hO hp hk h1
    obtain⟨xs,ob',rk,ok,bs,g1,g2,g3,g4⟩:=ih (e2.part.trans hp) e1 h2
    refine⟨some (ioOf (bVz s x))::xs,ob',rk1++rk,ok1++ok,bs1++bs,g1,Took.trans hO e2 g2,fun bad' hc=>⟨bs1,bs,rfl,e3 bad' (hc.sub (by simp +contextual)),g3 bad' (hc.sub (by simp +contextual))⟩,fun key hk=>?_⟩
    rename_i a0 _ _ _ _
    cases a0<;>first
     |(have hk':=Option.some.inj hk;subst hk';exact List.mem_append_left _ (e4 _ _ rfl))
     |(have hk':=Option.some.inj hk;subst hk';exact List.mem_append_left _ (e5 _ rfl))
     |cases hk
theorem restV_sound{R:Type}{E:Env}{ob0:Obs}{av bad':Nat->Prop}(hO:ObR b0 β ob0 w av)(hb:∀b,b<w.heap.size->bad' b->av b):∀{xs:List (Option AV)} {ts:List TypeId} {vs:List AV} {us:List Value} {bs:List Nat} {k:List AV->Option R} {r:R},
  cAs E ob0 xs ts vs k=some r->Mvd w bad' xs us bs->Two (fun v u=>VR2 β ob0 w av v u []) vs us->∃ys,k ys=some r/\Vs (VR2 noβ [] w bad') ys us bs:=by
 intro xs
 induction xs with
 |nil=>
  intro ts vs us bs k r hk hm h2
  obtain⟨rfl,rfl⟩:=hm
  cases h2
  cases ts with
  |nil=>exact⟨[],by simpa[cAs]using hk,.nil⟩
  |cons _ _=>simp[cAs]at hk
 |cons x xs ih=>
  intro ts vs us bs k r hk hm h2
  cases h2 with
  |nil=>cases x<;>cases hm
  |cons h1 h2=>
   cases ts with
   |nil=>cases x<;>simp[cAs]at hk
   |cons t ts=>
    cases x with
    |some x=>
     simp only[cAs]at hk
     obtain⟨b1,b2,rfl,m1,m2⟩:=hm
     obtain⟨ys,g1,g2⟩:=ih hk m2 h2
     exact⟨x::ys,g1,Vs.cons m1 g2⟩
    |none=>
     simp only[cAs]at hk
     rename_i v u vs us
     cases ho:bSg v with
     |true=>rw[ho]at hk;cases hk
     |false=>
      rw[ho]at hk
      simp only[cond_false]at hk
      obtain⟨y,e1,e2⟩:=arg_sound hO hb hk h1 (by simp) (by rw[ho];simp)
      obtain⟨ys,g1,g2⟩:=ih e1 hm h2
      refine⟨y::ys,g1,?_⟩
      have:=Vs.cons e2 g2
      simpa using this
end
end
section
section
variable {b0:Nat->Prop} {β:bB5} {ob:Obs} {w:World} {f:Nat->List Nat}
theorem cDm:∀(ks:List Nat) {st:St} {tmps:Array Value} {key:Nat} {τ:Ty} {l:List τ.den},Rel b0 β st w tmps->bBc (bPi st ks).ob key=some (.row τ l)->bBc st.ob key=some (.row τ l)
 |[],st,tmps,key,τ,l,h,hk=>hk
 |k::ks,st,tmps,key,τ,l,h,hk=>by
  obtain⟨h1,_⟩:=cBo h k
  have:=cDm ks h1 hk
  unfold freeze at this
  split at this
  .obtain⟨_,y,h2,h3⟩:=bW9 this
   cases y with
   |row σ m=>cases h3;exact h2
   |box cs=>cases h3
  .exact this
theorem bKt{st:St}{a:Act}(hS:Rel b0 β st w a.tmps)(y:Operand):VR2 β st.ob w (Av b0 β st.ob F0) (bCm st.sl y) (a.eval y) []:=by
 obtain⟨by_,hy,_,_,hyf⟩:=opnd hS.sr y
 have hby:by_=[]:=by
  cases y with
  |tmp t=>exact hyf t rfl
  |_=>exact bYk hy (by first|rfl|(simp only[bCm];unfold cDt;split<;>rfl))
 rwa [hby]at hy
theorem storeR_sound{P:Program}{R:Type}{E:Env}(hA:bNb P E){st:St}{a:Act}(hS:Rel b0 β st w a.tmps){o:Oper}{t:TypeId}{x y:Operand}(ho:o.op = .store t x y){key j off:Nat}(hpx:bCm st.sl x = .rptr key j off){k:St->Option R}{r:R}
  (hk:cFe E o.dst st t key j off y k=some r) :
  ∃st',k st'=some r/\st'.f=st.f/\∀next Q,(∀v w',Goes b0 β st st' w w' (putT a.tmps o.dst v)->next (a.put o.dst v) w')->o.wp P a w next Q:=by
 obtain⟨bx,hx,_⟩:=opnd hS.sr x
 have run:∀{w':World},(Instr.storeAt t (a.eval x) (a.eval y)).run P w = .ok () w'->(execOp a.eval o).run P w = .ok .skip w':=by
  intro w' h
  unfold execOp
  rw[ho]
  simp[h]
 unfold cFe at hk
 simp only at hk
 obtain⟨hF,hFo,hFf⟩:=bPh ((refsOf (bCm st.sl y)).filter fun k=>!Nat.beq k key) hS
 generalize hst1:bPi st ((refsOf (bCm st.sl y)).filter fun k=>!Nat.beq k key)=st1 at hk hF hFo hFf
 split at hk
 .rename_i τ l σ hrow hty
  have hrow0:bBc st.ob key=some (.row τ l):=cDm _ hS (by rw[hst1];exact hrow)
  rw[hpx]at hx
  obtain⟨_,τ',l',b,o',c,hrow',hb,hv⟩:=hx
  rw[hrow0]at hrow'
  cases hrow'
  have hy:=bKt hF y
  obtain⟨v,hk1,henc,_⟩:=cAo hF.sr.obs (bad':=Av b0 β st1.ob F0) (fun _ _ h=>h) hk hy (by simp) (fun _ _ _ h=>by cases h)
  obtain⟨z,hz,hk2⟩:=bind_some hk1
  split at hk2
  .rename_i u hu
   obtain⟨b',o2,c2,hb2,hR⟩:=(hF.sr.obs.row key τ l hrow).resolve_left (fun h=>by rw[hb]at h;cases h.1)
   rw[hb]at hb2
   cases hb2
   have hob:Own β st1.ob b:=⟨key,_,_,_,hrow,hb⟩
   obtain⟨cells,elem,hh,hfit,hR'⟩:=row_set hR (.inr (.inl hob)) hz henc hu
   have hT:=hA.env.ty _ _ hty
   obtain⟨i,z0,hi,hs,_⟩:=hT.info
   have hlen:=bGc henc
   have hrun:=bSc (P:=P) (w:=w) (t:=t) ⟨i,hi,hs⟩ (v:=a.eval y) (o:=o'+j*τ.size+off) hh (by rw[<-Array.length_toList];exact hlen) (by omega) (cDo henc)
   have hsame:Same (· = b) w (w.setRow b (cells.toList.take (o'+j*τ.size+off)++(a.eval y).cells.toList++cells.toList.drop (o'+j*τ.size+off+(a.eval y).cells.toList.length)).toArray):=bM6 hh (bVc (by first|omega|(simp only[Array.length_toList]at *;omega)))
   have hW:=hF.sr.write (x':=.row τ (l.set j u)) hrow hb ⟨rfl,by simp⟩ hsame (fun τ' l' he=>by cases he;exact hR') (by simp)
   have hR2:Rel b0 β { st1 with ob:=setN st1.ob key (.row τ (l.set j u)) } _ a.tmps:=⟨hW,hF.nn⟩
   have hs2:Same (Own β st1.ob) w (w.setRow b (cells.toList.take (o'+j*τ.size+off)++(a.eval y).cells.toList++cells.toList.drop (o'+j*τ.size+off+(a.eval y).cells.toList.length)).toArray):=hsame.mono fun y _ hy=>hy▸hob
   obtain⟨β2,g1,g2⟩:=bT5 (dst:=o.dst) (β:=β) (ob:=st1.ob) hR2 hs2 (fun y hy=>.inl ((bMj hrow).1 hy))
   refine⟨_,hk2,by rw[<-hFf];cases o.dst<;>rfl,fun next Q hn=>cGb (run (by rw[hv];exact hrun)) (hn _ _ (Goes.frozen (st1:=st1) ⟨⟨β2,g1,g2⟩,hs2⟩ hFo))⟩
  .cases hk2
 .cases hk
theorem storeF_sound{P:Program}{R:Type}{E:Env}(hA:bNb P E){st:St}{a:Act}(hS:Rel b0 β st w a.tmps){o:Oper}{t:TypeId}{x y:Operand}(ho:o.op = .store t x y){key off:Nat}{g:FuncId}{caps:List AV}(hpx:bCm st.sl x = .ptr key off)(hpy:bCm st.sl y = .fn g caps)
  {k:St->Option R} {r:R} (hk:storeF E o.dst st t key off g caps k=some r) :
  ∃st',k st'=some r/\st'.f=st.f/\∀next Q,(∀v w',Goes b0 β st st' w w' (putT a.tmps o.dst v)->next (a.put o.dst v) w')->o.wp P a w next Q:=by
 have hx:=bKt hS x
 have hy:=bKt hS y
 rw[hpx]at hx
 rw[hpy]at hy
 obtain⟨_,b,c,cs',hb,hk',hv⟩:=hx
 obtain⟨_,vs,hvy,hvs⟩:=hy
 have hyF:VR1 β st.ob w (Av b0 β st.ob F0) (.fn g caps) (a.eval y) []:=⟨rfl,vs,hvy,hvs⟩
 have run:∀{w':World},(Instr.storeAt t (a.eval x) (a.eval y)).run P w = .ok () w'->(execOp a.eval o).run P w = .ok .skip w':=by
  intro w' h
  unfold execOp
  rw[ho]
  simp[h]
 have hcl:(a.eval y).cells.toList=[a.eval y]:=by rw[hvy];rfl
 unfold storeF at hk
 split at hk
 .rename_i cs hbox
  clear hk'
  obtain⟨hc,hk1⟩:=bCj hk
  rw[Bool.and_eq_true]at hc
  have hfit:off<cs.length:=Nat.lt_of_lt_of_le (Nat.lt_succ_self _) (Nat.le_of_ble_eq_true hc.1)
  obtain⟨b',cells,elem,hb',hh,hcv⟩:=hS.sr.obs.box key cs hbox
  rw[hb]at hb'
  cases hb'
  have hl2:cs.length=cells.size:=by have:=hcv.len;simpa using this
  have hrun:=bSc (P:=P) (w:=w) (t:=t) (hA.ot.size t hc.2) (v:=a.eval y) (o:=off) hh (by rw[<-Array.length_toList,hcl];rfl) (by omega) (by rw[hcl];intro u hu;rw[List.mem_singleton]at hu;subst hu;rw[hvy];rfl)
  have hsame:Same (· = b) w (w.setRow b (cells.toList.take off++(a.eval y).cells.toList++cells.toList.drop (off+(a.eval y).cells.toList.length)).toArray):=bM6 hh (bVc (by rw[hcl];simp;omega))
  have hob:Own β st.ob b:=⟨key,_,_,_,hbox,hb⟩
  have hW:=hS.sr.write (x':=.box (cs.take off++[AV.fn g caps]++cs.drop (off+1))) hbox hb (by simp only[Alike,List.length_append,List.length_take,List.length_drop,List.length_singleton];omega) hsame (by simp) (fun ds hd=>by
   cases hd
   refine⟨rfl,by simp only[List.length_append,List.length_take,List.length_drop,List.length_singleton];omega,_,elem,setRow_heap w b cells _ elem _ hh,?_⟩
   have cat:∀{r:AV->Value->List Nat->Prop} {as:List AV} {vs:List Value} (i j:Nat),Vs r as vs []->Vs r (as.take i) (vs.take i) []/\Vs r (as.drop j) (vs.drop j) []:=by
    intro r as vs i j h
    obtain⟨hl,hp⟩:=h.pointwise
    refine⟨Vs.of (by simp[hl]) fun q a v h1 h2=>?_,Vs.of (by simp[hl]) fun q a v h1 h2=>?_⟩
    .rw[List.getElem?_take]at h1 h2
     split at h1
     .rw[if_pos (by assumption)]at h2
      obtain⟨v',e1,e2⟩:=hp q a h1
      rw[h2]at e1;cases e1;exact e2
     .cases h1
    .rw[List.getElem?_drop]at h1 h2
     obtain⟨v',e1,e2⟩:=hp _ a h1
     rw[h2]at e1;cases e1;exact e2
   obtain⟨t1,_⟩:=cat off off hcv
   obtain⟨_,t2⟩:=cat 0 (off+1) hcv
   have all:Vs (VR1 β st.ob w (Av b0 β st.ob F0)) (cs.take off++[AV.fn g caps]++cs.drop (off+1)) (cells.toList.take off++(a.eval y).cells.toList++cells.toList.drop (off+(a.eval y).cells.toList.length)) []:=by
    rw[hcl]
    exact(t1.app (Vs.cons (b:=[]) hyF .nil)).app t2
   exact all.imp fun a v bs hbs hr=>bGk hsame (fun y _ hy=>hy ▸ .inr (.inl hob)) (fun _ _ h=>h) (fun y hy=>by have:=hbs y hy;simp at this) hr)
  have hR2:Rel b0 β { st with ob:=setN st.ob key (.box (cs.take off++[AV.fn g caps]++cs.drop (off+1))) } _ a.tmps:=⟨hW,hS.nn⟩
  have hs2:=hsame.mono (bad':=Own β st.ob) fun y _ hy=>hy▸hob
  obtain⟨β2,g1,g2⟩:=bT5 (dst:=o.dst) (β:=β) (ob:=st.ob) hR2 hs2 (fun y hy=>.inl ((bMj hbox).1 hy))
  exact⟨_,hk1,by cases o.dst<;>rfl,fun next Q hn=>cGb (run (by rw[hv];exact hrun)) (hn _ _ ⟨⟨β2,g1,g2⟩,hs2⟩)⟩
 .cases hk
theorem SR.world'{sl:List AV}{tmps:Array Value}{w':World}{bad0 b0':Nat->Prop}(h:SR b0 β ob w sl tmps F0)(hs:Same bad0 w w')(hb:∀b,b<w.heap.size->bad0 b->b0 b)
  (h1:∀b,b<w.heap.size->b0' b->b0 b) (h2:∀b,b0' b->b<w'.heap.size):SR b0' β ob w' sl tmps F0:=by
 have h0:∀b,b<w.heap.size->bad0 b->Av b0 β ob F0 b:=fun b hlt h=>.inl (hb b hlt h)
 have hav:∀b,b<w.heap.size->Av b0' β ob F0 b->Av b0 β ob F0 b:=fun b hlt h=>by
  rcases bXz.1 h with h|h
  .exact .inl (h1 b hlt h)
  .exact .inr (.inl h)
 have hO:=h.obs.mono hs h0 hav (fun b ho hbad=>(h.obs.lt b ho).2 (hb b (h.obs.lt b ho).1 hbad))
 exact⟨⟨hO.row,hO.box,hO.apart,fun b ho=>⟨(hO.lt b ho).1,fun hb0=>(h.obs.lt b ho).2 (h1 b (h.obs.lt b ho).1 hb0)⟩⟩,fun i=>bJd hs h0 hav (fun b hb=>by cases hb) (h.slot i),h.size,(fun i b hb=>by cases hb),fun i=>List.nodup_nil,(fun i j b hi=>by cases hi),h2⟩
theorem app_own{P:Program}{av:Nat->Prop}(hO:ObR b0 β ob w av)(hav:∀b,Own β ob b->av b){t te ty:TypeId}{e:Ty}(hu:P.underlying t=some (.slice te))(hte:TyIs P te e){key len:Nat}{l ys:List e.den}(hk:bBc ob key=some (.row e l))(hll:len<=l.length)
  {vx vy:Value} (hs:SlV β key e.size 0 len vx) (hy:Reads w av e ys vy) (hlim:len+ys.length<=LIM) :
  ∃u w' bs,(Builtin.append_ #[t,t] ty #[vx,vy]).run P w = .ok u w'/\Same (bFr β ob key) w w'/\bs.Nodup/\(∀b∈bs,b<w'.heap.size/\(bFr β ob key b\/w.heap.size<=b)) /\
   ∀bad',(∀b,b<w.heap.size->bad' b->av b)->newV w' bad' e (bFj l 0 len++ys) u bs:=by
 have hsl:(bFj l 0 len).length=len:=by simp[bFj];omega
 obtain⟨hx,_⟩:=bVd (off:=0) hO hk (by omega) hs
 have grow:∀{A:Option Addr} {c:Nat},vx = .slice A len c->(A=none->c=0)->c<len+ys.length ->
   ∃u w' bs,(Builtin.append_ #[t,t] ty #[vx,vy]).run P w = .ok u w'/\Same (bFr β ob key) w w'/\bs.Nodup/\(∀b∈bs,b<w'.heap.size/\(bFr β ob key b\/w.heap.size<=b)) /\
    ∀bad',(∀b,b<w.heap.size->bad' b->av b)->newV w' bad' e (bFj l 0 len++ys) u bs:=by
  intro A c hv hA hroom
  obtain⟨u,w',g1,g2,g3,g4⟩:=cHn (ty:=ty) hu hte hx (by rw[hsl];exact hv) hy hA (by rw[hsl];exact hroom) (by rw[hsl];exact hlim)
  refine⟨u,w',[w.heap.size],g1,g2.mono fun _ _ x=>x.elim,by simp,fun b hb=>?_,g4⟩
  have:b=w.heap.size:=by simpa using hb
  subst this
  exact⟨by omega,.inr (Nat.le_refl _)⟩
 have still:∀{A:Option Addr},vx = .slice A 0 0->len=0->ys=[] ->
   ∃u w' bs,(Builtin.append_ #[t,t] ty #[vx,vy]).run P w = .ok u w'/\Same (bFr β ob key) w w'/\bs.Nodup/\(∀b∈bs,b<w'.heap.size/\(bFr β ob key b\/w.heap.size<=b)) /\
    ∀bad',(∀b,b<w.heap.size->bad' b->av b)->newV w' bad' e (bFj l 0 len++ys) u bs:=by
  intro A hv hl0 hys
  subst hys
  subst hl0
  obtain⟨A2,c2,css2,rfl,g1,g2,g3,g4,g5⟩:=bRb hy
  obtain⟨i,z,hi,hsz,_⟩:=hte.info
  have hst:∀a,(storeCells a [] 0:Sem Unit).run P w = .ok () w:=fun a=>by simp[storeCells]
  have hf:(Builtin.firstCells i.size 0 (.slice A2 0 c2)).run P w = .ok #[] w:=by
   cases A2 with
   |none=>exact run_firstCells_none w i.size 0 0 c2
   |some a=>simpa using run_firstCells_some (P:=P) w i.size 0 a 0 c2 [] (by simp) (by simp)
  refine⟨.slice A 0 0,w,[],?_,Same.refl _ _,by simp,by simp,fun _ _=>.inl ⟨⟨A,rfl⟩,by simp[bFj],rfl⟩⟩
  rw[hv]
  cases A<;>simp[Builtin.append_,run_underlying hu,sizeOf,typeInfo,hi,Builtin.lenOf,hf,hst]
 unfold SlV at hs
 split at hs
 .obtain⟨⟨A,hv⟩,hl0⟩:=hs
  rcases Nat.eq_zero_or_pos ys.length with hz|hp
  .exact still hv hl0 (List.eq_nil_of_length_eq_zero hz)
  .exact grow (by rw[hl0];exact hv) (fun _=>rfl) (by omega)
 .rename_i b o c0 hb
  obtain⟨A,c,hv,h1,h2,h3⟩:=hs
  rcases Nat.lt_or_ge c (len+ys.length) with hroom|hroom
  .exact grow hv (fun h=>by cases h) hroom
  .rcases Nat.eq_zero_or_pos c with hc0|hcp
   .have hl0:len=0:=by omega
    exact still (by rw[hv,hc0,hl0]) hl0 (List.eq_nil_of_length_eq_zero (by omega))
   .have hA:A=o:=by rw[h3 (by omega)];simp
    subst hA
    obtain⟨b',o',c',hb',cells,elem,hh,hlc,hcs,hrd⟩:=(hO.row key e l hk).resolve_left (fun h=>by rw[hb]at h;cases h.1)
    rw[hb]at hb'
    cases hb'
    have hR:Row w av e (bFj l 0 len) b A c:=⟨cells,elem,hh,by omega,by have:=Nat.mul_le_mul_right e.size (show c<=c0 by omega);omega,fun i x hx=>hrd i x (by
     simp only[bFj,List.drop_zero,List.getElem?_take]at hx
     split at hx
     .exact hx
     .cases hx)⟩
    have hB:bFr β ob key b:=⟨_,_,_,hk,hb⟩
    obtain⟨w',g1,g2,g3,g4⟩:=app_room (ty:=ty) hu hte hR (hav b ⟨key,_,_,_,hk,hb⟩) hy (by rw[hsl];exact hroom)
    refine⟨_,w',[b],by rw[hv];rw[hsl]at g1;exact g1,g2.mono fun y _ hy=>hy▸hB,by simp,fun y hy=>?_,fun bad' hbad=>.inr ⟨b,A,c,rfl,rfl,g3.mono (bad0:=fun _=>False) (Same.refl _ w') (fun _ _ x=>x.elim) (fun y hlt hy=>?_) (fun x=>x)⟩⟩
    .have:y=b:=by simpa using hy
     subst this
     exact⟨Nat.lt_of_lt_of_le (hO.lt y ⟨key,_,_,_,hk,hb⟩).1 g2.1,.inl hB⟩
    .exact hbad y (by omega) hy
theorem cAg{P:Program}{R:Type}{E:Env}(hA:bNb P E){st:St}{a:Act}(hS:Rel b0 β st w a.tmps){o:Oper}{args:Array Operand}{ts:Array TypeId}(ho:o.op = .call ⟨.builtin .append,args,ts⟩){x y:Operand}(hargs:args.toList=[x,y])
  {key:Nat} {cut:Option Nat} (hx:match cut with|none=>bCm st.sl x = .ow key|some n=>bCm st.sl x = .own key 0 n) {k:St->Option R} {r:R} (hk:bZb E o.dst st ts key cut (bCm st.sl y) k=some r) :
  ∃st',k st'=some r/\st'.f=st.f/\∀next Q,(∀v w',Goes b0 β st st' w w' (putT a.tmps o.dst v)->next (a.put o.dst v) w')->o.wp P a w next Q:=by
 have hxr:=bKt hS x
 have hyr:=bKt hS y
 unfold bZb at hk
 split at hk
 .rename_i t t' hts
  obtain⟨htt,hk1⟩:=bCj hk
  clear hk
  have htt:=Nat.eq_of_beq_eq_true htt
  subst htt
  have hts':ts = #[t,t]:=by apply Array.ext';simpa using hts
  subst hts'
  split at hk1
  .rename_i σ l e hrow he
   split at hk1
   .rename_i hσ
    subst hσ
    obtain⟨ys,hk2,hyR,_⟩:=bRm hk1 hS.sr.obs hyr
    obtain⟨m,hm,hk3⟩:=bind_some hk2
    obtain⟨te,hu,hte⟩:=(hA.env.ty _ _ (bHr he)).listU
    obtain⟨len,hlen,hll,hs⟩:∃len,(match cut with|none=>l|some n=>bFj l 0 n)=bFj l 0 len/\len<=l.length/\SlV β key σ.size 0 len (a.eval x):=by
     cases cut with
     |none=>
      simp only at hx
      rw[hx]at hxr
      obtain⟨_,τ,l',hl',hs⟩:=hxr
      rw[hrow]at hl'
      cases hl'
      exact⟨l.length,(bP3 l).symm,Nat.le_refl _,hs⟩
     |some n=>
      simp only at hx
      rw[hx]at hxr
      obtain⟨_,τ,l',hl',hol,hs⟩:=hxr
      rw[hrow]at hl'
      cases hl'
      exact⟨n,rfl,by omega,hs⟩
    have hm':app (bFj l 0 len) ys=some m:=by
     rw[<-hlen]
     cases cut<;>exact hm
    obtain⟨rfl,hlim⟩:=cAf hm'
    have hsl:(bFj l 0 len).length=len:=by simp[bFj];omega
    obtain⟨u,w',bs,g1,g2,g3,g4,g5⟩:=app_own (P:=P) (ty:=o.type) hS.sr.obs (fun b h=>.inr (.inl h)) hu hte hrow hll hs hyR (by rw[hsl]at hlim;exact hlim)
    have hrun:(execOp a.eval o).run P w = .ok (.value u) w':=by
     unfold execOp
     rw[ho]
     have:args = #[x,y]:=by apply Array.ext';simpa using hargs
     subst this
     simp[resolve,invoke,builtin,g1]
    obtain⟨hK,hKo⟩:=hS.sr.kill key
    have hnn:cBy (st.sl.map (bXd key)):=hS.nn.lift (bZt key) (bZu key)
    have hB:∀b,bFr β st.ob key b->Own β st.ob b:=fun b ⟨x,o,c,h1,h2⟩=>⟨key,x,o,c,h1,h2⟩
    have hW:=hK.world' (w':=w') (bad0:=bFr β st.ob key) (b0':=fun b=>b0 b\/b∈bs) g2 (fun b _ h=>.inr h) (fun b hlt h=>by
     rcases h with h|h
     .exact .inl h
     .rcases(g4 b h).2 with h1|h1
      .exact .inr h1
      .omega) (fun b h=>by
     rcases h with h|h
     .exact Nat.lt_of_lt_of_le (hS.sr.b0lt b h) g2.1
     .exact(g4 b h).1)
    have hl:bR1 b0 β (mapB (bXd key) (delN st.ob key)) w' bs:=⟨g3,fun b hb=>⟨(g4 b hb).1,fun h0=>by
      rcases(g4 b hb).2 with h|h
      .exact(hS.sr.obs.lt b (hB b h)).2 h0
      .have:=hS.sr.b0lt b h0;omega,fun ho=>by
      rcases(g4 b hb).2 with h|h
      .exact(hK.obs.lt b ho).2 (.inr h)
      .have:=(hS.sr.obs.lt b (hKo b ho)).1;omega⟩⟩
    have hnew:=g5 (fun b=>b0 b\/Own β (mapB (bXd key) (delN st.ob key)) b\/b∈bs) (fun b hlt h=>by
     rcases h with h|h|h
     .exact .inl h
     .exact .inr (.inl (hKo b h))
     .rcases(g4 b h).2 with h1|h1
      .exact .inr (.inl (hB b h1))
      .omega)
    have hs2:Same (Own β st.ob) w w':=g2.mono fun b _ h=>hB b h
    have hres:∃β',Rel b0 β' ((bQ0 key { st with ob:=delN st.ob key }).put o.dst (.new σ (bFj l 0 len++ys))) w' (putT a.tmps o.dst u) /\
      ∀b,Own β' ((bQ0 key { st with ob:=delN st.ob key }).put o.dst (.new σ (bFj l 0 len++ys))).ob b->Own β st.ob b\/w.heap.size<=b:=by
     have ob_:∀b,b∈bs->Own β st.ob b\/w.heap.size<=b:=fun b hb=>(g4 b hb).2.imp (hB b) id
     cases hd:o.dst with
     |some t0=>
      obtain⟨β',h1,h2,h3⟩:=hW.putL (key:=keyOf t0) (v:=u) (av:=.new σ (bFj l 0 len++ys)) hl hnew t0
      refine⟨β',⟨h1,bRi hnn h2⟩,fun b hb=>?_⟩
      rcases h3 b hb with h|h
      .exact .inl (hKo b h)
      .exact ob_ b h
     |none=>exact⟨β,⟨hW.weakB fun b h=>.inl h,hnn⟩,fun b hb=>.inl (hKo b hb)⟩
    obtain⟨β',h1,h2⟩:=hres
    have hk3':k ((bQ0 key { st with ob:=delN st.ob key }).put o.dst (.new σ (bFj l 0 len++ys)))=some r:=hk3
    exact⟨_,hk3',by cases o.dst<;>rfl,fun next Q hn=>bR7 hrun (hn u w' ⟨⟨β',h1,h2⟩,hs2⟩)⟩
   .cases hk1
  .cases hk1
 .cases hk
end
end
section
section
variable {b0:Nat->Prop} {β:bB5} {w:World}
theorem cCq{ob:Obs}{key:Nat}{x:Ob}(h:bBc ob key=some x):setN ob key x=ob:=by
 induction ob with
 |nil=>cases h
 |cons p r ih=>
  obtain⟨k,y⟩:=p
  rw[bC2]at h
  unfold setN
  by_cases hk:k=key
  .have:Nat.beq k key=true:=by simp[hk]
   rw[this,cond_true]
   rw[if_pos hk]at h
   cases h;rfl
  .have:Nat.beq k key=false:=by rw[<-Bool.not_eq_true];simp[hk]
   rw[this,cond_false]
   rw[if_neg hk]at h
   rw[ih h]
theorem lim_some{α γ:Type}{f:List α->γ}{l:List α}{y:γ}(h:lim f l=some y):l.length<=LIM/\y=f l:=by
 unfold lim at h
 split at h
 .rename_i h1;cases h;exact⟨h1,rfl⟩
 .cases h
theorem cutl_some{α:Type}{l y:List α}{i j:Int}(h:cutl l i j=some y):0<=i/\i<=j/\j<=(l.length:Int)/\l.length<=LIM/\y=l.take i.toNat++l.drop j.toNat:=by
 unfold cutl at h
 split at h
 .rename_i h1;cases h;exact⟨h1.1,h1.2.1,h1.2.2.1,h1.2.2.2,rfl⟩
 .cases h
theorem consume{st:St}{tmps:Array Value}(hS:Rel b0 β st w tmps){key:Nat}{av:AV}{u:Value}{w':World}{bs:List Nat}(g2:Same (bFr β st.ob key) w w')(g3:bs.Nodup)
  (g4:∀b∈bs,b<w'.heap.size/\(bFr β st.ob key b\/w.heap.size<=b)) (g5:∀bad',VR2 β (mapB (bXd key) (delN st.ob key)) w' bad' av u bs) (dst:Option Tmp) :
  Goes b0 β st ((bQ0 key { st with ob:=delN st.ob key }).put dst av) w w' (putT tmps dst u):=by
 obtain⟨hK,hKo⟩:=hS.sr.kill key
 have hnn:cBy (st.sl.map (bXd key)):=hS.nn.lift (bZt key) (bZu key)
 have hB:∀b,bFr β st.ob key b->Own β st.ob b:=fun b ⟨x,o,c,h1,h2⟩=>⟨key,x,o,c,h1,h2⟩
 have hW:=hK.world' (w':=w') (bad0:=bFr β st.ob key) (b0':=fun b=>b0 b\/b∈bs) g2 (fun b _ h=>.inr h) (fun b hlt h=>by
  rcases h with h|h
  .exact .inl h
  .rcases(g4 b h).2 with h1|h1
   .exact .inr h1
   .omega) (fun b h=>by
  rcases h with h|h
  .exact Nat.lt_of_lt_of_le (hS.sr.b0lt b h) g2.1
  .exact(g4 b h).1)
 have hl:bR1 b0 β (mapB (bXd key) (delN st.ob key)) w' bs:=⟨g3,fun b hb=>⟨(g4 b hb).1,fun h0=>by
   rcases(g4 b hb).2 with h|h
   .exact(hS.sr.obs.lt b (hB b h)).2 h0
   .have:=hS.sr.b0lt b h0;omega,fun ho=>by
   rcases(g4 b hb).2 with h|h
   .exact(hK.obs.lt b ho).2 (.inr h)
   .have:=(hS.sr.obs.lt b (hKo b ho)).1;omega⟩⟩
 have hs2:Same (Own β st.ob) w w':=g2.mono fun b _ h=>hB b h
 have ob_:∀b,b∈bs->Own β st.ob b\/w.heap.size<=b:=fun b hb=>(g4 b hb).2.imp (hB b) id
 cases dst with
 |some t0=>
  obtain⟨β',h1,h2,h3⟩:=hW.putL (key:=keyOf t0) (v:=u) (av:=av) hl (g5 _) t0
  refine⟨⟨β',⟨h1,bRi hnn h2⟩,fun b hb=>?_⟩,hs2⟩
  rcases h3 b hb with h|h
  .exact .inl (hKo b h)
  .exact ob_ b h
 |none=>exact⟨⟨β,⟨hW.weakB fun b h=>.inl h,hnn⟩,fun b hb=>.inl (hKo b hb)⟩,hs2⟩
theorem row_at{st:St}{tmps:Array Value}(hS:Rel b0 β st w tmps){key:Nat}{τ:Ty}{l:List τ.den}(hrow:bBc st.ob key=some (.row τ l)){u:Value}(hu:VR2 β st.ob w (Av b0 β st.ob F0) (.ow key) u []):
  (l=[]/\∃A,u = .slice A 0 0)\/∃b o c0 C,u = .slice (some ⟨b,o,none⟩) l.length C/\l.length<=C/\C<=c0/\β key=some (b,o,c0)/\Row w (Av b0 β st.ob F0) τ l b o c0:=by
 obtain⟨_,τ',l',hl',hs⟩:=hu
 rw[hrow]at hl'
 cases hl'
 unfold SlV at hs
 split at hs
 .obtain⟨⟨A,hv⟩,hl0⟩:=hs
  exact .inl ⟨List.eq_nil_of_length_eq_zero hl0,A,hv⟩
 .rename_i b o c0 hb
  obtain⟨A,C,hv,h1,h2,h3⟩:=hs
  by_cases hC:C=0
  .have hl0:l.length=0:=by omega
   exact .inl ⟨List.eq_nil_of_length_eq_zero hl0,some ⟨b,A,none⟩,by rw[hv,hC,hl0]⟩
  .have hA:=h3 hC
   simp only[Nat.zero_mul,Nat.add_zero]at hA
   subst hA
   obtain⟨b',o',c',hb',hR⟩:=(hS.sr.obs.row key τ l hrow).resolve_left (fun h=>by rw[hb]at h;cases h.1)
   rw[hb]at hb'
   cases hb'
   exact .inr ⟨b,A,c0,C,hv,h1,by omega,hb,hR⟩
theorem row_cut{bad bad':Nat->Prop}{τ:Ty}(hτ:τ.hasList=false){l:List τ.den}{b o c C:Nat}(hR:Row w bad τ l b o c)(h1:l.length<=C)(h2:C<=c):Row w bad' τ l b o C:=by
 obtain⟨cells,elem,hh,hlc,hcs,hrd⟩:=hR
 exact⟨cells,elem,hh,⟨h1,by omega⟩,by have:=Nat.mul_le_mul_right τ.size h2;omega,fun i x hx=>let ⟨ds,he,hd⟩:=hrd i x hx;⟨ds,bQm hτ he,hd⟩⟩
theorem extArgs_vals{bad:Nat->Prop}{ob:Obs}{c:Option FuncId}{r:List AV}{us:List Value}(h:bVo c r=true)(h2:Two (fun v u=>VR2 β ob w bad v u []) r us):us=cmpArg c:=by
 cases c with
 |none=>
  cases h2 with
  |nil=>rfl
  |cons _ _=>simp[bVo]at h
 |some g=>
  cases h2 with
  |nil=>simp[bVo]at h
  |cons h3 h4=>
   rename_i a u as us
   cases h4 with
   |cons _ _=>cases a<;>simp[bVo]at h
   |nil=>
    cases a with
    |fn g' caps=>
     cases caps with
     |nil=>
      simp only[bVo]at h
      have:=Nat.eq_of_beq_eq_true h
      subst this
      obtain⟨_,vs,hv,hvs⟩:=h3
      cases hvs
      rw[hv];rfl
     |cons _ _=>simp[bVo]at h
    |_=>simp[bVo]at h
theorem extK_sound{P:Program}{R:Type}{E:Env}(hX:ExtOk P E){st:St}{a:Act}(hS:Rel b0 β st w a.tmps){o:Oper}{fn:Operand}{args:Array Operand}{ts:Array TypeId}{g:FuncId}{x:Xt}
  (ho:o.op = .call ⟨.value fn,args,ts⟩) (hfn:bCm st.sl fn = .fn g []) (hso:bBc E.so g=some x) {k:St->Option R} {r:R} (hk:extK x o.dst st (args.toList.map (bCm st.sl)) k=some r) :
  ∃st',k st'=some r/\st'.f=st.f/\∀next Q,(∀v w',Goes b0 β st st' w w' (putT a.tmps o.dst v)->next (a.put o.dst v) w')->o.wp P a w next Q:=by
 obtain⟨hent,hdo⟩:=hX g x hso
 have enter:∀{us:List Value},args.toList.map a.eval=us->a.eval fn = .func (.func g) #[] #[]->Enters P g->(execOp a.eval o).run P w = .ok (.enter g us.toArray) w:=by
  intro us hus hv hent
  have hr:=hent.run us.toArray w
  have he:Array.map a.eval args=us.toArray:=by
   apply Array.ext';simp[<-hus]
  unfold execOp
  rw[ho]
  simp only[resolve,hv,Deferred.ofValue,Sem.run_bind,Sem.run_pure,Result.andThen_ok,invoke,Array.empty_append,Array.append_empty,he,hr]
 have hfv:a.eval fn = .func (.func g) #[] #[]:=by
  obtain⟨bf,hf1,_⟩:=opnd hS.sr fn
  rw[hfn]at hf1
  obtain⟨_,cv,hfv,hcv⟩:=hf1
  cases hcv
  exact hfv
 have two:∀xs:List Operand,Two (fun v u=>VR2 β st.ob w (Av b0 β st.ob F0) v u []) (xs.map (bCm st.sl)) (xs.map a.eval):=by
  intro xs
  induction xs with
  |nil=>exact .nil
  |cons x xs ih=>exact .cons (bKt hS x) ih
 have two:=two args.toList
 generalize hus:args.toList.map a.eval=us at two
 generalize args.toList.map (bCm st.sl)=as at two hk
 have done:∀{st':St} {next:Act->World->Prop} {Q:Exit->Act->World->Prop} {us':List Value} {post:Ending->World->Prop},us=us'->Calls P g us'.toArray w post ->
   (∀e w',post e w'->∃v,e = .returned v/\Goes b0 β st st' w w' (putT a.tmps o.dst v))->(∀v w',Goes b0 β st st' w w' (putT a.tmps o.dst v)->next (a.put o.dst v) w')->o.wp P a w next Q:=by
  intro st' next Q us' post he hc hp hn
  subst he
  simp only[Oper.wp,enter hus hfv hent,Oper.upon]
  refine hc.mono fun en w' h=>?_
  obtain⟨v,rfl,hg⟩:=hp en w' h
  exact hn v w' hg
 unfold extK at hk
 split at hk
 .rename_i τ f c key rs
  obtain⟨hlen,hnil,hrun⟩:=hdo
  obtain⟨hea,hk1⟩:=bCj hk
  clear hk
  split at hk1
  .rename_i σ l hrow
   split at hk1
   .rename_i hσ
    subst hσ
    obtain⟨m,hm,hk2⟩:=bind_some hk1
    obtain⟨hlim,rfl⟩:=lim_some hm
    cases two with
    |cons h1 h2=>
     rename_i u0 us0
     have hc:=extArgs_vals hea h2
     subst hc
     refine⟨_,hk2,by cases o.dst<;>rfl,fun next Q hn=>?_⟩
     have put:∀{w':World},Rel b0 β { st with ob:=setN st.ob key (.row σ (f l)) } w' a.tmps->Same (Own β st.ob) w w'->Goes b0 β st ({ st with ob:=setN st.ob key (.row σ (f l)) }.put o.dst (.tup [])) w w' (putT a.tmps o.dst (.tuple #[])):=by
      intro w' hR hs
      obtain⟨β',g1,g2⟩:=hR.put (w':=w') (used:=[]) (av:=.tup []) (v:=.tuple #[]) (bs:=[]) (Done.stay ⟨[],rfl,.nil⟩) o.dst
      refine⟨⟨β',g1,fun b hb=>?_⟩,hs⟩
      rcases g2 b hb with h3|h3
      .exact .inl ((bMj hrow).1 h3)
      .exact .inr (Nat.le_trans hs.1 h3)
     have still:l=[]->Rel b0 β { st with ob:=setN st.ob key (.row σ (f l)) } w a.tmps:=by
      intro he
      have hf0:f l=l:=by rw[he];exact List.eq_nil_of_length_eq_zero (hlen [])
      rw[hf0,cCq hrow]
      exact hS
     rcases row_at hS hrow h1 with⟨hl0,A,rfl⟩|⟨b,o',c0,C,rfl,hC1,hC2,hb,hR⟩
     .refine done rfl (hnil w A 0) (fun e w' hp=>?_) hn
      obtain⟨rfl,rfl⟩:=hp
      exact⟨_,rfl,put (still hl0) (Same.refl _ _)⟩
     .by_cases hl0:l=[]
      .refine done (us':=.slice (some ⟨b,o',none⟩) 0 C::cmpArg c) (by rw[hl0];rfl) (hnil w _ C) (fun e w' hp=>?_) hn
       obtain⟨rfl,rfl⟩:=hp
       exact⟨_,rfl,put (still hl0) (Same.refl _ _)⟩
      .refine done rfl (hrun _ w l b o' c0 C hR hl0 hC1 hlim) (fun e w' hp=>?_) hn
       obtain⟨rfl,hsame,hR'⟩:=hp
       have hW:=hS.sr.write (x':=.row σ (f l)) hrow hb ⟨rfl,hlen l⟩ hsame (fun τ' l' he=>by cases he;exact hR' _) (by simp)
       exact⟨_,rfl,put ⟨hW,hS.nn⟩ (hsame.mono fun y _ hy=>hy▸⟨key,_,_,_,hrow,hb⟩)⟩
   .cases hk1
  .cases hk1
 .rename_i τ f key
  obtain⟨hτ,hf0,hnil,hrun⟩:=hdo
  split at hk
  .rename_i σ l hrow
   split at hk
   .rename_i hσ
    subst hσ
    obtain⟨m,hm,hk2⟩:=bind_some hk
    obtain⟨hlim,rfl⟩:=lim_some hm
    cases two with
    |cons h1 h2=>
     rename_i u0 us0
     cases h2
     refine⟨_,hk2,by cases o.dst<;>rfl,fun next Q hn=>?_⟩
     rcases row_at hS hrow h1 with⟨hl0,A,rfl⟩|⟨b,o',c0,C,rfl,hC1,hC2,hb,hR⟩
     .refine done rfl (hnil w A 0) (fun e w' hp=>?_) hn
      obtain⟨rfl,rfl⟩:=hp
      refine⟨_,rfl,consume hS (bs:=[]) (Same.refl _ _) List.nodup_nil (by simp) (fun bad'=>?_) _⟩
      subst hl0
      rw[hf0]
      exact .inl ⟨⟨A,rfl⟩,rfl,rfl⟩
     .have hB:bFr β st.ob key b:=⟨_,_,_,hrow,hb⟩
      by_cases hl0:l=[]
      .refine done (us':=[.slice (some ⟨b,o',none⟩) 0 C]) (by rw[hl0];rfl) (hnil w _ C) (fun e w' hp=>?_) hn
       obtain⟨rfl,rfl⟩:=hp
       refine⟨_,rfl,consume hS (bs:=[b]) (Same.refl _ _) (by simp) (fun y hy=>?_) (fun bad'=>?_) _⟩
       .rw[List.mem_singleton]at hy
        subst hy
        exact⟨hR.lt,.inl hB⟩
       .subst hl0
        rw[hf0]
        exact .inr ⟨b,o',C,rfl,rfl,row_cut hτ hR hC1 hC2⟩
      .refine done rfl (hrun _ w l b o' c0 C hR hl0 hC1 hC2 hlim) (fun e w' hp=>?_) hn
       obtain⟨rfl,hsame,hR'⟩:=hp
       refine⟨_,rfl,consume hS (bs:=[b]) (hsame.mono fun y _ hy=>hy▸hB) (by simp) (fun y hy=>?_) (fun bad'=>?_) _⟩
       .rw[List.mem_singleton]at hy
        subst hy
        exact⟨(hR' fun _=>False).lt,.inl hB⟩
       .exact .inr ⟨b,o',C,rfl,rfl,hR' bad'⟩
   .cases hk
  .cases hk
 .rename_i f
  have doCalc:∀(av:AV),f st.ob as=some (true,av)->k (st.put o.dst av)=some r->∃st',k st'=some r/\st'.f=st.f/\∀next Q,(∀v w',Goes b0 β st st' w w' (putT a.tmps o.dst v)->next (a.put o.dst v) w')->o.wp P a w next Q:=by
   intro av hf hk
   refine⟨_,hk,by cases o.dst<;>rfl,fun next Q hn=>?_⟩
   refine done rfl (hdo b0 β st.ob w _ hS.sr.obs hS.sr.b0lt as us av two hf) (fun e w' hp=>?_) hn
   obtain⟨v,rfl,hs,hr⟩:=hp
   obtain⟨β',g1,g2⟩:=hS.put (w':=w') (used:=[]) (av:=av) (v:=v) (bs:=[]) ⟨hs.mono fun _ _ x=>x.elim,hr _,List.nodup_nil,by simp⟩ o.dst
   exact⟨v,rfl,⟨β',g1,g2⟩,hs.mono fun _ _ x=>x.elim⟩
  split at hk
  .rename_i b _ _ hf
   obtain⟨rfl,hk⟩:=bCj hk
   exact doCalc _ hf hk
  .rename_i b _ _ _ hf
   obtain⟨rfl,hk⟩:=bCj hk
   exact doCalc _ hf hk
  .cases hk
 .rename_i τ key i j
  obtain⟨hτ,hnil,hrun⟩:=hdo
  split at hk
  .rename_i σ l hrow
   split at hk
   .rename_i hσ
    subst hσ
    have hk1:(cutl l i j).bind (fun l=>k ((bQ0 key { st with ob:=delN st.ob key }).put o.dst (.new σ l)))=some r:=hk
    clear hk
    obtain⟨m,hm,hk2⟩:=bind_some hk1
    obtain⟨hi,hij,hj,hlim,rfl⟩:=cutl_some hm
    clear hm hk1
    cases two with
    |cons h1 h2=>
     rename_i u0 us0
     cases h2 with
     |cons h3 h4=>
      cases h4 with
      |cons h5 h6=>
       cases h6
       obtain⟨rfl,-⟩:=bDw h3
       obtain⟨rfl,-⟩:=bDw h5
       obtain⟨i,rfl⟩:=Int.eq_ofNat_of_zero_le hi
       obtain⟨j,rfl⟩:=Int.eq_ofNat_of_zero_le (Int.le_trans hi hij)
       simp only[Int.toNat_natCast]at hk2
       refine⟨_,hk2,by cases o.dst<;>rfl,fun next Q hn=>?_⟩
       have zero:l=[]->i=0/\j=0:=fun he=>by subst he;simp only[List.length_nil]at hj;omega
       have hcl:l=[]->l.take i++l.drop j=[]:=fun he=>by subst he;simp
       rcases row_at hS hrow h1 with⟨hl0,A,rfl⟩|⟨b,o',c0,C,rfl,hC1,hC2,hb,hR⟩
       .refine done (us':=[.slice A 0 0,.int .i64 0,.int .i64 0]) (by rw[(zero hl0).1,(zero hl0).2];rfl) (hnil w A 0) (fun e w' hp=>?_) hn
        obtain⟨rfl,rfl⟩:=hp
        refine⟨_,rfl,consume hS (bs:=[]) (Same.refl _ _) List.nodup_nil (by simp) (fun bad'=>?_) _⟩
        rw[hcl hl0]
        exact .inl ⟨⟨A,rfl⟩,rfl,rfl⟩
       .have hB:bFr β st.ob key b:=⟨_,_,_,hrow,hb⟩
        by_cases hl0:l=[]
        .refine done (us':=[.slice (some ⟨b,o',none⟩) 0 C,.int .i64 0,.int .i64 0]) (by rw[(zero hl0).1,(zero hl0).2,hl0];rfl) (hnil w _ C) (fun e w' hp=>?_) hn
         obtain⟨rfl,rfl⟩:=hp
         refine⟨_,rfl,consume hS (bs:=[b]) (Same.refl _ _) (by simp) (fun y hy=>?_) (fun bad'=>?_) _⟩
         .rw[List.mem_singleton]at hy
          subst hy
          exact⟨hR.lt,.inl hB⟩
         .rw[hcl hl0]
          rw[hl0]at hR hC1
          exact .inr ⟨b,o',C,rfl,rfl,row_cut hτ hR hC1 hC2⟩
        .refine done rfl (hrun _ w l b o' c0 C i j hR hl0 hC1 hC2 (by obtain⟨_,_,_,hq,_⟩:=hR;omega) hlim (by omega) (by omega)) (fun e w' hp=>?_) hn
         obtain⟨rfl,hsame,hR'⟩:=hp
         refine⟨_,rfl,consume hS (bs:=[b]) (hsame.mono fun y _ hy=>hy▸hB) (by simp) (fun y hy=>?_) (fun bad'=>?_) _⟩
         .rw[List.mem_singleton]at hy
          subst hy
          exact⟨(hR' fun _=>False).lt,.inl hB⟩
         .exact .inr ⟨b,o',C,rfl,rfl,hR' bad'⟩
   .cases hk
  .cases hk
 .cases hk
theorem cBq{P:Program}{te:TypeId}{e:Ty}(hT:TyIs P te e)(h1:e.one=true):∃i z,P.info? te=some i/\i.zero=some z/\z.cells = #[z]/\z.oneCell'=true/\e.size=1/\∀(w:World) bad,enc w bad e e.zero [z]:=by
 obtain⟨i,z,hi,hsz,_,hz,hzc,hzv⟩:=hT.info
 refine⟨i,z,hi,hz,?_⟩
 cases e with
 |int κ=>
  have:z = .int κ 0:=by simpa[Vrep,zeroV]using hzv.symm
  subst this
  exact⟨rfl,rfl,rfl,fun _ _=>rfl⟩
 |bool=>
  have:z = .bool false:=by simpa[Vrep,zeroV]using hzv.symm
  subst this
  exact⟨rfl,rfl,rfl,fun _ _=>rfl⟩
 |list e=>cases h1
 |pair a b=>cases h1
theorem row_write{bad:Nat->Prop}{τ:Ty}(h1:τ.size=1)(hτ:τ.hasList=false){l zs:List τ.den}{vs:List Value}{b o c off:Nat}(hR:Row w bad τ l b o c)(hl:off+zs.length<=l.length)(hv:vs.length=zs.length)(hz:∀(i:Nat) (x:τ.den) (v:Value),zs[i]?=some x->vs[i]?=some v->∀w' bad',enc w' bad' τ x [v]):
  ∃cells elem,w.heap[b]?=some (.cells cells elem (0,0))/\o+off+vs.length<=cells.size/\Same (· = b) w (w.setRow b (cells.toList.take (o+off)++vs++cells.toList.drop (o+off+vs.length)).toArray) /\
   ∀bad',Row (w.setRow b (cells.toList.take (o+off)++vs++cells.toList.drop (o+off+vs.length)).toArray) bad' τ (l.take off++zs++l.drop (off+zs.length)) b o c:=by
 obtain⟨cells,elem,hh,hlc,hcs,hrd⟩:=hR
 rw[h1,Nat.mul_one]at hcs
 have hfit:o+off+vs.length<=cells.size:=by omega
 have hsame:=bM6 hh (bVc (ds:=vs) (o:=o+off) hfit)
 refine⟨cells,elem,hh,hfit,hsame,fun bad'=>⟨_,elem,setRow_heap w b cells _ elem _ hh,⟨by simp;omega,hlc.2⟩,by rw[bVc hfit,h1,Nat.mul_one];exact hcs,fun i x hx=>?_⟩⟩
 have hget:∀k,(cells.toList.take (o+off)++vs++cells.toList.drop (o+off+vs.length)).toArray[k]?=if k<o+off then cells[k]? else if k<o+off+vs.length then vs[k-(o+off)]? else cells[k]?:=by
  intro k
  rw[List.getElem?_toArray,bZz (by simp;omega)]
  simp only[Array.getElem?_toList]
 have hgl:=bZz (cs:=cells.toList) (ds:=vs) (o:=o+off) (k:=o+i) (by simp;omega)
 have hll:(l.take off++zs++l.drop (off+zs.length))[i]?=if i<off then l[i]? else if i<off+zs.length then zs[i-off]? else l[i]?:=by
  have htl:(l.take off).length=off:=by simp;omega
  rw[List.append_assoc]
  by_cases hk:i<off
  .rw[if_pos hk,List.getElem?_append_left (by omega),List.getElem?_take_of_lt hk]
  .rw[if_neg hk,List.getElem?_append_right (by omega),htl]
   by_cases hk2:i<off+zs.length
   .rw[if_pos hk2,List.getElem?_append_left (by omega)]
   .rw[if_neg hk2,List.getElem?_append_right (by omega),List.getElem?_drop]
    congr 1;omega
 rw[hll]at hx
 have old:l[i]?=some x->(i<off\/off+zs.length<=i)->∃ds,enc (w.setRow b (cells.toList.take (o+off)++vs++cells.toList.drop (o+off+vs.length)).toArray) bad' τ x ds/\∀(j:Nat) v,ds[j]?=some v->(cells.toList.take (o+off)++vs++cells.toList.drop (o+off+vs.length)).toArray[o+i*τ.size+j]?=some v:=fun hx hi=>by
  obtain⟨ds,he,hd⟩:=hrd i x hx
  have hlen:=bGc he
  refine⟨ds,bQm hτ (bHk (bad0:=(· = b)) (bad:=fun _=>True) (bad':=fun _=>True) hsame (fun _ _ _=>trivial) (fun _ _ h=>h) (bQm hτ he)),fun j v hj=>?_⟩
  have hj0:j=0:=by have:=bHt hj;omega
  subst hj0
  have:=hd 0 v hj
  rw[h1]at this ⊢
  rw[hget]
  rcases hi with hi|hi
  .rw[if_pos (by omega)];exact this
  .rw[if_neg (by omega),if_neg (by omega)];exact this
 by_cases hk:i<off
 .rw[if_pos hk]at hx
  exact old hx (.inl hk)
 .rw[if_neg hk]at hx
  by_cases hk2:i<off+zs.length
  .rw[if_pos hk2]at hx
   have hi:=bHt hx
   have hvi:vs[i-off]?=some (vs[i-off]'(by omega)):=List.getElem?_eq_getElem (by omega)
   refine⟨[vs[i-off]'(by omega)],hz _ _ _ hx hvi _ _,fun j v hj=>?_⟩
   have hj0:j=0:=by have:=bHt hj;simpa using this
   subst hj0
   simp only[List.getElem?_cons_zero,Option.some.injEq]at hj
   subst hj
   rw[h1,hget,if_neg (by omega),if_pos (by omega),show o+i*1+0-(o+off)=i-off from by omega,hvi]
  .rw[if_neg hk2]at hx
   exact old hx (.inr (by omega))
theorem clearK_sound{P:Program}{R:Type}{E:Env}(hA:bNb P E){st:St}{a:Act}(hS:Rel b0 β st w a.tmps){o:Oper}{args:Array Operand}{ts:Array TypeId}(ho:o.op = .call ⟨.builtin .clear,args,ts⟩){x:Operand}(hargs:args.toList=[x])
  {k:St->Option R} {r:R} (hk:clearK E o.dst st ts (bCm st.sl x) k=some r) :
  ∃st',k st'=some r/\st'.f=st.f/\∀next Q,(∀v w',Goes b0 β st st' w w' (putT a.tmps o.dst v)->next (a.put o.dst v) w')->o.wp P a w next Q:=by
 have hxr:=bKt hS x
 unfold clearK at hk
 split at hk
 .rename_i key hx
  rw[hx]at hxr
  split at hk
  .rename_i e τ l he hrow
   obtain⟨hc,hk1⟩:=bCj hk
   clear hk
   rw[Bool.and_eq_true,decide_eq_true_iff]at hc
   obtain⟨rfl,hone⟩:=hc
   rw[Option.bind_eq_some_iff]at he
   obtain⟨t,ht0,hte⟩:=he
   obtain⟨te,hu,hTe⟩:=(hA.env.ty _ _ (bHr hte)).listU
   obtain⟨i,z,hi,hz,hzc,hz1,hes,hze⟩:=cBq hTe hone
   have hτ:e.hasList=false:=by cases e<;>first|rfl|cases hone
   have hargs':args = #[x]:=by apply Array.ext';simpa using hargs
   have exec:∀{w':World},(Builtin.clear_ ts o.type #[a.eval x]).run P w = .ok (.tuple #[]) w'->(execOp a.eval o).run P w = .ok (.value (.tuple #[])) w':=by
    intro w' h
    unfold execOp
    rw[ho]
    subst hargs'
    simp[resolve,invoke,builtin,h]
   have put:∀{w':World},Rel b0 β { st with ob:=setN st.ob key (.row e (List.replicate l.length e.zero)) } w' a.tmps->Same (Own β st.ob) w w'->Goes b0 β st ({ st with ob:=setN st.ob key (.row e (List.replicate l.length e.zero)) }.put o.dst (.tup [])) w w' (putT a.tmps o.dst (.tuple #[])):=by
    intro w' hR hs
    obtain⟨β',g1,g2⟩:=hR.put (w':=w') (used:=[]) (av:=.tup []) (v:=.tuple #[]) (bs:=[]) (Done.stay ⟨[],rfl,.nil⟩) o.dst
    refine⟨⟨β',g1,fun b hb=>?_⟩,hs⟩
    rcases g2 b hb with h3|h3
    .exact .inl ((bMj hrow).1 h3)
    .exact .inr (Nat.le_trans hs.1 h3)
   have still:l=[]->Rel b0 β { st with ob:=setN st.ob key (.row e (List.replicate l.length e.zero)) } w a.tmps:=by
    intro he
    have hf0:List.replicate l.length e.zero=l:=by rw[he];rfl
    rw[hf0,cCq hrow]
    exact hS
   refine⟨_,hk1,by cases o.dst<;>rfl,fun next Q hn=>?_⟩
   have nothing:∀{A:Option Addr} {C:Nat},l=[]->a.eval x = .slice A 0 C->o.wp P a w next Q:=fun {A C} hl hv=>by
    refine bR7 (exec (w':=w) ?_) (hn _ _ (put (still hl) (Same.refl _ _)))
    rw[hv]
    cases A<;>simp[Builtin.clear_,ht0,run_underlying hu]
   rcases row_at hS hrow hxr with⟨hl0,A,hv⟩|⟨b,o',c0,C,hv,hC1,hC2,hb,hR⟩
   .exact nothing hl0 hv
   .by_cases hl0:l=[]
    .exact nothing hl0 (by rw[hv,hl0];rfl)
    .obtain⟨m,hm⟩:∃m,List.length l=m+1:=⟨List.length l-1,by have:=List.length_pos_iff.2 hl0;omega⟩
     obtain⟨cells,elem,hh,hfit,hsame,hR'⟩:=row_write (off:=0) (zs:=List.replicate l.length e.zero) (vs:=List.replicate l.length z) hes hτ hR (by simp) (by simp) (fun i x v hx hv w' bad'=>by
      rw[List.getElem?_replicate]at hx hv
      split at hx
      .rename_i hlt
       rw[if_pos hlt]at hv
       cases hx;cases hv
       exact hze _ _
      .cases hx)
     have hzl:(Builtin.zeroCells z.cells l.length).toList=List.replicate l.length z:=by
      rw[hzc]
      simp[Builtin.zeroCells]
      apply List.ext_getElem
      .simp
      .intro i h1 h2
       simp[Nat.mod_one]
     have hst:=run_storeCells_at P b o' elem (List.replicate l.length z) 0 cells w hh (by simpa using hfit) (fun v hv'=>by rw[List.eq_of_mem_replicate hv'];exact hz1)
     have hrun:(Builtin.clear_ ts o.type #[a.eval x]).run P w = .ok (.tuple #[]) (w.setRow b (cells.toList.take (o'+0)++List.replicate l.length z++cells.toList.drop (o'+0+(List.replicate l.length z).length)).toArray):=by
      rw[hv]
      rw[hm]at hzl hst ⊢
      simp[Builtin.clear_,ht0,run_underlying hu,zeroValue,typeInfo,hi,hz,hzl,hst]
     have hlr:List.replicate (List.length l) e.zero=l.take 0++List.replicate (List.length l) e.zero++l.drop (0+(List.replicate (List.length l) e.zero).length):=by simp
     have hW:=hS.sr.write (x':=.row e (List.replicate l.length e.zero)) hrow hb ⟨rfl,by simp⟩ hsame (fun τ' l' he=>by
      cases he
      have:=hR' (Av b0 β st.ob F0)
      rwa [<-hlr]at this) (by simp)
     exact bR7 (exec hrun) (hn _ _ (put ⟨hW,hS.nn⟩ (hsame.mono fun y _ hy=>hy▸⟨key,_,_,_,hrow,hb⟩)))
  .cases hk
 .cases hk
def oneV:(e:Ty)->e.den->Value
 |.int κ,n=>.int κ n
 |.bool,b=>.bool b
 |_,_=>.bool false
theorem enc_oneV{e:Ty}(h1:e.one=true){bad:Nat->Prop}{x:e.den}{ds:List Value}(h:enc w bad e x ds):ds=[oneV e x]/\(oneV e x).oneCell'=true/\∀(w':World) bad',enc w' bad' e x [oneV e x]:=by
 cases e with
 |int κ=>have h:ds=_:=h;exact⟨h,rfl,fun _ _=>rfl⟩
 |bool=>have h:ds=_:=h;exact⟨h,rfl,fun _ _=>rfl⟩
 |list e=>cases h1
 |pair a b=>cases h1
theorem copyK_sound{P:Program}{R:Type}{E:Env}(hA:bNb P E){st:St}{a:Act}(hS:Rel b0 β st w a.tmps){o:Oper}{args:Array Operand}{ts:Array TypeId}(ho:o.op = .call ⟨.builtin .copy,args,ts⟩){x y:Operand}(hargs:args.toList=[x,y])
  {k:St->Option R} {r:R} (hk:copyK E o.dst st ts (bCm st.sl x) (bCm st.sl y) k=some r) :
  ∃st',k st'=some r/\st'.f=st.f/\∀next Q,(∀v w',Goes b0 β st st' w w' (putT a.tmps o.dst v)->next (a.put o.dst v) w')->o.wp P a w next Q:=by
 have hxr:=bKt hS x
 have hyr:=bKt hS y
 unfold copyK at hk
 split at hk
 .rename_i key off len hx
  rw[hx]at hxr
  split at hk
  .rename_i e σ l he hrow
   obtain⟨hone,hk1⟩:=bCj hk
   clear hk
   split at hk1
   .rename_i hσ
    subst hσ
    obtain⟨ys,hk2,⟨A2,c2,hyv,hyc,hyz,hyr2⟩,_⟩:=bRm hk1 hS.sr.obs hyr
    rw[Option.bind_eq_some_iff]at he
    obtain⟨t,ht0,hte⟩:=he
    obtain⟨te,hu,hTe⟩:=(hA.env.ty _ _ (bHr hte)).listU
    obtain⟨i,z,hi,hz,hzc,hz1,hes,hze⟩:=cBq hTe hone
    obtain⟨i',z',hi',hsz',_⟩:=hTe.info
    rw[hi]at hi'
    cases hi'
    have hτ:σ.hasList=false:=by cases σ<;>first|rfl|cases hone
    have hargs':args = #[x,y]:=by apply Array.ext';simpa using hargs
    obtain⟨_,τ',l',hl',hol,hs⟩:=hxr
    rw[hrow]at hl'
    cases hl'
    generalize hvx:a.eval x=vx at hs
    generalize hzs:ys.take len=zs at hk2
    have hzl:zs.length<=ys.length:=by rw[<-hzs,List.length_take];omega
    have hzn:zs.length<=len:=by rw[<-hzs,List.length_take];omega
    have hmin:Nat.min ys.length len=zs.length:=by rw[<-hzs,List.length_take];exact Nat.min_comm _ _
    have exec:∀{w':World} {n:Nat},(Builtin.copy_ ts o.type #[vx,a.eval y]).run P w = .ok (goInt n) w'->(execOp a.eval o).run P w = .ok (.value (.int .i64 n)) w':=by
     intro w' n h
     unfold execOp
     rw[ho]
     subst hargs'
     simp[resolve,invoke,builtin,hvx,h]
     rfl
    have hnews:∀b,A2=some b->∀j u,(zs.map (oneV σ))[j]?=some u->w.cell? (b.add j)=some u:=fun b hb j u hj=>by
     rw[List.getElem?_map,Option.map_eq_some_iff]at hj
     obtain⟨v,hv,rfl⟩:=hj
     have hv':ys[j]?=some v:=by
      rw[<-hzs,List.getElem?_take]at hv
      split at hv
      .exact hv
      .cases hv
     obtain⟨g1,ds,g2,g3⟩:=hyr2 b hb j v hv'
     obtain⟨rfl,_⟩:=enc_oneV hone g2
     have:=g3 0 _ rfl
     rw[hes,Nat.mul_one,Nat.add_zero]at this
     rw[add_plain g1]
     exact this
    have hcell:∀u∈zs.map (oneV σ),u.oneCell'=true:=fun u hu=>by
     obtain⟨v,hv,rfl⟩:=List.mem_map.1 hu
     cases σ with
     |int κ=>rfl
     |bool=>rfl
     |list e=>cases hone
     |pair a b=>cases hone
    have hfirst:(Builtin.firstCells i.size zs.length (.slice A2 ys.length c2)).run P w = .ok (zs.map (oneV σ)).toArray w:=by
     cases A2 with
     |none=>
      have hy0:ys.length=0:=by have:=hyz rfl;omega
      have hz0:zs=[]:=List.eq_nil_of_length_eq_zero (by omega)
      rw[hz0]
      exact run_firstCells_none w _ _ _ _
     |some b=>exact run_firstCells_some (P:=P) w i.size zs.length b ys.length c2 _ (by rw[List.length_map,hsz',hes,Nat.mul_one]) (hnews b rfl)
    have put:∀{w':World},Rel b0 β { st with ob:=setN st.ob key (.row σ (cpyL l off len ys)) } w' a.tmps->Same (Own β st.ob) w w' ->
      Goes b0 β st ({ st with ob:=setN st.ob key (.row σ (cpyL l off len ys)) }.put o.dst (.d (.int .i64) (zs.length:Int))) w w' (putT a.tmps o.dst (.int .i64 (zs.length:Nat))):=by
     intro w' hR hs
     obtain⟨β',g1,g2⟩:=hR.put (w':=w') (used:=[]) (av:=.d (.int .i64) (zs.length:Int)) (v:=.int .i64 (zs.length:Nat)) (bs:=[]) (Done.stay ⟨rfl,[_],rfl,rfl⟩) o.dst
     refine⟨⟨β',g1,fun b hb=>?_⟩,hs⟩
     rcases g2 b hb with h3|h3
     .exact .inl ((bMj hrow).1 h3)
     .exact .inr (Nat.le_trans hs.1 h3)
    have hcp:cpyL l off len ys=l.take off++zs++l.drop (off+zs.length):=by unfold cpyL;rw[hzs]
    have still:zs=[]->Rel b0 β { st with ob:=setN st.ob key (.row σ (cpyL l off len ys)) } w a.tmps:=by
     intro he
     have hf0:cpyL l off len ys=l:=by rw[hcp,he];simp
     rw[hf0,cCq hrow]
     exact hS
    have hk3:k ({ st with ob:=setN st.ob key (.row σ (cpyL l off len ys)) }.put o.dst (.d (.int .i64) (zs.length:Int)))=some r:=hk2
    refine⟨_,hk3,by cases o.dst<;>rfl,fun next Q hn=>?_⟩
    have nothing:∀{A:Option Addr} {C:Nat},zs=[]->vx = .slice A len C->o.wp P a w next Q:=fun {A C} hl hv=>by
     refine bR7 (exec (w':=w) (n:=zs.length) ?_) (hn _ _ (put (still hl) (Same.refl _ _)))
     have hst:∀a,(storeCells a [] 0:Sem Unit).run P w = .ok () w:=fun a=>by simp[storeCells]
     simp only[hl,List.length_nil,List.map_nil]at hfirst hmin
     rw[hv,hyv,hl]
     cases A<;>simp[Builtin.copy_,ht0,run_underlying hu,Builtin.lenOf,sizeOf,typeInfo,hi,hmin,hfirst,hst]
    unfold SlV at hs
    split at hs
    .obtain⟨⟨A,hv⟩,hl0⟩:=hs
     exact nothing (List.eq_nil_of_length_eq_zero (by omega)) (by rw[hv,hl0])
    .rename_i b o1 c0 hb
     obtain⟨A,C,hv,h1,h2,h3⟩:=hs
     by_cases hC:C=0
     .exact nothing (List.eq_nil_of_length_eq_zero (by omega)) hv
     .have hA:=h3 hC
      rw[hes,Nat.mul_one]at hA
      obtain⟨b',o',c',hb',hR⟩:=(hS.sr.obs.row key σ l hrow).resolve_left (fun h=>by rw[hb]at h;cases h.1)
      rw[hb]at hb'
      cases hb'
      obtain⟨cells,elem,hh,hfit,hsame,hR'⟩:=row_write (off:=off) (zs:=zs) (vs:=zs.map (oneV σ)) hes hτ hR (by omega) (by simp) (fun i x v hx hv w' bad'=>by
       rw[List.getElem?_map,hx]at hv
       cases hv
       cases σ with
       |int κ=>rfl
       |bool=>rfl
       |list e=>cases hone
       |pair a b=>cases hone)
      have hst:=run_storeCells_at P b A elem (zs.map (oneV σ)) 0 cells w hh (by rw[hA];simpa using hfit) hcell
      rw[Nat.add_zero,hA]at hst
      have hrun:(Builtin.copy_ ts o.type #[vx,a.eval y]).run P w = .ok (goInt zs.length) (w.setRow b (cells.toList.take (o1+off)++zs.map (oneV σ)++cells.toList.drop (o1+off+(zs.map (oneV σ)).length)).toArray):=by
       rw[hv,hyv,hA]
       simp[Builtin.copy_,ht0,run_underlying hu,Builtin.lenOf,sizeOf,typeInfo,hi,hmin,hfirst]at hst ⊢
       simp[hst]
      have hW:=hS.sr.write (x':=.row σ (cpyL l off len ys)) hrow hb ⟨rfl,by rw[hcp];simp;omega⟩ hsame (fun τ' l' he=>by
       cases he
       have:=hR' (Av b0 β st.ob F0)
       rwa [<-hcp]at this) (by simp)
      exact bR7 (exec hrun) (hn _ _ (put ⟨hW,hS.nn⟩ (hsame.mono fun y _ hy=>hy▸⟨key,_,_,_,hrow,hb⟩)))
   .cases hk1
  .cases hk
 .cases hk
end
end
section
section
variable {b0:Nat->Prop} {β:bB5} {w:World}
theorem look_mapB{g:AV->AV}{ob:Obs}{k:Nat}(h:∃x,bBc ob k=some x):∃x,bBc (mapB g ob) k=some x:=by
 induction ob with
 |nil=>obtain⟨x,h⟩:=h;cases h
 |cons p r ih=>
  obtain⟨k',y⟩:=p
  obtain⟨x,h⟩:=h
  rw[bC2]at h
  show ∃x,bBc ((k',_)::mapB g r) k=some x
  rw[bC2]
  by_cases hk:k'=k
  .rw[if_pos hk];exact⟨_,rfl⟩
  .rw[if_neg hk]at h ⊢;exact ih ⟨x,h⟩
theorem look_delN{ob:Obs}{k k':Nat}{x:Ob}(hne:k'≠k)(h:bBc ob k=some x):bBc (delN ob k') k=some x:=by
 induction ob with
 |nil=>cases h
 |cons p r ih=>
  obtain⟨q,y⟩:=p
  rw[bC2]at h
  unfold delN
  by_cases hq:q=k'
  .have:Nat.beq q k'=true:=by simp[hq]
   rw[this,cond_true]
   rw[if_neg (by omega)]at h
   exact ih h
  .have:Nat.beq q k'=false:=by rw[<-Bool.not_eq_true];simp[hq]
   rw[this,cond_false,bC2]
   by_cases hk:q=k
   .rw[if_pos hk]at h ⊢;exact h
   .rw[if_neg hk]at h ⊢;exact ih h
theorem bRp{tmps:Array Value}:∀(D:List Nat) {b0:Nat->Prop} {st:St},Rel b0 β st w tmps ->
  Rel (fun b=>b0 b\/∃k∈D,bFr β st.ob k b) β (bMh st D) w tmps/\(∀b,Own β (bMh st D).ob b->Own β st.ob b)/\(bMh st D).f=st.f
 |[],b0,st,h=>⟨⟨h.sr.weakB (fun b hb=>by rcases hb with h|⟨k,hk,_⟩;exact h;cases hk),h.nn⟩,fun _ h=>h,rfl⟩
 |k::D,b0,st,h=>by
  obtain⟨hK,hKo⟩:=h.sr.kill k
  have h1:Rel (fun b=>b0 b\/bFr β st.ob k b) β (killF k st) w tmps:=⟨hK,h.nn.lift (bZt k) (bZu k)⟩
  obtain⟨g1,g2,g3⟩:=bRp D h1
  refine⟨⟨g1.sr.weakB fun b hb=>?_,g1.nn⟩,fun b hb=>hKo b (g2 b hb),g3⟩
  rcases hb with hb|⟨k',hk',hb⟩
  .exact .inl (.inl hb)
  .by_cases he:k'=k
   .subst he;exact .inl (.inr hb)
   .rcases List.mem_cons.1 hk' with h|h
    .exact absurd h he
    .obtain⟨x,o,c,e1,e2⟩:=hb
     obtain⟨y,hy⟩:=look_mapB (g:=bXd k) ⟨x,look_delN (fun e=>he e.symm) e1⟩
     exact .inr ⟨k',h,y,o,c,hy,e2⟩
theorem SR.writeW{ob:Obs}{b0' bad0:Nat->Prop}{sl:List AV}{tmps:Array Value}(h:SR b0 β ob w sl tmps F0){key b o c:Nat}{x x':Ob}{w':World}(hk:bBc ob key=some x)(hb:β key=some (b,o,c))(ha:Alike x x')(hs:Same bad0 w w')
  (h1:∀y,y<w.heap.size->bad0 y->y=b\/b0 y) (h2:∀y,y<w.heap.size->b0' y->b0 y) (h3:∀y,b0' y->y<w'.heap.size)
  (hrow:∀τ l,x' = .row τ l->Row w' (Av b0' β ob F0) τ l b o c)
  (hbox:∀cs,x' = .box cs->o=0/\c=cs.length/\∃cells elem,w'.heap[b]?=some (.cells cells elem (0,0))/\Vs (VR1 β ob w' (Av b0' β ob F0)) cs cells.toList []) :
  SR b0' β (setN ob key x') w' sl tmps F0:=by
 have hl:=fun k=>bTn (key:=key) (k:=k) (x:=x') ⟨x,hk⟩
 have hob:Own β ob b:=⟨key,x,o,c,hk,hb⟩
 have h0:∀y,y<w.heap.size->bad0 y->Av b0 β ob F0 y:=fun y hlt he=>by
  rcases h1 y hlt he with rfl|h
  .exact .inr (.inl hob)
  .exact .inl h
 have hav:∀y,y<w.heap.size->Av b0' β (setN ob key x') F0 y->Av b0 β ob F0 y:=by
  intro y hlt hy
  rcases bXz.1 hy with h|h
  .exact .inl (h2 y hlt h)
  .exact .inr (.inl ((bMj hk).1 h))
 have hav':∀y,y<w'.heap.size->Av b0' β (setN ob key x') F0 y->Av b0' β ob F0 y:=by
  intro y _ hy
  rcases bXz.1 hy with h|h
  .exact .inl h
  .exact .inr (.inl ((bMj hk).1 h))
 have far:∀{b':Nat},Own β ob b'->b'≠b->¬bad0 b':=fun ho hne hbad=>by
  obtain⟨g1,g2⟩:=h.obs.lt _ ho
  rcases h1 _ g1 hbad with h|h
  .exact hne h
  .exact g2 h
 refine⟨⟨fun k τ l hk'=>?_,fun k cs hk'=>?_,fun k1 k2 x1 x2 b' o1 c1 o2 c2 h1 h2 h3 h4=>?_,fun b' hb'=>?_⟩,fun i=>?_,h.size,(fun i b hb=>by cases hb),fun i=>List.nodup_nil,(fun i j b hi=>by cases hi),h3⟩
 .rw[hl k]at hk'
  split at hk'
  .rename_i he
   subst he
   exact .inr ⟨b,o,c,hb,(hrow τ l (Option.some.inj hk')).sameBlock hav'⟩
  .rename_i hne
   rcases h.obs.row k τ l hk' with h1|⟨b',o',c',hb',hr⟩
   .exact .inl h1
   .refine .inr ⟨b',o',c',hb',hr.mono hs h0 hav (far ⟨k,_,_,_,hk',hb'⟩ fun he=>?_)⟩
    subst he
    exact hne (h.obs.apart _ _ _ _ _ _ _ _ _ hk' hk hb' hb)
 .rw[hl k]at hk'
  split at hk'
  .rename_i he
   subst he
   obtain⟨ho,hc,cells,elem,hh,hv⟩:=hbox cs (Option.some.inj hk')
   subst ho
   subst hc
   exact⟨b,cells,elem,hb,hh,hv.imp fun a v b _ hr=>(bGk (bad0:=fun _=>False) (Same.refl _ w') (fun _ _ x=>x.elim) hav' (fun _ _ x=>x) hr).alike hk ha⟩
  .rename_i hne
   obtain⟨b',cells,elem,hb',hh,hv⟩:=h.obs.box k cs hk'
   have hbb:b'≠b:=fun he=>by subst he;exact hne (h.obs.apart _ _ _ _ _ _ _ _ _ hk' hk hb' hb)
   have hlt:=(h.obs.lt b' ⟨k,_,_,_,hk',hb'⟩).1
   refine⟨b',cells,elem,hb',by rw[hs.2 b' hlt (far ⟨k,_,_,_,hk',hb'⟩ hbb)];exact hh,hv.imp fun a v bs hbs hr=>(bGk hs h0 hav (fun y hy=>by have:=hbs y hy;cases this) hr).alike hk ha⟩
 .have old:∀{k y},bBc (setN ob key x') k=some y->∃z,bBc ob k=some z:=by
   intro k y hy
   rw[hl k]at hy
   split at hy
   .rename_i he;subst he;exact⟨x,hk⟩
   .exact⟨y,hy⟩
  obtain⟨z1,e1⟩:=old h1
  obtain⟨z2,e2⟩:=old h2
  exact h.obs.apart _ _ _ _ _ _ _ _ _ e1 e2 h3 h4
 .obtain⟨g1,g2⟩:=h.obs.lt b' ((bMj hk).1 hb')
  exact⟨Nat.lt_of_lt_of_le g1 hs.1,fun h0=>g2 (h2 b' g1 h0)⟩
 .exact(bJd hs h0 hav (fun y hy=>by cases hy) (h.slot i)).alike hk ha
theorem SR.namedL{ob:Obs}{sl:List AV}{tmps:Array Value}{bs:List Nat}(h:SR (fun b=>b0 b\/b∈bs) β ob w sl tmps F0){β':bB5}{ob':Obs}(n1:bNu b0 w (fun b=>b0 b\/Own β ob b\/b∈bs) bs β ob β' ob'):SR b0 β' ob' w sl tmps F0:=by
 have hsub:∀b,b<w.heap.size->(b0 b\/Own β ob b\/b∈bs)->Av (fun b=>b0 b\/b∈bs) β ob F0 b:=by
  intro b _ hb
  rcases hb with h|h|h
  .exact .inl (.inl h)
  .exact .inr (.inl h)
  .exact .inl (.inr h)
 have hav:∀b,b<w.heap.size->Av b0 β' ob' F0 b->(b0 b\/Own β ob b\/b∈bs):=by
  intro b _ hb
  rcases bXz.1 hb with h1|h1
  .exact .inl h1
  .rcases n1.own b h1 with h2|h2
   .exact .inr (.inl h2)
   .exact .inr (.inr h2)
 exact⟨n1.obs.mono (bad0:=fun _=>False) (Same.refl _ w) (fun _ _ x=>x.elim) hav (fun _ _ x=>x),fun i=>(((h.slot i).weaken hsub).ext n1.ext).weaken hav,h.size,(fun i b hb=>by cases hb),fun i=>List.nodup_nil,(fun i j b hi=>by cases hi),fun b hb=>h.b0lt b (.inl hb)⟩
theorem obr_loose{ob:Obs}{sl:List AV}{tmps:Array Value}{bs:List Nat}(h:SR (fun b=>b0 b\/b∈bs) β ob w sl tmps F0):ObR b0 β ob w (fun b=>b0 b\/Own β ob b\/b∈bs):=by
 have hsub:∀b,b<w.heap.size->(b0 b\/Own β ob b\/b∈bs)->Av (fun b=>b0 b\/b∈bs) β ob F0 b:=by
  intro b _ hb
  rcases hb with h|h|h
  .exact .inl (.inl h)
  .exact .inr (.inl h)
  .exact .inl (.inr h)
 have hO0:=h.obs.mono (bad0:=fun _=>False) (Same.refl _ w) (fun _ _ x=>x.elim) hsub (fun _ _ x=>x)
 exact⟨hO0.row,hO0.box,hO0.apart,fun b hb=>⟨(h.obs.lt b hb).1,fun h0=>(h.obs.lt b hb).2 (.inl h0)⟩⟩
theorem anys{r:AV->Value->List Nat->Prop}(hr:∀v,r .any v []):∀{cs:List AV} {vs:List Value},cs.length=vs.length->Vs r (cs.map fun _=>.any) vs []
 |[],[],_=>.nil
 |c::cs,v::vs,h=>by
  have:=Vs.cons (hr v) (anys hr (cs:=cs) (vs:=vs) (by simpa using h))
  simpa using this
theorem beq_ne{a b:Nat}(h:a≠b):Nat.beq a b=false:=by
 cases hb:Nat.beq a b with
 |false=>rfl
 |true=>exact absurd (Nat.eq_of_beq_eq_true hb) h
theorem bZw{ob:Obs}{av:Nat->Prop}:∀{ms:List Mode} {vs:List AV} {us:List Value} {key:Nat},cDe ms vs=some key->Two (fun v u=>VR2 β ob w av v u []) vs us->∃u r,bRr ms us=u::r/\((∃off,VR2 β ob w av (.ptr key off) u [])\/VR2 β ob w av (.ow key) u [])
 |[],vs,us,key,h,_=>by cases vs<;>simp[cDe]at h
 |m::ms,[],us,key,h,_=>by cases m<;>simp[cDe]at h
 |m::ms,v::vs,us,key,h,h2=>by
  cases h2 with
  |cons h3 h4=>
   cases m with
   |ro=>exact bZw (ms:=ms) (vs:=vs) h h4
   |mv s=>exact bZw (ms:=ms) (vs:=vs) h h4
   |io s=>
    cases v<;>first
     |(have hk:=Option.some.inj h;subst hk;exact⟨_,_,rfl,.inl ⟨_,h3⟩⟩)
     |(have hk:=Option.some.inj h;subst hk;exact⟨_,_,rfl,.inr h3⟩)
     |cases h
theorem cAj{R:Type}(st:St)(ob:Obs)(dst:Option Tmp)(ms:List Mode)(args:List AV)(av:AV)(ios:List AV)(k:St->Option R):afterK st ob dst ms args av ios k=(bYr st ob dst ms args av ios).bind k:=by
 unfold afterK
 split
 .rename_i τ l
  unfold bYr
  dsimp only
  cases cDe ms args with
  |none=>rfl
  |some key=>
   dsimp only
   unfold backRK backR
   split
   .rename_i σ l0 _
    split
    .rename_i h
     subst h
     cases (Nat.blt 0 (List.length l)&&Nat.beq l0.length (List.length l))<;>rfl
    .rfl
   .rfl
 .rfl
theorem callV_sound{P:Program}{R:Type}{E:Env}{C:bCg}(hC:bJu P E C){st:St}{a:Act}(hS:Rel b0 β st w a.tmps){o:Oper}{fn:Operand}{args:Array Operand}{ts:Array TypeId}{g:FuncId}{ms:List Mode}{s:List Sh}
  (ho:o.op = .call ⟨.value fn,args,ts⟩) (hfv:a.eval fn = .func (.func g) #[] #[]) (hsg:bBc E.sg g=some (ms,s)) {k:St->Option R} {r:R} (hk:cD9 E C o st g ms s ts.toList (args.toList.map (bCm st.sl)) k=some r) :
  ∃st',k st'=some r/\st'.f=st.f/\∀next Q,(∀v w',Goes b0 β st st' w w' (putT a.tmps o.dst v)->next (a.put o.dst v) w')->o.wp P a w next Q:=by
 have enter:∀{us:List Value},args.toList.map a.eval=us->a.eval fn = .func (.func g) #[] #[]->Enters P g->(execOp a.eval o).run P w = .ok (.enter g us.toArray) w:=by
  intro us hus hv hent
  have hr:=hent.run us.toArray w
  have he:Array.map a.eval args=us.toArray:=by
   apply Array.ext';simp[<-hus]
  unfold execOp
  rw[ho]
  simp only[resolve,hv,Deferred.ofValue,Sem.run_bind,Sem.run_pure,Result.andThen_ok,invoke,Array.empty_append,Array.append_empty,he,hr]
 have two:∀xs:List Operand,Two (fun v u=>VR2 β st.ob w (Av b0 β st.ob F0) v u []) (xs.map (bCm st.sl)) (xs.map a.eval):=by
  intro xs
  induction xs with
  |nil=>exact .nil
  |cons x xs ih=>
   obtain⟨bs,h1,h2,h3,_⟩:=opnd hS.sr x
   have:bs=[]:=by
    cases bs with
    |nil=>rfl
    |cons b bs=>obtain⟨t,_,hb⟩:=h3 b (List.mem_cons_self ..);cases hb
   subst this
   exact .cons h1 ih
 unfold cD9 at hk
 simp only[cAj]at hk
 cases hg : !ms.all Mode.isV with
 |true=>rw[hg]at hk;cases hk
 |false=>
  rw[hg]at hk
  simp only[cond_false]at hk
  obtain⟨xs,ob',rk,ok,bs,hk1,took,hm,hiok⟩:=movesV_sound hS.sr.obs (Part.refl _) hk (two args.toList)
  have hown:∀b∈bs,Own β st.ob b:=fun b hb=>by
   obtain⟨key,_,x,o,c,h1,h2⟩:=took.own b hb
   exact⟨key,x,o,c,h1,h2⟩
  have inD:∀{key},Gone st.ob ob' key->key∈(st.ob.map (·.1)).filter (fun k=>(bBc ob' k).isNone):=fun hgo=>by
   obtain⟨⟨x,hx⟩,hgone⟩:=hgo
   exact List.mem_filter.2 ⟨List.mem_map.2 ⟨(_,x),bN9 hx,rfl⟩,by rw[hgone];rfl⟩
  -- the call,beside what stays
  have main:∀D2:List Nat,(∀key∈rk,key∈D2)->∀ys,Vs (VR2 noβ [] w (fun b=>(b0 b\/(Own β (bMh st D2).ob b/\b∉bs))\/b∈bs)) ys (args.toList.map a.eval) bs->∀z,C g ys (s++bGn ms)=some z->Enters P g /\
    Calls P g (args.toList.map a.eval).toArray w fun e w'=>∃v,e = .returned v/\bX2 (fun b=>b0 b\/(Own β (bMh st D2).ob b/\b∉bs)) ms s (args.toList.map a.eval) bs w w' z v:=by
   intro D2 hD2 ys hys z hz
   obtain⟨hent,hcall⟩:=hC g ms s hsg _ _ hz
   obtain⟨hK,hKo,_⟩:=bRp D2 hS
   refine⟨hent,hcall _ w _ bs hys took.nd (fun b hb=>⟨(hS.sr.obs.lt b (hown b hb)).1,fun h=>?_⟩) fun b hb=>?_⟩
   .rcases h with h|h
    .exact(hS.sr.obs.lt b (hown b hb)).2 h
    .exact h.2 hb
   .rcases hb with h|h
    .exact hS.sr.b0lt b h
    .exact(hS.sr.obs.lt b (hKo b h.1)).1
  have calm:∀D2:List Nat,(∀key∈rk,key∈D2)->Calm β st.ob w (Av b0 β st.ob F0) rk (fun b=>(b0 b\/(Own β (bMh st D2).ob b/\b∉bs))\/b∈bs):=by
   intro D2 hD2
   obtain⟨hK,hKo,_⟩:=bRp D2 hS
   refine⟨fun b _ hb=>?_,fun key hkey b hkb hb=>?_⟩
   .rcases hb with(h|h)|h
    .exact .inl h
    .exact .inr (.inl (hKo b h.1))
    .exact .inr (.inl (hown b h))
   .have hob:Own β st.ob b:=by obtain⟨x,o,c,e1,e2⟩:=hkb;exact⟨key,x,o,c,e1,e2⟩
    rcases hb with(h|h)|h
    .exact(hS.sr.obs.lt b hob).2 h
    .exact(hK.sr.obs.lt b h.1).2 (.inr ⟨key,hD2 key hkey,hkb⟩)
    .obtain⟨key',hk',hkb'⟩:=took.own b h
     have:=cD0 hS.sr.obs hkb hkb'
     subst this
     exact took.dis key hkey hk'
  have part2:∀D2:List Nat,(∀key∈rk,key∈D2)->∃ys z,(bYr st ob' o.dst ms (args.toList.map (bCm st.sl)) (bR3 s (bH3 s (bGn ms) z).1) (bK1 (bGn ms) (bH3 s (bGn ms) z).2)).bind k=some r/\C g ys (s++bGn ms)=some z/\Vs (VR2 noβ [] w (fun b=>(b0 b\/(Own β (bMh st D2).ob b/\b∉bs))\/b∈bs)) ys (args.toList.map a.eval) bs:=by
   intro D2 hD2
   obtain⟨ys,hk2,hys⟩:=restV_sound hS.sr.obs (fun b hlt hb=>(calm D2 hD2).1 b hlt hb) hk1 (hm _ (calm D2 hD2)) (two args.toList)
   obtain⟨z,hz,hk3⟩:=bind_some hk2
   exact⟨ys,z,hk3,hz,hys⟩
  have hD1:∀b∈bs,∃key∈ok,key∈(st.ob.map (·.1)).filter (fun k=>(bBc ob' k).isNone)/\bFr β st.ob key b:=fun b hb=>by
   obtain⟨key,hkey,hbk⟩:=took.own b hb
   exact⟨key,hkey,inD (took.go key hkey),hbk⟩
  have hrkD:∀key∈rk,key∈(st.ob.map (·.1)).filter (fun k=>(bBc ob' k).isNone):=fun key hkey=>inD (took.gr key hkey)
  have hafter:∀z,(bYr st ob' o.dst ms (args.toList.map (bCm st.sl)) (bR3 s (bH3 s (bGn ms) z).1) (bK1 (bGn ms) (bH3 s (bGn ms) z).2)).bind k=some r->∃st',bYr st ob' o.dst ms (args.toList.map (bCm st.sl)) (bR3 s (bH3 s (bGn ms) z).1) (bK1 (bGn ms) (bH3 s (bGn ms) z).2)=some st'/\k st'=some r:=fun z h=>bind_some h
  generalize hDD:(st.ob.map (·.1)).filter (fun k=>(bBc ob' k).isNone)=D at hD1 hrkD
  by_cases hio:bGn ms=[]
  .-- nothing is lent
   obtain⟨ys,z,hk3,hz,hys⟩:=part2 D hrkD
   obtain⟨st',haf,hkst⟩:=hafter z hk3
   obtain⟨hent,hcall⟩:=main D hrkD ys hys z hz
   obtain⟨hK,hKo,hKf⟩:=bRp D hS
   have hst':st'=(bMh st D).put o.dst (bR3 s (bH3 s (bGn ms) z).1):=by
    unfold bYr at haf
    rw[hDD]at haf
    have:bK1 (bGn ms) (bH3 s (bGn ms) z).2=[]:=by
     generalize (bH3 s (bGn ms) z).2=q
     revert q
     rw[hio]
     intro q
     rfl
    rw[this]at haf
    exact(Option.some.inj haf).symm
   refine⟨_,hkst,by rw[hst'];cases o.dst<;>exact hKf,fun next Q hn=>?_⟩
   simp only[Oper.wp,enter rfl hfv hent,Oper.upon]
   refine hcall.mono fun en w' h=>?_
   obtain⟨v,rfl,hres⟩:=h
   obtain⟨b1,b2,hnd,hfr,hv,_⟩:=hres.res
   have hfr1:∀b∈b1,b<w'.heap.size/\(b∈bs\/w.heap.size<=b):=fun b hb=>hfr b (List.mem_append_left _ hb)
   have hD:∀b∈bs,∃key∈D,bFr β st.ob key b:=fun b hb=>let ⟨key,_,h1,h2⟩:=hD1 b hb;⟨key,h1,h2⟩
   have hW:=hK.sr.world' (w':=w') (bad0:=(· ∈ bs)) (b0':=fun b=>b0 b\/b∈b1) hres.same (fun b _ h=>.inr (hD b h)) (fun b hlt h=>by
    rcases h with h|h
    .exact .inl h
    .rcases(hfr1 b h).2 with h1|h1
     .exact .inr (hD b h1)
     .omega) (fun b h=>by
    rcases h with h|h
    .exact Nat.lt_of_lt_of_le (hS.sr.b0lt b h) hres.same.1
    .exact(hfr1 b h).1)
   have notK:∀b∈bs,¬Own β (bMh st D).ob b:=fun b hb ho=>(hK.sr.obs.lt b ho).2 (.inr (hD b hb))
   have hl:bR1 b0 β (bMh st D).ob w' b1:=⟨(List.nodup_append.1 hnd).1,fun b hb=>⟨(hfr1 b hb).1,fun h0=>by
     rcases(hfr1 b hb).2 with h|h
     .exact(hS.sr.obs.lt b (hown b h)).2 h0
     .have:=hS.sr.b0lt b h0;omega,fun ho=>by
     rcases(hfr1 b hb).2 with h|h
     .exact notK b h ho
     .have:=(hS.sr.obs.lt b (hKo b ho)).1;omega⟩⟩
   have hs2:Same (Own β st.ob) w w':=hres.same.mono fun b _ h=>hown b h
   have hv':VR2 β (bMh st D).ob w' (fun b=>b0 b\/Own β (bMh st D).ob b\/b∈b1) (bR3 s (bH3 s (bGn ms) z).1) v b1:=(hv.ext (ext_no β _)).weaken fun b _ hb=>by
    rcases hb with h|h|h
    .exact .inl (.inl h)
    .exact .inl (.inr ⟨h,fun hb=>notK b hb h⟩)
    .exact .inr (List.mem_append_left _ h)
   have hres2:∃β',Rel b0 β' ((bMh st D).put o.dst (bR3 s (bH3 s (bGn ms) z).1)) w' (putT a.tmps o.dst v) /\
     ∀b,Own β' ((bMh st D).put o.dst (bR3 s (bH3 s (bGn ms) z).1)).ob b->Own β st.ob b\/w.heap.size<=b:=by
    cases hd:o.dst with
    |some t0=>
     obtain⟨β',h1,h2,h3⟩:=hW.putL (key:=keyOf t0) (v:=v) (av:=bR3 s (bH3 s (bGn ms) z).1) hl hv' t0
     refine⟨β',⟨h1,bRi hK.nn h2⟩,fun b hb=>?_⟩
     rcases h3 b hb with h|h
     .exact .inl (hKo b h)
     .exact(hfr1 b h).2.imp (hown b) id
    |none=>exact⟨β,⟨hW.weakB fun b h=>.inl h,hK.nn⟩,fun b hb=>.inl (hKo b hb)⟩
   obtain⟨β',h1,h2⟩:=hres2
   rw[hst']at *
   exact hn v w' ⟨⟨β',h1,h2⟩,hs2⟩
  .-- one thing is lent
   have hkey:∀z st',bYr st ob' o.dst ms (args.toList.map (bCm st.sl)) (bR3 s (bH3 s (bGn ms) z).1) (bK1 (bGn ms) (bH3 s (bGn ms) z).2)=some st' ->
     ∃key v0 st2,cDe ms (args.toList.map (bCm st.sl))=some key/\bK1 (bGn ms) (bH3 s (bGn ms) z).2=[v0]/\((∃τ l,v0 = .new τ l/\backR (bMh st (D.filter fun k=>!Nat.beq k key)) key τ l=some st2)\/(∀τ l,v0 ≠ .new τ l)/\backK (bMh st (D.filter fun k=>!Nat.beq k key)) key (cellsOf v0)=some st2)/\st'=st2.put o.dst (bR3 s (bH3 s (bGn ms) z).1):=by
    intro z st' haf
    unfold bYr at haf
    rw[hDD]at haf
    simp only at haf
    split at haf
    .rename_i he
     exfalso
     revert he
     generalize (bH3 s (bGn ms) z).2=q
     revert q
     cases hi:bGn ms with
     |nil=>exact absurd hi hio
     |cons x l=>cases l<;>intro q he<;>cases he
    .rename_i v0 he
     split at haf
     .rename_i key hkk
      split at haf
      .rename_i τ l
       rw[Option.map_eq_some_iff]at haf
       obtain⟨st2,h1,h2⟩:=haf
       exact⟨key,_,st2,hkk,he,.inl ⟨τ,l,rfl,h1⟩,h2.symm⟩
      .rename_i hnn
       rw[Option.map_eq_some_iff]at haf
       obtain⟨st2,h1,h2⟩:=haf
       exact⟨key,_,st2,hkk,he,.inr ⟨fun τ l e=>hnn τ l e,h1⟩,h2.symm⟩
     .cases haf
    .cases haf
   -- the key does not depend on the answer
   obtain⟨key,hkk⟩:∃key,cDe ms (args.toList.map (bCm st.sl))=some key:=by
    obtain⟨ys,z,hk3,_,_⟩:=part2 D hrkD
    obtain⟨st',haf,_⟩:=hafter z hk3
    obtain⟨key,_,_,h,_⟩:=hkey z st' haf
    exact⟨key,h⟩
   have hkok:=hiok key hkk
   have hrk2:∀k∈rk,k∈D.filter fun k=>!Nat.beq k key:=fun k hk=>List.mem_filter.2 ⟨hrkD k hk,by
    have:k≠key:=fun e=>took.dis k hk (e▸hkok)
    rw[beq_ne this];rfl⟩
   obtain⟨ys,z,hk3,hz,hys⟩:=part2 _ hrk2
   obtain⟨st',haf,hkst⟩:=hafter z hk3
   obtain⟨key',v0,st2,hkk',hv0,hback,hst'⟩:=hkey z st' haf
   rw[hkk]at hkk'
   cases hkk'
   obtain⟨hent,hcall⟩:=main _ hrk2 ys hys z hz
   obtain⟨hK,hKo,hKf⟩:=bRp (D.filter fun k=>!Nat.beq k key) hS
   generalize hKD:bMh st (D.filter fun k=>!Nat.beq k key)=KD at *
   rcases hback with⟨τ,l',hvn,hback⟩|⟨hvn,hback⟩
   .-- a row
    subst hvn
    unfold backR at hback
    split at hback
    .rename_i σ l hc0
     split at hback
     .rename_i hσ
      subst hσ
      obtain⟨hlen,hback⟩:=bCj hback
      rw[Bool.and_eq_true]at hlen
      obtain⟨hpos,hlen⟩:=hlen
      have hpos:0<List.length l':=by
       have:decide (0<List.length l')=true:=by simpa[Nat.blt_eq]using hpos
       exact of_decide_eq_true this
      have hlen:=Nat.eq_of_beq_eq_true hlen
      have hst2:=(Option.some.inj hback).symm
      have hf:st'.f=st.f:=by rw[hst',hst2];cases o.dst<;>exact hKf
      refine⟨_,hkst,hf,fun next Q hn=>?_⟩
      simp only[Oper.wp,enter rfl hfv hent,Oper.upon]
      refine hcall.mono fun en w' h=>?_
      obtain⟨v,rfl,hres⟩:=h
      obtain⟨b1,b2,hnd,hfr,hv,hvi⟩:=hres.res
      obtain⟨u,ru,hiv,hpt⟩:=bZw hkk (two args.toList)
      rw[hv0,hiv]at hvi
      obtain⟨u',ur,bi,br,hu,hbi,hvb,hvr⟩:=Vs.split (a:=ioOf (.new τ l')) (as:=[]) hvi
      cases hvr
      cases hu
      rw[List.append_nil]at hbi
      subst hbi
      have hvb:newV w' (fun y=>(b0 y\/(Own β KD.ob y/\y∉bs))\/y∈b1++b2) τ l' u b2:=hvb
      rcases hvb with⟨_,hl0,_⟩|⟨b,oo,cc,hb2,hu2,hR'⟩
      .exfalso;rw[hl0]at hpos;simp at hpos
      subst hb2
      rcases hpt with⟨off,hpt⟩|hpt
      .exfalso
       obtain⟨_,_,_,_,_,_,hp⟩:=hpt
       rw[hu2]at hp
       cases hp
      obtain⟨_,τ0,l0,hk0,hsl⟩:=hpt
      rcases hK.sr.obs.row key τ l hc0 with⟨_,hl0⟩|⟨b',o',c0,hβ,hR0⟩
      .exfalso;rw[hl0]at hlen;simp at hlen;omega
      unfold SlV at hsl
      rw[hβ]at hsl
      obtain⟨A,c,hu3,hc1,hc2,hA0⟩:=hsl
      rw[hu2]at hu3
      injection hu3 with e1 e2 e3
      injection e1 with e1
      injection e1 with e1 e4 _
      subst e1;subst e3
      obtain⟨cells',elem',hh',hlc',hcs',hrd'⟩:=hR'
      have hoo:oo=o':=by rw[e4];have:=hA0 (by omega);omega
      subst hoo
      have hbOf:bFr β st.ob key b:=⟨_,_,_,hk0,hβ⟩
      have hbs:∀y∈bs,y=b\/∃k∈D.filter (fun k=>!Nat.beq k key),bFr β st.ob k y:=fun y hy=>by
       obtain⟨key',_,h1,h2⟩:=hD1 y hy
       by_cases he:key'=key
       .subst he
        left
        obtain⟨x1,o1,c1,e1,e2⟩:=h2
        rw[hβ]at e2
        cases e2;rfl
       .exact .inr ⟨key',List.mem_filter.2 ⟨h1,by rw[beq_ne he];rfl⟩,h2⟩
      have notK:∀y∈bs,Own β KD.ob y->y=b:=fun y hy ho=>(hbs y hy).resolve_right fun h=>(hK.sr.obs.lt y ho).2 (.inr h)
      have hnd1:=(List.nodup_append.1 hnd)
      have hnb1:b∉b1:=fun h=>hnd1.2.2 b h b (by simp) rfl
      have hfr1:∀y∈b1,y<w'.heap.size/\(y∈bs\/w.heap.size<=y):=fun y hy=>hfr y (List.mem_append_left _ hy)
      have low:∀y,y<w.heap.size->y∈b1->∃k∈D.filter (fun k=>!Nat.beq k key),bFr β st.ob k y:=by
       intro y hlt hy
       have:y∈bs:=(hfr1 y hy).2.resolve_right (by omega)
       refine(hbs y this).resolve_left fun e=>?_
       subst e
       exact hnb1 hy
      have hrow':∀bad',(∀y,y<w'.heap.size->bad' y->((b0 y\/(Own β KD.ob y/\y∉bs))\/y∈b1++[b]))->Row w' bad' τ l' b oo c0:=fun bad' hb'=>by
       have hlt:=hR0.lt
       obtain⟨cells0,elem0,hh0,hlc0,hcs0,_⟩:=hR0
       have hln:=hres.same.st.len b hlt
       rw[hh',hh0]at hln
       simp only[Option.map_some,objLen,Option.some.injEq]at hln
       exact⟨cells',elem',hh',⟨by omega,hlc0.2⟩,by omega,fun i x hx=>by
        obtain⟨ds,he,hd⟩:=hrd' i x hx
        exact⟨ds,bHk (bad0:=fun _=>False) (Same.refl _ w') (fun _ _ x=>x.elim) hb' he,hd⟩⟩
      have avsub:∀y,y<w'.heap.size->Av (fun y=>b0 y\/y∈b1) β KD.ob F0 y->((b0 y\/(Own β KD.ob y/\y∉bs))\/y∈b1++[b]):=fun y _ hy=>by
       rcases bXz.1 hy with(h|h)|h
       .exact .inl (.inl h)
       .exact .inr (List.mem_append_left _ h)
       .by_cases hyb:y∈bs
        .have:=notK y hyb h
         subst this
         exact .inr (List.mem_append_right _ (by simp))
        .exact .inl (.inr ⟨h,hyb⟩)
      have hW:=hK.sr.writeW (w':=w') (bad0:=(· ∈ bs)) (b0':=fun y=>b0 y\/y∈b1) (x':=.row τ l') hc0 hβ ⟨rfl,hlen.symm⟩ hres.same (fun y _ h=>(hbs y h).imp id .inr) (fun y hlt h=>by
       rcases h with h|h
       .exact .inl h
       .exact .inr (low y hlt h)) (fun y h=>by
       rcases h with h|h
       .exact Nat.lt_of_lt_of_le (hS.sr.b0lt y h) hres.same.1
       .exact(hfr1 y h).1) (fun τ' l'' he=>by cases he;exact hrow' _ avsub) (by simp)
      have ownB:∀{y},Own β (setN KD.ob key (.row τ l')) y->Own β KD.ob y:=fun h=>(bMj hc0).1 h
      have notOwn:∀y,y∈b1->¬Own β KD.ob y:=fun y hy ho=>by
       have hlt:=(hS.sr.obs.lt y (hKo y ho)).1
       exact(hK.sr.obs.lt y ho).2 (.inr (low y hlt hy))
      have not0:∀y,y∈b1->¬b0 y:=fun y hy h0=>by
       have hlt:=hS.sr.b0lt y h0
       obtain⟨k,_,x,o',c',e1,e2⟩:=low y hlt hy
       exact(hS.sr.obs.lt y ⟨k,x,o',c',e1,e2⟩).2 h0
      have hl:bR1 b0 β (setN KD.ob key (.row τ l')) w' b1:=⟨hnd1.1,fun y hy=>⟨(hfr1 y hy).1,not0 y hy,fun ho=>notOwn y hy (ownB ho)⟩⟩
      have hv':VR2 β (setN KD.ob key (.row τ l')) w' (fun y=>b0 y\/Own β (setN KD.ob key (.row τ l')) y\/y∈b1) (bR3 s (bH3 s (bGn ms) z).1) v b1:=(hv.ext (ext_no β _)).weaken fun y hlt hy=>by
       rcases hy with h|h|h
       .exact .inl (.inl h)
       .exact avsub y hlt (.inr (.inl (ownB h)))
       .exact .inr (List.mem_append_left _ h)
      have hs2:Same (Own β st.ob) w w':=hres.same.mono fun y _ h=>hown y h
      have fin:∀{y},Own β (setN KD.ob key (.row τ l')) y->Own β st.ob y\/w.heap.size<=y:=fun h=>.inl (hKo _ (ownB h))
      have hres2:∃β',Rel b0 β' st' w' (putT a.tmps o.dst v)/\∀y,Own β' st'.ob y->Own β st.ob y\/w.heap.size<=y:=by
       rw[hst',hst2]
       cases hd:o.dst with
       |some t0=>
        obtain⟨β',h1,h2,h3⟩:=hW.putL (key:=keyOf t0) (v:=v) (av:=bR3 s (bH3 s (bGn ms) z).1) hl hv' t0
        refine⟨β',⟨h1,bRi hK.nn h2⟩,fun y hy=>?_⟩
        rcases h3 y hy with h|h
        .exact fin h
        .exact(hfr1 y h).2.imp (hown y) id
       |none=>exact⟨β,⟨hW.weakB fun b h=>.inl h,hK.nn⟩,fun y hy=>fin hy⟩
      obtain⟨β',h1,h2⟩:=hres2
      exact hn v w' ⟨⟨β',h1,h2⟩,hs2⟩
     .cases hback
    .cases hback
   unfold backK at hback
   split at hback
   .rename_i c0 hc0
    obtain⟨hlen,hback⟩:=bCj hback
    have hlen:=Nat.eq_of_beq_eq_true hlen
    have hst2:=(Option.some.inj hback).symm
    have hf:st'.f=st.f:=by rw[hst',hst2];cases o.dst<;>exact hKf
    refine⟨_,hkst,hf,fun next Q hn=>?_⟩
    simp only[Oper.wp,enter rfl hfv hent,Oper.upon]
    refine hcall.mono fun en w' h=>?_
    obtain⟨v,rfl,hres⟩:=h
    obtain⟨b1,b2,hnd,hfr,hv,hvi⟩:=hres.res
    obtain⟨u,ru,hiv,hpt⟩:=bZw hkk (two args.toList)
    rw[hv0,hiv]at hvi
    obtain⟨u',ur,bi,br,hu,hbi,hvb,hvr⟩:=Vs.split (a:=ioOf v0) (as:=[]) hvi
    cases hvr
    cases hu
    rw[List.append_nil]at hbi
    subst hbi
    obtain⟨off,hpt⟩:∃off,VR2 β st.ob w (Av b0 β st.ob F0) (.ptr key off) u []:=by
     rcases hpt with hpt|hpt
     .exact hpt
     exfalso
     have nb:∀cs,VR2 noβ [] w' (fun y=>(b0 y\/(Own β KD.ob y/\y∉bs))\/y∈b1++b2) (.nbox cs) u b2->False:=by
      intro cs h
      obtain⟨b',cells,elem,bs',hu',_⟩:=h
      obtain⟨_,τ0,l0,_,hsl⟩:=hpt
      unfold SlV at hsl
      split at hsl
      .obtain⟨⟨A,hA⟩,_⟩:=hsl;rw[hu']at hA;cases hA
      .obtain⟨A,c,hA,_⟩:=hsl;rw[hu']at hA;cases hA
     cases v0 with
     |new τ l=>exact hvn τ l rfl
     |_=>exact nb _ hvb
    obtain⟨_,b,c,cs0,hβ,hk0,hup⟩:=hpt
    obtain⟨bs',cells,elem,hb2,hheap,hcs⟩:∃bs' cells elem,b2=b::bs'/\w'.heap[b]?=some (.cells cells elem (0,0))/\Vs (VR0 noβ [] w' (fun y=>(b0 y\/(Own β KD.ob y/\y∉bs))\/y∈b1++b2)) (cellsOf v0) cells.toList bs':=by
     have nb:∀cs,VR2 noβ [] w' (fun y=>(b0 y\/(Own β KD.ob y/\y∉bs))\/y∈b1++b2) (.nbox cs) u b2->∃bs' cells elem,b2=b::bs'/\w'.heap[b]?=some (.cells cells elem (0,0))/\Vs (VR0 noβ [] w' (fun y=>(b0 y\/(Own β KD.ob y/\y∉bs))\/y∈b1++b2)) cs cells.toList bs':=by
      intro cs h
      obtain⟨b',cells,elem,bs',hu',hbb,hh,hvs⟩:=h
      rw[hup]at hu'
      have:b'=b:=by
       have:=Option.some.inj (Value.pointer.inj hu')
       exact(congrArg Addr.block this).symm
      subst this
      exact⟨bs',cells,elem,hbb,hh,hvs⟩
     cases v0 with
     |new τ l=>
      exfalso
      have h:newV w' (fun y=>(b0 y\/(Own β KD.ob y/\y∉bs))\/y∈b1++b2) τ l u b2:=hvb
      rcases h with⟨⟨A,hA⟩,_⟩|⟨_,_,_,_,hA,_⟩
      .rw[hup]at hA;cases hA
      .rw[hup]at hA;cases hA
     |_=>exact nb _ hvb
    have hKb:β key=some (b,0,c0.length):=by
     obtain⟨b',cells',elem',hb',_,_⟩:=hK.sr.obs.box key c0 hc0
     rw[hβ]at hb'
     rw[hβ]
     have:=Option.some.inj hb'
     cases this;rfl
    have hbown:Own β st.ob b:=⟨key,_,_,_,hk0,hβ⟩
    have hbOf:bFr β st.ob key b:=⟨_,_,_,hk0,hβ⟩
    have hbs:∀y∈bs,y=b\/∃k∈D.filter (fun k=>!Nat.beq k key),bFr β st.ob k y:=fun y hy=>by
     obtain⟨key',_,h1,h2⟩:=hD1 y hy
     by_cases he:key'=key
     .subst he
      left
      obtain⟨x1,o1,c1,e1,e2⟩:=h2
      rw[hβ]at e2
      cases e2;rfl
     .exact .inr ⟨key',List.mem_filter.2 ⟨h1,by rw[beq_ne he];rfl⟩,h2⟩
    have notK:∀y∈bs,Own β KD.ob y->y=b:=fun y hy ho=>(hbs y hy).resolve_right fun h=>(hK.sr.obs.lt y ho).2 (.inr h)
    subst hb2
    have hnd1:=(List.nodup_append.1 hnd)
    have hnb:b∉bs':=(List.nodup_cons.1 hnd1.2.1).1
    have hnb1:b∉b1:=fun h=>hnd1.2.2 b h b (by simp) rfl
    have hdj:∀y∈b1,y∉bs':=fun y h1 h2=>hnd1.2.2 y h1 y (by simp[h2]) rfl
    have hcl:c0.length=cells.toList.length:=hlen.trans hcs.len
    have hfr1:∀y∈b1,y<w'.heap.size/\(y∈bs\/w.heap.size<=y):=fun y hy=>hfr y (List.mem_append_left _ hy)
    have hfr2:∀y∈bs',y<w'.heap.size/\(y∈bs\/w.heap.size<=y):=fun y hy=>hfr y (List.mem_append_right _ (by simp[hy]))
    have low:∀y,y<w.heap.size->(y∈b1\/y∈bs')->∃k∈D.filter (fun k=>!Nat.beq k key),bFr β st.ob k y:=by
     intro y hlt hy
     have:y∈bs:=by
      rcases hy with h|h
      .exact(hfr1 y h).2.resolve_right (by omega)
      .exact(hfr2 y h).2.resolve_right (by omega)
     refine(hbs y this).resolve_left fun e=>?_
     subst e
     rcases hy with h|h
     .exact hnb1 h
     .exact hnb h
    -- the box is empty,the call is done
    have hW:=hK.sr.writeW (w':=w') (bad0:=(· ∈ bs)) (b0':=fun y=>(b0 y\/y∈b1)\/y∈bs') (x':=.box (c0.map fun _=>.any)) hc0 hKb (by simp[Alike]) hres.same (fun y _ h=>(hbs y h).imp id .inr) (fun y hlt h=>by
     rcases h with(h|h)|h
     .exact .inl h
     .exact .inr (low y hlt (.inl h))
     .exact .inr (low y hlt (.inr h))) (fun y h=>by
     rcases h with(h|h)|h
     .exact Nat.lt_of_lt_of_le (hS.sr.b0lt y h) hres.same.1
     .exact(hfr1 y h).1
     .exact(hfr2 y h).1) (by simp) (fun ds hd=>by
     cases hd
     exact⟨rfl,by simp,cells,elem,hheap,anys (fun _=>rfl) hcl⟩)
    have ownB:∀{y},Own β (setN KD.ob key (.box (c0.map fun _=>.any))) y->Own β KD.ob y:=fun h=>(bMj hc0).1 h
    -- its rows get names
    have hO:=obr_loose hW
    have notOwn:∀y,(y∈b1\/y∈bs')->¬Own β KD.ob y:=fun y hy ho=>by
     have hlt:=(hS.sr.obs.lt y (hKo y ho)).1
     exact(hK.sr.obs.lt y ho).2 (.inr (low y hlt hy))
    have not0:∀y,(y∈b1\/y∈bs')->¬b0 y:=fun y hy h0=>by
     have hlt:=hS.sr.b0lt y h0
     obtain⟨k,_,x,o',c',e1,e2⟩:=low y hlt hy
     exact(hS.sr.obs.lt y ⟨k,x,o',c',e1,e2⟩).2 h0
    have hcs':Vs (VR0 β (setN KD.ob key (.box (c0.map fun _=>.any))) w' (fun y=>(b0 y\/y∈b1)\/Own β (setN KD.ob key (.box (c0.map fun _=>.any))) y\/y∈bs')) (cellsOf v0) cells.toList bs':=hcs.imp fun a v q _ hr=>bHw (bad0:=fun _=>False) (Same.refl _ w') (fun _ _ x=>x.elim) (fun y _ hy=>by
     rcases hy with(h|h)|h|h
     .exact .inl (.inl h)
     .exact .inr (List.mem_append_left _ h)
     .by_cases hyb:y∈bs
      .have:=notK y hyb (ownB h)
       subst this
       exact .inr (List.mem_append_right _ (by simp))
      .exact .inl (.inr ⟨ownB h,hyb⟩)
     .exact .inr (List.mem_append_right _ (by simp[h]))) (fun _ _ x=>x) (hr.ext (ext_no β _))
    obtain⟨β1,n1,g1,_⟩:=bNn (key:=key+1) hO ⟨(List.nodup_cons.1 hnd1.2.1).2,fun y hy=>⟨(hfr2 y hy).1,fun h=>by
     rcases h with h|h
     .exact not0 y (.inr hy) h
     .exact hdj y h hy,fun h=>notOwn y (.inr hy) (ownB h)⟩⟩ hcs'
    have hN:=hW.namedL n1
    generalize hrr:bGm (key+1) (setN KD.ob key (.box (c0.map fun _=>.any))) (cellsOf v0)=rr at *
    obtain⟨hl1,hl2⟩:=n1.ext.keep key (.box (c0.map fun _=>.any)) (by rw[bTn ⟨_,hc0⟩,if_pos rfl])
    have hrl:rr.1.length=c0.length:=by rw[g1.len,hcl]
    have hZ:=hN.write (w':=w') (x':=.box rr.1) hl1 (hl2.trans hKb) (by simp[Alike,hrl]) (Same.refl _ w') (by simp) (fun ds hd=>by
     cases hd
     refine⟨rfl,hrl.symm,cells,elem,hheap,g1.imp fun a v q _ hr=>vr01 (bHw (bad0:=fun _=>False) (Same.refl _ w') (fun _ _ x=>x.elim) (fun y _ hy=>?_) (fun _ _ x=>x) hr)⟩
     rcases bXz.1 hy with h|h
     .exact .inl h
     .exact .inr (n1.own y h))
    have ownZ:∀{y},Own β1 (setN rr.2 key (.box rr.1)) y->Own β KD.ob y\/y∈bs':=fun h=>(n1.own _ ((bMj hl1).1 h)).imp ownB id
    have hl:bR1 b0 β1 (setN rr.2 key (.box rr.1)) w' b1:=⟨hnd1.1,fun y hy=>⟨(hfr1 y hy).1,not0 y (.inl hy),fun ho=>by
     rcases ownZ ho with h|h
     .exact notOwn y (.inl hy) h
     .exact hdj y hy h⟩⟩
    have hv':VR2 β1 (setN rr.2 key (.box rr.1)) w' (fun y=>b0 y\/Own β1 (setN rr.2 key (.box rr.1)) y\/y∈b1) (bR3 s (bH3 s (bGn ms) z).1) v b1:=(hv.ext (ext_no β1 _)).weaken fun y _ hy=>by
     rcases hy with h|h|h
     .exact .inl (.inl h)
     .rcases ownZ h with h|h
      .by_cases hyb:y∈bs
       .have:=notK y hyb h
        subst this
        exact .inr (List.mem_append_right _ (by simp))
       .exact .inl (.inr ⟨h,hyb⟩)
      .exact .inr (List.mem_append_right _ (by simp[h]))
     .exact .inr (List.mem_append_left _ h)
    have hs2:Same (Own β st.ob) w w':=hres.same.mono fun y _ h=>hown y h
    have fin:∀{y},Own β1 (setN rr.2 key (.box rr.1)) y->Own β st.ob y\/w.heap.size<=y:=fun h=>by
     rcases ownZ h with h|h
     .exact .inl (hKo _ h)
     .exact(hfr2 _ h).2.imp (hown _) id
    have hres2:∃β',Rel b0 β' st' w' (putT a.tmps o.dst v)/\∀y,Own β' st'.ob y->Own β st.ob y\/w.heap.size<=y:=by
     rw[hst',hst2]
     cases hd:o.dst with
     |some t0=>
      obtain⟨β',h1,h2,h3⟩:=hZ.putL (key:=keyOf t0) (v:=v) (av:=bR3 s (bH3 s (bGn ms) z).1) hl hv' t0
      refine⟨β',⟨h1,bRi hK.nn h2⟩,fun y hy=>?_⟩
      rcases h3 y hy with h|h
      .exact fin h
      .exact(hfr1 y h).2.imp (hown y) id
     |none=>exact⟨β1,⟨hZ.weakB fun b h=>.inl h,hK.nn⟩,fun y hy=>fin hy⟩
    obtain⟨β',h1,h2⟩:=hres2
    exact hn v w' ⟨⟨β',h1,h2⟩,hs2⟩
   .cases hback
theorem seqK_sound{P:Program}{R:Type}{E:Env}(hA:bNb P E){C:bCg}(hC:bJu P E C){st:St}{a:Act}(hS:Rel b0 β st w a.tmps){o:Oper}{k:St->Option R}{r:R}(hk:seqK E C o st k=some r):
  ∃st',k st'=some r/\st'.f=st.f/\∀next Q,(∀v w',Goes b0 β st st' w w' (putT a.tmps o.dst v)->next (a.put o.dst v) w')->o.wp P a w next Q:=by
 have frozen:∀ks,bH7 E C (bPi st ks).ob (bCm (bPi st ks).sl) o (fun v=>k ((bPi st ks).put o.dst v))=some r ->
   ∃st',k st'=some r/\st'.f=st.f/\∀next Q,(∀v w',Goes b0 β st st' w w' (putT a.tmps o.dst v)->next (a.put o.dst v) w')->o.wp P a w next Q:=by
  intro ks hk
  obtain⟨h1,h2,h3⟩:=bPh ks hS
  obtain⟨st',g1,g2,g3⟩:=bTe hA hC h1 hk
  exact⟨st',g1,g2.trans h3,fun next Q hn=>g3 next Q fun v w' hg=>hn v w' (hg.frozen h2)⟩
 unfold seqK at hk
 split at hk
 .rename_i t x y ho
  split at hk
  .rename_i key j off hx
   exact storeR_sound hA hS ho hx hk
  .rename_i key off hx
   split at hk
   .rename_i g caps hy
    exact storeF_sound hA hS ho hx hy hk
   .exact cBb hA hS ho (by rw[hx];exact hk)
  .exact cBb hA hS ho hk
 .rename_i t n ps ho
  exact frozen _ hk
 .rename_i c ho
  obtain⟨callee,args,ts⟩:=c
  simp only at hk
  split at hk
  .split at hk
   .rename_i x y hargs
    split at hk
    .rename_i key hx
     exact cAg hA hS ho hargs (cut:=none) hx hk
    .rename_i key len hx
     exact cAg hA hS ho hargs (cut:=some len) hx hk
    .exact bTe hA hC hS hk
   .cases hk
  .split at hk
   .rename_i x hargs
    exact clearK_sound hA hS ho hargs hk
   .cases hk
  .split at hk
   .rename_i x y hargs
    exact copyK_sound hA hS ho hargs hk
   .cases hk
  .rename_i f0
   split at hk
   .split at hk
    .rename_i g caps hfn x ms s hsg
     cases hr:ms.all Mode.isRo with
     |true=>
      rw[hr]at hk
      simp only[cond_true]at hk
      cases hl:s.any Sh.hasList with
      |true=>rw[hl]at hk;exact frozen _ hk
      |false=>rw[hl]at hk;exact bTe hA hC hS hk
     |false=>
      rw[hr]at hk
      simp only[cond_false]at hk
      split at hk
      .obtain⟨h1,h2,h3⟩:=bPh (roRefs ms (args.toList.map (bCm st.sl))) hS
       have hfv:a.eval f0 = .func (.func g) #[] #[]:=by
        obtain⟨bf,hf1,_⟩:=opnd hS.sr f0
        rw[hfn]at hf1
        obtain⟨_,cv,hfv,hcv⟩:=hf1
        cases hcv
        exact hfv
       obtain⟨st',g1,g2,g3⟩:=callV_sound hC h1 ho hfv hsg hk
       exact⟨st',g1,g2.trans h3,fun next Q hn=>g3 next Q fun v w' hg=>hn v w' (hg.frozen h2)⟩
      .cases hk
    .split at hk
     .rename_i x hso hfn
      exact extK_sound hA.so hS ho hfn hso hk
     .exact bTe hA hC hS hk
   .cases hk
  .exact bTe hA hC hS hk
 .exact bTe hA hC hS hk
end
end
section
section
variable {R:Type} {ob:Obs} {E:Env} {C:bCg}
theorem bFz{α β γ:Type}(x:Option α)(g:α->Option β)(k:β->Option γ):(x.bind g).bind k=x.bind fun a=>(g a).bind k:=by cases x<;>rfl
theorem boolK_b(v:AV)(k:Bool->Option R):cFa v k=(cFa v some).bind k:=by
 cases v<;>try rfl
 rename_i τ x;cases τ<;>rfl
theorem bKc(v:AV)(k:IntKind->Int->Option R):intK v k=(intK v fun a b=>some (a,b)).bind fun p=>k p.1 p.2:=by
 cases v<;>try rfl
 rename_i τ x;cases τ<;>rfl
theorem bS3{ow:Bool}:∀(τ:Ty) (cs:List AV) {R:Type} (k:τ.den->List AV->Option R),bGg ob ow τ cs k=(bGg ob ow τ cs fun x r=>some (x,r)).bind fun p=>k p.1 p.2
 |.pair a b,cs,R,k=>by
  simp only[bGg]
  rw[bS3 a cs,bS3 a cs (fun x cs=>bGg ob ow b cs fun y cs=>some ((x,y),cs)),bFz]
  congr 1
  funext p
  rw[bS3 b,bS3 b p.2 (fun y cs=>some ((p.1,y),cs)),bFz]
  rfl
 |.list e,[],R,k=>rfl
 |.list e,c::cs,R,k=>by
  simp only[bGg]
  split
  .rfl
  .rfl
  .rw[bRn,bRn e _ (fun l=>some (l,cs)),bFz];rfl
 |.int κ,[],R,k=>rfl
 |.int κ,c::cs,R,k=>by
  simp only[bGg]
  split
  .split<;>rfl
  .rfl
 |.bool,[],R,k=>rfl
 |.bool,c::cs,R,k=>by
  simp only[bGg]
  split
  .split<;>rfl
  .rfl
theorem valS_b(ow:Bool)(τ:Ty)(v:AV)(k:τ.den->Option R):valS ob ow τ v k=(valS ob ow τ v some).bind k:=by
 have:∀cs,(bGg ob ow τ cs fun x r=>match r with|[]=>k x|_=>none)=(bGg ob ow τ cs fun x r=>match r with|[]=>some x|_=>none).bind k:=by
  intro cs
  rw[bS3,bS3 τ cs (fun x r=>match r with|[]=>some x|_=>none),bFz]
  congr 1
  funext p
  obtain⟨x,r⟩:=p
  cases r<;>rfl
 unfold valS
 split
 .rfl
 .exact this _
theorem cFd(ow:Bool)(τ:Ty)(v:AV)(k:τ.den->Option R):valK ob ow τ v k=(valK ob ow τ v some).bind k:=by
 cases τ with
 |pair a b=>
  show(bGg ob ow (.pair a b) (cellsOf v) fun x r=>match r with|[]=>k x|_=>none)=(bGg ob ow (.pair a b) (cellsOf v) fun x r=>match r with|[]=>some x|_=>none).bind k
  rw[bS3,bS3 (.pair a b) (cellsOf v) (fun x r=>match r with|[]=>some x|_=>none),bFz]
  congr 1
  funext p
  obtain⟨x,r⟩:=p
  cases r<;>rfl
 |int κ=>exact valS_b ow (.int κ) v k
 |bool=>exact valS_b ow .bool v k
 |list e=>exact valS_b ow (.list e) v k
theorem bZa{α:Type}(c:Bool)(x:Option α)(k:α->Option R):(bif c then x.bind k else none)=(bif c then x else none).bind k:=by cases c<;>rfl
theorem argK_b(t:TypeId)(v:AV)(k:AV->Option R):argK E ob t v k=(argK E ob t v some).bind k:=by
 unfold argK
 split
 .rw[cFd,cFd true _ v (fun x=>some (canonD _ x)),bFz];rfl
 .split<;>try rfl
  split
  .exact bZa _ (some _) k
  .rfl
theorem cA8:∀(ts:List TypeId) (vs:List AV) {R:Type} (k:List AV->Option R),cFb E ob ts vs k=(cFb E ob ts vs some).bind k
 |[],[],_,k=>rfl
 |[],_::_,_,k=>rfl
 |_::_,[],_,k=>rfl
 |t::ts,v::vs,_,k=>by
  simp only[cFb]
  rw[argK_b,argK_b t v (fun x=>cFb E ob ts vs fun xs=>some (x::xs)),bFz]
  congr 1
  funext x
  rw[cA8 ts vs,cA8 ts vs (fun xs=>some (x::xs)),bFz]
  rfl
theorem structK_b(op:BinOp)(xt:TypeId)(x y:AV)(k:AV->Option R):bYv E op xt x y k=(bYv E op xt x y some).bind k:=by
 unfold bYv
 split
 .rename_i p q _ _
  cases (decide (p.1.1=q.1.1)&&decide (p.2.1=q.2.1)&&decide (bBc E.ty xt=some (.pair (.int p.1.1) (.int p.2.1)))&&(bBc E.eq xt).isSome)
  .rfl
  .simp only[cond_true]
   split<;>rfl
 .rfl
theorem binK_b(op:BinOp)(xt:TypeId)(x y:AV)(k:AV->Option R):binK E ob op xt x y k=(binK E ob op xt x y some).bind k:=by
 unfold binK
 split
 .split
  .rename_i a b _;cases h:decide ((show Int from b)<0)<;>simp only[cond_true,cond_false]<;>rfl
  .rename_i a b _;cases h:decide ((show Int from b)<0)<;>simp only[cond_true,cond_false]<;>rfl
  .split
   .split<;>first
     |rfl
     |(split<;>rfl)
   .rfl
 .split
  .split<;>rfl
  .split<;>rfl
  .rfl
 .exact structK_b op xt _ _ k
theorem unK_b(op:UnOp)(x:AV)(k:AV->Option R):unK op x k=(unK op x some).bind k:=by
 unfold unK;split<;>rfl
theorem bVs{α β:Type}(x:Option α)(g:α->β)(k:β->Option R):(x.bind fun a=>k (g a))=(x.bind fun a=>some (g a)).bind k:=by cases x<;>rfl
theorem idxK_b(t:TypeId)(x:AV)(i:Int)(k:AV->Option R):idxK E ob t x i k=(idxK E ob t x i some).bind k:=by
 have key:∀{α:Type} (c:Bool) (x:Option α) (g:α->AV),(bif c then x.bind fun a=>k (g a) else none)=(bif c then x.bind fun a=>some (g a) else none).bind k:=by
  intro α c x g;cases c<;>cases x<;>rfl
 unfold idxK
 split<;>first
  |rfl
  |exact key _ _ _
  |(split<;>first|rfl|exact key _ _ _)
theorem fieldK_b(t:TypeId)(fd:Nat)(k:Nat->TypeId->Option R):bYq E t fd k=(bYq E t fd fun a b=>some (a,b)).bind fun p=>k p.1 p.2:=by
 unfold bYq
 split
 .split<;>rfl
 .rfl
theorem faddrK_b(t:TypeId)(x:AV)(fd:Nat)(k:AV->Option R):cF1 E t x fd k=(cF1 E t x fd some).bind k:=by
 unfold cF1 bYq
 split
 .split
  .split<;>try rfl
   dsimp only
   split
   .split<;>rfl
   .rfl
  .rfl
 .rfl
theorem loadK_b(t:TypeId)(x:AV)(k:AV->Option R):loadK E ob t x k=(loadK E ob t x some).bind k:=by
 unfold loadK
 split
 .split
  .split
   .exact bZa _ (some _) k
   .split
    .exact bZa _ (some _) k
    .rfl
  .rfl
 .split
  .exact bZa _ (some _) k
  .rfl
 .exact bZa _ (some _) k
 .split
  .split
   .rw[bFz]
    congr 1
    funext y
    split<;>rfl
   .rfl
  .rfl
 .rfl
theorem bZ7(e:Ty):∀(ps:List (Nat×AV)) (acc:List e.den) {R:Type} (k:List e.den->Option R),bXq ob e acc ps k=(bXq ob e acc ps some).bind k
 |[],acc,_,k=>rfl
 |(i,v)::r,acc,_,k=>by
  simp only[bXq]
  cases Nat.blt i acc.length
  .rfl
  .simp only[cond_true]
   rw[cFd,cFd false e v (fun x=>bXq ob e (acc.set i x) r some),bFz]
   congr 1
   funext x
   exact bZ7 e r _ k
theorem bSe:∀(fs:List (Nat×Nat)) (i:Nat) (ps:List (Nat×AV)) {R:Type} (k:List AV->Option R),bTf E fs i ps k=(bTf E fs i ps some).bind k
 |[],i,[],_,k=>rfl
 |[],i,_::_,_,k=>rfl
 |(o,ft)::fs,i,[],_,k=>by
  simp only[bTf]
  rw[bFz]
  congr 1
  funext z
  rw[bSe fs,bSe fs (i+1) [] (fun cs=>some (z++cs)),bFz]
  rfl
 |(o,ft)::fs,i,(j,v)::r,_,k=>by
  simp only[bTf]
  cases Nat.beq i j
  .simp only[cond_false]
   rw[bFz]
   congr 1
   funext z
   rw[bSe fs,bSe fs (i+1) ((j,v)::r) (fun cs=>some (z++cs)),bFz]
   rfl
  .simp only[cond_true]
   cases (E.sizeOf ft==some (cellsOf v).length&&(cellsOf v).all cD8)
   .rfl
   .simp only[cond_true]
    rw[bSe fs,bSe fs (i+1) r (fun cs=>some (cellsOf v++cs)),bFz]
    rfl
theorem buildK_b(t:TypeId)(ps:List (Nat×AV))(k:AV->Option R):buildK E ob t ps k=(buildK E ob t ps some).bind k:=by
 unfold buildK
 split
 .rename_i n e _;rw[bZ7,bZ7 e ps _ (fun l=>some (AV.arr n e l)),bFz];rfl
 .split
  .rename_i n fl _;rw[bSe,bSe fl 0 ps (fun l=>some (AV.agg l)),bFz];rfl
  .rfl
theorem lenK_b(v:AV)(k:Int->Option R):lenK ob v k=(lenK ob v some).bind k:=by
 unfold lenK
 split<;>first
  |rfl
  |(split<;>rfl)
theorem cB8(v:Option AV)(d:Int)(k:Int->Option R):bWf.boundK v d k=(bWf.boundK v d some).bind k:=by
 unfold bWf.boundK
 split
 .rfl
 .rw[bKc,bKc _ (fun _ n=>some n),bFz];rfl
theorem appK_b(e:Ty)(x:AV)(ys:List e.den)(k:AV->Option R):appK e x ys k=(appK e x ys some).bind k:=by
 have key:∀(c:Prop) [Decidable c] (f:c->Option (List e.den)),(if h:c then(f h).bind fun l=>k (.new e l) else none)=(if h:c then(f h).bind fun l=>some (.new e l) else none:Option AV).bind k:=by
  intro c _ f
  by_cases h:c
  .simp only[h,dite_true];exact bVs _ _ k
  .simp only[h,dite_false];rfl
 unfold appK
 split
 .exact bVs _ _ k
 .exact key _ _
 .split
  .rfl
  .exact key _ _
 .rfl
theorem boxK_b(t:TypeId)(x:AV)(k:AV->Option R):boxK E t x k=(boxK E t x some).bind k:=by
 unfold boxK
 split
 .exact bZa _ (some _) k
 .rfl
 .exact bZa _ (some _) k
theorem indexK_b(t:TypeId)(x:AV)(i:Int)(k:AV->Option R):cFx E t x i k=(cFx E t x i some).bind k:=by
 unfold cFx
 split
 .rw[<-bZa]
  congr 1
  exact bVs _ _ k
 .rfl
theorem sliceK_b(t:TypeId)(x:AV)(lo hi mx:Option AV)(k:AV->Option R):bWf E ob t x lo hi mx k=(bWf E ob t x lo hi mx some).bind k:=by
 have key:∀{α:Type} (c:Bool) (x:Option α) (g:α->AV),(bif c then x.bind fun a=>k (g a) else none)=(bif c then x.bind fun a=>some (g a) else none).bind k:=by
  intro α c x g;cases c<;>cases x<;>rfl
 unfold bWf
 split
 .rfl
 .rename_i et _
  rw[lenK_b,lenK_b (R:=AV),bFz]
  congr 1
  funext n
  rw[cB8,cB8 (R:=AV),bFz]
  congr 1
  funext L
  rw[cB8,cB8 (R:=AV),bFz]
  congr 1
  funext H
  split
  .exact bVs _ _ k
  .exact key _ _ _
  .rename_i e l m
   cases decide (e=et)&&hi.isSome with
   |false=>rfl
   |true=>
    simp only[cond_true]
    rw[bKc,bKc (R:=AV),bFz]
    congr 1
    funext p
    rw[bFz]
    congr 1
    funext l
    split<;>rfl
  .exact key _ _ _
  .split
   .exact key _ _ _
   .rfl
  .split
   .exact key _ _ _
   .rfl
  .split
   .rename_i τ _ _
    cases decide (τ=et)&&hi.isSome with
    |false=>rfl
    |true=>
     simp only[cond_true]
     rw[bKc,bKc (R:=AV),bFz]
     congr 1
     funext p
     rw[bFz]
     congr 1
     funext l
     split<;>rfl
   .rfl
  .rfl
theorem builtinK_b(b:Builtin)(ts:Array TypeId)(args:List AV)(k:AV->Option R):cAe E ob b ts args k=(cAe E ob b ts args some).bind k:=by
 unfold cAe
 split
 .split
  .rw[lenK_b,lenK_b (R:=AV),bFz];rfl
  .rfl
 .split
  .rename_i t t' _
   cases Nat.beq t t' with
   |false=>rfl
   |true=>
    simp only[cond_true]
    split
    .rw[bRn,bRn (R:=AV),bFz]
     congr 1
     funext ys
     exact appK_b _ _ _ k
    .rfl
  .rfl
 .rw[bKc,bKc (R:=AV),bFz]
  congr 1
  funext p
  rw[bKc,bKc (R:=AV),bFz];rfl
 .rw[bKc,bKc (R:=AV),bFz]
  congr 1
  funext p
  rw[bKc,bKc (R:=AV),bFz];rfl
 .rfl
theorem callK_b(fv:AV)(ts:List TypeId)(args:List AV)(k:AV->Option R):cA5 E C ob fv ts args k=(cA5 E C ob fv ts args some).bind k:=by
 unfold cA5
 split
 .split
  .split
   .rw[bRn,bRn (R:=AV),bFz]
    congr 1
    funext l
    exact bVs _ _ k
   .rfl
  .split
   .split
    .rw[bKc,bKc (R:=AV),bFz]
     congr 1
     funext p
     obtain⟨κ,n⟩:=p
     cases κ<;>first|exact bZa _ (some _) k|rfl
    .rfl
   .split
    .rename_i ms s _
     generalize (s.any Sh.hasList&&(args.any bSg||_) || !ms.all Mode.isRo)=c
     cases c with
     |true=>rfl
     |false=>
      simp only[cond_false]
      rw[cA8,cA8 (R:=AV),bFz]
      congr 1
      funext xs
      exact bVs _ _ k
    .rfl
 .rfl
theorem cAw(ρ:Operand->AV)(o:Oper)(k:AV->Option R):bH7 E C ob ρ o k=(bH7 E C ob ρ o some).bind k:=by
 unfold bH7
 split<;>first
  |rfl
  |exact boxK_b _ _ k
  |exact loadK_b _ _ k
  |exact binK_b _ _ _ _ k
  |exact unK_b _ _ k
  |exact sliceK_b _ _ _ _ _ k
  |exact faddrK_b _ _ _ k
  |skip
 .rw[boolK_b,boolK_b (R:=AV),bFz]
  congr 1
  funext c
  cases c<;>rfl
 .split
  .rename_i m _ _
   cases Nat.ble m 16777216<;>rfl
  .split
   .rfl
   .generalize (bBc E.ot _).isSome=c
    cases c<;>rfl
 .rw[<-bZa,buildK_b]
 .split
  .rw[<-bZa]
   congr 1
   rw[bZ7,bZ7 (R:=AV),bFz];rfl
  .rfl
 .split
  .rw[bKc,bKc (R:=AV),bFz];rfl
  .rfl
 .exact bZa _ (some _) k
 .split<;>rfl
 .split
  .rw[bKc,bKc (R:=AV),bFz]
   congr 1
   funext p
   rw[bKc,bKc (R:=AV),bFz]
   congr 1
   funext q
   rw[bFz]
   congr 1
   funext l
   split<;>rfl
  .rfl
 .rw[bFz]
  congr 1
  funext cs
  rw[fieldK_b,fieldK_b (R:=AV),bFz]
  congr 1
  funext p
  split
  .rfl
  .rename_i h
   cases E.one p.2 with
   |false=>rfl
   |true=>
    simp only[cond_true]
    split<;>rfl
 .rw[bKc,bKc (R:=AV),bFz]
  congr 1
  funext p
  exact idxK_b _ _ _ k
 .rw[bKc,bKc (R:=AV),bFz]
  congr 1
  funext p
  exact indexK_b _ _ _ k
 .split
  .split<;>rfl
  .rfl
 .split
  .exact builtinK_b _ _ _ k
  .exact callK_b _ _ _ k
  .rfl
end
end
end Go.Proofs.YtfjpfjnepdhnaaaGreat.R

