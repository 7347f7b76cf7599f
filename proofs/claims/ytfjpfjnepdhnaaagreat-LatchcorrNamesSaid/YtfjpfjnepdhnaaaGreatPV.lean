/- . -/
import Derived.Laws.BitsLemmas
import Derived.Test.YtfjpfjnepdhnaaaGreatQ4
namespace Go.Proofs.YtfjpfjnepdhnaaaGreat
open Go Go.Proofs.YtfjpfjnepdhnaaaGreat.R
set_option linter.unusedVariables false
set_option linter.unusedSimpArgs false
section base
variable {α β:Type}
theorem wr{x:Int}(h1 : -9223372036854775808<=x)(h2:x<=9223372036854775807):IntKind.wrap .i64 x=x:=by
 rw[IntKind.wrap_i64];omega
theorem cd{p:Prop}[Decidable p]{a b:α}:(bif decide p then a else b)=if p then a else b:=by by_cases h:p<;>simp[h]
theorem ce{x y:Int}{a b:α}:(bif (x==y) then a else b)=if x=y then a else b:=by
 by_cases h:x=y
 .subst h;simp
 .rw[if_neg h,beq_false_of_ne h];rfl
theorem cn{x y:Int}{a b:α}:(bif (x != y) then a else b)=if x=y then b else a:=by
 by_cases h:x=y
 .subst h;simp
 .rw[if_neg h,bne,beq_false_of_ne h];rfl
theorem cnot{c:Bool}{a b:α}:(bif !c then a else b)=bif c then b else a:=by cases c<;>rfl
theorem ct{a b:α}:(bif true then a else b)=a:=rfl
theorem cf{a b:α}:(bif false then a else b)=b:=rfl
theorem gi{l:List α}{i:Nat}:geti l (i:Int)=l[i]?:=by simp[geti]
theorem gi'{l:List α}{i:Int}(h:0<=i):geti l i=l[i.toNat]?:=by simp[geti,h]
theorem bB0{l:List α}{i:Nat}(h:i<l.length):geti l (i:Int)=some l[i]:=by rw[gi,List.getElem?_eq_getElem h]
theorem td{l:Int}(h:0<=l)(h2:l<=9223372036854775807):IntKind.wrap .i64 (Int.tdiv l 2)=l/2:=by
 rw[Int.tdiv_eq_ediv_of_nonneg h,wr]<;>omega
theorem tm{l:Int}(h:0<=l):Int.tmod l 2=l%2:=Int.tmod_eq_emod_of_nonneg h
theorem bD4{l:List α}(h:l.length<=68719476736):app [] l=some l:=by
 unfold app LIM
 rw[if_pos (by simpa using h)];simp
theorem bB1{l m:List α}(h:l.length+m.length<=68719476736):app l m=some (l++m):=by
 unfold app LIM
 rw[if_pos h]
theorem bKo{n:Int}{v:α}(h:0<=n)(h2:n<=68719476736):mkl n v=some (List.replicate n.toNat v):=by
 unfold mkl LIM
 rw[if_pos ⟨h,h2⟩]
theorem drop_cons{l:List α}{i:Nat}(h:i<l.length):l.drop i=l[i]::l.drop (i+1):=List.drop_eq_getElem_cons h
def neg(l:Int):Int:=if l%2=0 then l+1 else l-1
theorem bD0{l:Int}(h:0<=l)(h2:l<=9223372036854775806):bxor .i64 l 1=neg l:=by
 unfold bxor
 obtain⟨n,rfl⟩:=Int.eq_ofNat_of_zero_le h
 have hx:((BitVec.ofInt 64 (n:Int))^^^(BitVec.ofInt 64 1)).toNat=n^^^1:=by
  rw[BitVec.toNat_xor]
  have h1:(BitVec.ofInt 64 (n:Int)).toNat=n:=by
   rw[BitVec.toNat_ofInt]
   omega
  have h3:(BitVec.ofInt 64 1).toNat=1:=by decide
  rw[h1,h3]
 show IntKind.wrap .i64 (((BitVec.ofInt 64 (n:Int))^^^(BitVec.ofInt 64 1)).toNat:Int)=_
 rw[hx]
 have hn:((n^^^1:Nat):Int)=neg n:=by
  unfold neg
  have h1:(n^^^1)/2=n/2:=by
   have:=Nat.xor_div_two_pow (a:=n) (b:=1) (n:=1)
   simpa using this
  have h2:(n^^^1)%2=(n+1)%2:=by
   have:=Nat.xor_mod_two_pow (a:=n) (b:=1) (n:=1)
   simp only[Nat.pow_one]at this
   have h2:n%2=0\/n%2=1:=by omega
   rcases h2 with h|h
   .rw[this,h]
    have:(0^^^1%2:Nat)=1:=by decide
    rw[this];omega
   .rw[this,h]
    have:(1^^^1%2:Nat)=0:=by decide
    rw[this];omega
  split<;>omega
 rw[hn]
 exact wr (by unfold neg;split<;>omega) (by unfold neg;split<;>omega)
theorem bCh{l:Int}:neg l/2=l/2:=by unfold neg;split<;>omega
theorem neg_neg{l:Int}:neg (neg l)=l:=by unfold neg;split<;>split<;>omega
theorem cBh{l:Int}:neg l≠l:=by unfold neg;split<;>omega
theorem div_eq{a b:Int}(h:a/2=b/2):a=b\/a=neg b:=by unfold neg;split<;>omega
theorem bLj{v l:Int}(h:2<=l/\l<=2*v+1):2<=neg l/\neg l<=2*v+1:=by unfold neg;split<;>omega
end base
abbrev isLit(v l:Int):Prop:=2<=l/\l<=2*v+1
abbrev okV(v:Int):Prop:=0<=v/\v<=4000
def okC(v:Int)(c:List Int):Prop:=(∀l∈c,isLit v l)/\c.Pairwise (fun a b=>a/2<b/2)
instance (v:Int)(c:List Int):Decidable (okC v c):=by unfold okC;infer_instance
def chain(v:Int):Option Int->List Int->Bool
 |_,[]=>true
 |p,l::r=>(decide (isLit v l)&&(match p with|none=>true|some q=>decide (q/2<l/2)))&&chain v (some l) r
theorem bNr{v:Int}:∀{c:List Int} {q:Int},chain v (some q) c=true↔okC v c/\∀l∈c,q/2<l/2
 |[],q=>by simp[chain,okC]
 |l::r,q=>by
  simp only[chain,Bool.and_eq_true,decide_eq_true_eq,bNr (c:=r),okC,List.pairwise_cons,List.mem_cons,forall_eq_or_imp]
  constructor
  .rintro⟨⟨h1,h2⟩,⟨h3,h4⟩,h5⟩
   exact⟨⟨⟨h1,h3⟩,h5,h4⟩,h2,fun x hx=>Int.lt_trans h2 (h5 x hx)⟩
  .rintro⟨⟨⟨h1,h3⟩,h5,h4⟩,h2,h6⟩
   exact⟨⟨h1,h2⟩,⟨h3,h4⟩,h5⟩
theorem bNs{v:Int}:∀{c:List Int},chain v none c=true↔okC v c
 |[]=>by simp[chain,okC]
 |l::r=>by
  simp only[chain,Bool.and_true,Bool.and_eq_true,decide_eq_true_eq,bNr (c:=r),okC,List.pairwise_cons,List.mem_cons,forall_eq_or_imp]
  constructor
  .rintro⟨h1,⟨h3,h4⟩,h5⟩
   exact⟨⟨h1,h3⟩,h5,h4⟩
  .rintro⟨⟨h1,h3⟩,h5,h4⟩
   exact⟨h1,⟨h3,h4⟩,h5⟩
def bDn(c:List Int)(i:Nat):Option Int:=if i=0 then none else c[i-1]?
theorem bGr{c:List Int}{i:Nat}(h:i<c.length):bDn c (i+1)=some c[i]:=by simp[bDn,h]
theorem bHd{v l:Int}(hv:okV v)(hl : -9223372036854775808<=l/\l<=9223372036854775807):bDo v l=some (decide (isLit v l)):=by
 rw[bDo.eq,cd]
 split
 .rename_i h
  rw[td (by omega) (by omega)]
  congr 1
  rw[decide_eq_decide];omega
 .rename_i h
  congr 1
  symm
  rw[decide_eq_false_iff_not];omega
abbrev in64(l:Int):Prop:=-9223372036854775808<=l/\l<=9223372036854775807
theorem bBa.loop{v:Int}(hv:okV v){c:List Int}(hn:c.length<=140737488351232)(hr:∀l∈c,in64 l):∀(n i:Nat),i+n=c.length->(∀q,bDn c i=some q->isLit v q) ->
  bBa.l0 v c c (c.length:Int) (i:Int)=some (bif chain v (bDn c i) (c.drop i) then 0 else 8)
 |0,i,hi,hq=>by
  rw[bBa.l0_eq,cd,if_neg (by omega),List.drop_of_length_le (by omega)]
  simp[chain]
 |n+1,i,hi,hq=>by
  have hlt:i<c.length:=by omega
  have hmem:=hr c[i] (List.getElem_mem hlt)
  rw[bBa.l0_eq,cd,if_pos (by omega),bB0 hlt,Option.bind_some,bHd hv hmem,Option.bind_some,cnot,cd,drop_cons hlt]
  simp only[chain]
  by_cases hl:isLit v c[i]
  .rw[if_pos hl]
   have ih:=bBa.loop hv hn hr n (i+1) (by omega) (fun q hq'=>by rw[bGr hlt]at hq';cases hq';exact hl)
   rw[bGr hlt]at ih
   have hw:IntKind.wrap .i64 ((i:Int)+1)=((i+1:Nat):Int):=by rw[wr]<;>omega
   rw[hw,ih]
   have hdl:decide (isLit v c[i])=true:=by simpa using hl
   rw[hdl,Bool.true_and]
   by_cases h0:i=0
   .subst h0
    rw[cd,if_neg (by omega)]
    simp[bDn]
   .have hp:i-1<c.length:=by omega
    have hprev:bDn c i=some c[i-1]:=by simp[bDn,h0,hp]
    have hpl:=hq _ hprev
    have hw2:IntKind.wrap .i64 ((i:Int)-1)=((i-1:Nat):Int):=by rw[wr]<;>omega
    rw[cd,if_pos (by omega),hw2,bB0 hp,Option.bind_some,hprev,cd]
    by_cases hle:c[i]<=c[i-1]
    .rw[if_pos hle]
     have:¬c[i-1]/2<c[i]/2:=by omega
     simp[this]
    .rw[if_neg hle,Option.bind_some,td (by omega) (by omega),td (by omega) (by omega),ce]
     by_cases he:c[i]/2=c[i-1]/2
     .rw[if_pos he]
      have:¬c[i-1]/2<c[i]/2:=by omega
      simp[this]
     .rw[if_neg he]
      have:c[i-1]/2<c[i]/2:=by omega
      simp[this]
  .rw[if_neg hl]
   simp[hl]
theorem bC8{v:Int}{c:List Int}(hn:c.length<=140737488351232)(hr:∀l∈c,in64 l):bBa v c=some (if okV v then(if okC v c then 0 else 8) else 2):=by
 rw[bBa.eq,cd,cd]
 by_cases h1:v<0
 .rw[if_pos h1,if_neg (by unfold okV;omega)]
 .rw[if_neg h1]
  by_cases h2:v>4000
  .rw[if_pos h2,if_neg (by unfold okV;omega)]
  .rw[if_neg h2,if_pos (show okV v from⟨by omega,by omega⟩)]
   have:=bBa.loop (v:=v) ⟨by omega,by omega⟩ hn hr c.length 0 (by omega) (by simp[bDn])
   rw[show((0:Nat):Int)=0 from rfl]at this
   rw[this]
   simp only[bDn,if_true,List.drop_zero]
   by_cases hc:okC v c
   .rw[bNs.2 hc,if_pos hc];rfl
   .have:chain v none c=false:=by
     cases hh:chain v none c with
     |false=>rfl
     |true=>exact absurd (bNs.1 hh) hc
    rw[this,if_neg hc];rfl
structure okA(v:Int)(t s:List Int):Prop where
 vars:okV v
 lits:∀l∈t,isLit v l
 dis:t.Pairwise fun a b=>a/2≠b/2
 inc:s.Pairwise (· < ·)
 bnd:∀x∈s,0<=x/\x<(t.length:Int)
instance (v:Int)(t s:List Int):Decidable (okA v t s):=
 decidable_of_iff (okV v/\(∀l∈t,isLit v l)/\t.Pairwise (fun a b=>a/2≠b/2)/\s.Pairwise (· < ·)/\∀x∈s,0<=x/\x<(t.length:Int))
  ⟨fun⟨h1,h2,h3,h4,h5⟩=>⟨h1,h2,h3,h4,h5⟩,fun h=>⟨h.1,h.2,h.3,h.4,h.5⟩⟩
def bJt(v:Int):List Int->List Int->Bool
 |_,[]=>true
 |s,l::r=>(decide (isLit v l)&&decide (∀a∈s,a/2≠l/2))&&bJt v (s++[l]) r
theorem bNo{v:Int}:∀{r s:List Int},bJt v s r=true↔(∀l∈r,isLit v l)/\r.Pairwise (fun a b=>a/2≠b/2)/\∀a∈s,∀b∈r,a/2≠b/2
 |[],s=>by simp[bJt]
 |l::r,s=>by
  simp only[bJt,Bool.and_eq_true,decide_eq_true_eq,bNo (r:=r),List.pairwise_cons,List.mem_cons,forall_eq_or_imp,List.mem_append,List.not_mem_nil,or_false]
  constructor
  .rintro⟨⟨h1,h2⟩,h3,h4,h5⟩
   exact⟨⟨h1,h3⟩,⟨fun b hb=>h5 l (.inr rfl) b hb,h4⟩,fun a ha=>⟨h2 a ha,fun b hb=>h5 a (.inl ha) b hb⟩⟩
  .rintro⟨⟨h1,h3⟩,⟨h6,h4⟩,h5⟩
   refine⟨⟨h1,fun a ha=>(h5 a ha).1⟩,h3,h4,fun a ha b hb=>?_⟩
   rcases ha with ha|rfl
   .exact(h5 a ha).2 b hb
   .exact h6 b hb
def okS(n:Int):Int->List Int->Bool
 |_,[]=>true
 |p,x::r=>decide (p<x/\x<n)&&okS n x r
theorem bWs{n:Int}:∀{r:List Int} {p:Int},okS n p r=true↔r.Pairwise (· < ·)/\∀x∈r,p<x/\x<n
 |[],p=>by simp[okS]
 |x::r,p=>by
  simp only[okS,Bool.and_eq_true,decide_eq_true_eq,bWs (r:=r),List.pairwise_cons,List.mem_cons,forall_eq_or_imp]
  constructor
  .rintro⟨h1,h2,h3⟩
   exact⟨⟨fun a ha=>(h3 a ha).1,h2⟩,h1,fun a ha=>⟨Int.lt_trans h1.1 (h3 a ha).1,(h3 a ha).2⟩⟩
  .rintro⟨⟨h4,h2⟩,h1,h3⟩
   exact⟨h1,h2,fun a ha=>⟨h4 a ha,(h3 a ha).2⟩⟩
theorem bNf:∀(n:Nat) {l:List Int},l.Nodup->(∀x∈l,0<=x/\x<(n:Int))->l.length<=n
 |0,l,hd,h=>by
  cases l with
  |nil=>simp
  |cons x l=>have:=h x (by simp);omega
 |n+1,l,hd,h=>by
  by_cases hm:(n:Int)∈l
  .have:=bNf n (l:=l.erase (n:Int)) (hd.erase _) (fun x hx=>by
    have h1:=h x (List.mem_of_mem_erase hx)
    have h2:x≠(n:Int):=fun e=>by
     subst e
     exact(List.Nodup.not_mem_erase hd) hx
    omega)
   rw[List.length_erase_of_mem hm]at this
   omega
  .have:=bNf n (l:=l) hd (fun x hx=>by
    have h1:=h x hx
    have h2:x≠(n:Int):=fun e=>by subst e;exact hm hx
    omega)
   omega
theorem okA.short{v:Int}{t s:List Int}(h:okA v t s):(t.length:Int)<=v/\s.length<=t.length:=by
 constructor
 .have h1:(t.map fun l=>l/2-1).Nodup:=by
   rw[List.Nodup,List.pairwise_map]
   exact h.dis.imp fun hab he=>hab (by omega)
  have hv:=h.vars
  have:=bNf v.toNat h1 (fun x hx=>by
   obtain⟨l,hl,rfl⟩:=List.mem_map.1 hx
   have:=h.lits l hl
   omega)
  rw[List.length_map]at this
  omega
 .have h1:s.Nodup:=h.inc.imp fun hab he=>by omega
  exact bNf t.length h1 h.bnd
theorem cC0{v:Int}{t s:List Int}:okA v t s↔okV v/\bJt v [] t=true/\okS (t.length:Int) (-1) s=true:=by
 rw[bNo,bWs]
 constructor
 .intro h
  exact⟨h.vars,⟨h.lits,h.dis,by simp⟩,h.inc,fun x hx=>⟨by have:=(h.bnd x hx).1;omega,(h.bnd x hx).2⟩⟩
 .rintro⟨h1,⟨h2,h3,_⟩,h4,h5⟩
  exact⟨h1,h2,h3,h4,fun x hx=>⟨by have:=(h5 x hx).1;omega,(h5 x hx).2⟩⟩
theorem bHf{v l:Int}(hl:in64 l):bDp v l=some (decide (isLit v l)):=by
 rw[bDp.eq,cd]
 split
 .rename_i h
  rw[td (by omega) (by omega)]
  congr 1
  rw[decide_eq_decide];omega
 .rename_i h
  congr 1
  symm
  rw[decide_eq_false_iff_not];omega
theorem bAm.loop1{v:Int}{t s:List Int}(hn:s.length<=140737488351232):∀(n i:Nat),i+n=s.length->(∀q,bDn s i=some q->0<=q) ->
  bAm.l1 s (s.length:Int) (i:Int) v t s=some (bif okS (t.length:Int) ((bDn s i).getD (-1)) (s.drop i) then 0 else 8)
 |0,i,hi,hq=>by
  rw[bAm.l1_eq,cd,if_neg (by omega),List.drop_of_length_le (by omega)]
  simp[okS]
 |n+1,i,hi,hq=>by
  have hlt:i<s.length:=by omega
  have hw:IntKind.wrap .i64 ((i:Int)+1)=((i+1:Nat):Int):=by rw[wr]<;>omega
  rw[bAm.l1_eq,cd,if_pos (by omega),bB0 hlt,Option.bind_some,drop_cons hlt,hw]
  simp only[okS,cd]
  by_cases h1:s[i]<0
  .rw[if_pos h1]
   have:¬((bDn s i).getD (-1)<s[i]/\s[i]<(t.length:Int)):=by
    cases hp:bDn s i with
    |none=>simp;omega
    |some q=>have:=hq q hp;simp;omega
   simp[this]
  .rw[if_neg h1]
   by_cases h2:s[i]>=(t.length:Int)
   .rw[if_pos h2]
    have:¬((bDn s i).getD (-1)<s[i]/\s[i]<(t.length:Int)):=by omega
    simp[this]
   .rw[if_neg h2]
    have ih:=bAm.loop1 (v:=v) (t:=t) hn n (i+1) (by omega) (fun q hq'=>by rw[bGr hlt]at hq';cases hq';omega)
    rw[bGr hlt]at ih
    rw[ih]
    by_cases h0:i=0
    .subst h0
     rw[if_neg (by omega)]
     have:(bDn s 0).getD (-1)<s[0]/\s[0]<(t.length:Int):=by simp[bDn];omega
     simp[this]
    .have hp:i-1<s.length:=by omega
     have hprev:bDn s i=some s[i-1]:=by simp[bDn,h0,hp]
     have hw2:IntKind.wrap .i64 ((i:Int)-1)=((i-1:Nat):Int):=by rw[wr]<;>omega
     rw[if_pos (by omega),hw2,bB0 hp,Option.bind_some,hprev]
     by_cases h3:s[i]<=s[i-1]
     .rw[if_pos h3]
      have:¬(s[i-1]<s[i]/\s[i]<(t.length:Int)):=by omega
      simp[this]
     .rw[if_neg h3]
      have:s[i-1]<s[i]/\s[i]<(t.length:Int):=by omega
      simp[this]
theorem bAm.loop0{v:Int}(hv:okV v){t s:List Int}(hn:t.length<=140737488351232)(hs:s.length<=140737488351232)(hr:∀l∈t,in64 l):∀(n i:Nat) (o:List Bool),i+n=t.length->(o.length:Int)=v+1 ->
  (∀k:Nat,k<o.length->o[k]?=some (decide (∃a∈t.take i,a/2=(k:Int)))) ->
  bAm.l0 t (t.length:Int) (i:Int) v t s o=some (bif bJt v (t.take i) (t.drop i)&&okS (t.length:Int) (-1) s then 0 else 8)
 |0,i,o,hi,ho,hk=>by
  rw[bAm.l0_eq,cd,if_neg (by omega),List.drop_of_length_le (by omega)]
  have:=bAm.loop1 (v:=v) (t:=t) hs s.length 0 (by omega) (by simp[bDn])
  rw[show((0:Nat):Int)=0 from rfl]at this
  rw[this]
  simp[bJt,bDn]
 |n+1,i,o,hi,ho,hk=>by
  have hlt:i<t.length:=by omega
  have hmem:=hr t[i] (List.getElem_mem hlt)
  have hw:IntKind.wrap .i64 ((i:Int)+1)=((i+1:Nat):Int):=by rw[wr]<;>omega
  rw[bAm.l0_eq,cd,if_pos (by omega),bB0 hlt,Option.bind_some,bHf hmem,Option.bind_some,cnot,cd,drop_cons hlt,hw]
  simp only[bJt]
  by_cases hl:isLit v t[i]
  .rw[if_pos hl]
   have hd:IntKind.wrap .i64 (Int.tdiv t[i] 2)=t[i]/2:=td (by omega) (by omega)
   obtain⟨k,hkk⟩:∃k:Nat,t[i]/2=(k:Int):=⟨(t[i]/2).toNat,by omega⟩
   have hko:k<o.length:=by omega
   have hget:=hk k hko
   have hk0:((k:Int)).toNat=k:=by omega
   rw[hd,hkk,hk0,gi,List.getElem?_eq_getElem hko,Option.bind_some]
   rw[List.getElem?_eq_getElem hko]at hget
   have hget:=Option.some.inj hget
   simp only[Option.bind_some]
   rw[hget,cd]
   by_cases he:∃a∈t.take i,a/2=(k:Int)
   .rw[if_pos he]
    have:¬∀a∈t.take i,a/2≠t[i]/2:=fun hh=>by obtain⟨a,ha,hb⟩:=he;exact hh a ha (by omega)
    rw[hkk]at this
    simp only[this,decide_false,Bool.and_false,Bool.false_and]
    rfl
   .rw[if_neg he]
    have hdis:∀a∈t.take i,a/2≠(k:Int):=fun a ha hb=>he ⟨a,ha,hb⟩
    have htk:t.take (i+1)=t.take i++[t[i]]:=by rw[List.take_add_one,List.getElem?_eq_getElem hlt];rfl
    have ih:=bAm.loop0 hv hn hs hr n (i+1) (o.set k true) (by omega) (by rw[List.length_set];exact ho) (fun j hj=>by
     rw[List.length_set]at hj
     rw[List.getElem?_set,htk]
     by_cases hjk:k=j
     .subst hjk
      rw[if_pos rfl,if_pos hj]
      congr 1
      symm
      rw[decide_eq_true_iff]
      exact⟨t[i],List.mem_append.2 (.inr (List.mem_singleton.2 rfl)),hkk⟩
     .rw[if_neg hjk,hk j hj]
      congr 1
      rw[decide_eq_decide]
      constructor
      .rintro⟨a,ha,hb⟩
       exact⟨a,List.mem_append.2 (.inl ha),hb⟩
      .rintro⟨a,ha,hb⟩
       rcases List.mem_append.1 ha with ha|ha
       .exact⟨a,ha,hb⟩
       .have:a=t[i]:=List.mem_singleton.1 ha
        subst this
        omega)
    rw[ih,htk]
    have h1:decide (isLit v t[i])=true:=by simpa using hl
    have h2:decide (∀a∈t.take i,a/2≠(k:Int))=true:=by simpa using hdis
    rw[h1,h2,Bool.true_and,Bool.true_and]
  .rw[if_neg hl]
   simp[hl]
theorem bCd{v:Int}{t s:List Int}(hn:t.length<=140737488351232)(hs:s.length<=140737488351232)(hr:∀l∈t,in64 l):bAm v t s=some (if okA v t s then 0 else 8):=by
 rw[bAm.eq,cd,cd]
 by_cases h1:v<0
 .rw[if_pos h1,if_neg (fun h=>by have:=h.vars;omega)]
 .rw[if_neg h1]
  by_cases h2:v>4000
  .rw[if_pos h2,if_neg (fun h=>by have:=h.vars;omega)]
  .have hw:IntKind.wrap .i64 (v+1)=v+1:=by rw[wr]<;>omega
   rw[if_neg h2,hw,bKo (by omega) (by omega),Option.bind_some,if_pos rfl]
   have:=bAm.loop0 (v:=v) ⟨by omega,by omega⟩ hn hs hr t.length 0 (List.replicate (v+1).toNat false) (by omega) (by rw[List.length_replicate];omega) (fun k hk=>by
    rw[List.length_replicate]at hk
    rw[List.getElem?_replicate,if_pos hk];simp)
   rw[show((0:Nat):Int)=0 from rfl]at this
   rw[this]
   have hiff:=cC0 (v:=v) (t:=t) (s:=s)
   simp only[List.take_zero,List.drop_zero]
   by_cases h:okA v t s
   .obtain⟨_,e1,e2⟩:=hiff.1 h
    rw[if_pos h,e1,e2];rfl
   .rw[if_neg h]
    cases e1:bJt v [] t with
    |false=>rfl
    |true=>
     cases e2:okS (t.length:Int) (-1) s with
     |false=>rfl
     |true=>exact absurd (hiff.2 ⟨⟨by omega,by omega⟩,e1,e2⟩) h
def isS:List Int->Int->Int
 |[],_=>2
 |x::r,l=>if x=l then 1 else if x=neg l then 0 else isS r l
theorem bDm{t:List Int}{l:Int}:isS t l=2↔∀a∈t,a/2≠l/2:=by
 induction t with
 |nil=>simp[isS]
 |cons x t ih=>
  simp only[isS,List.mem_cons,forall_eq_or_imp]
  split
  .rename_i h;subst h;simp
  .split
   .rename_i h1 h2;subst h2;simp[bCh]
   .rename_i h1 h2
    rw[ih]
    constructor
    .intro h;exact⟨fun he=>(div_eq he).elim h1 h2,h⟩
    .intro h;exact h.2
theorem bB6{t:List Int}(hd:t.Pairwise fun a b=>a/2≠b/2){l:Int}:isS t l=1↔l∈t:=by
 induction t with
 |nil=>simp[isS]
 |cons x t ih=>
  rw[List.pairwise_cons]at hd
  simp only[isS,List.mem_cons]
  split
  .rename_i h;simp[h]
  .rename_i h
   split
   .rename_i h2
    constructor
    .intro h;omega
    .rintro(h3|h3)
     .exact absurd h3.symm h
     .exact absurd (by rw[h2,bCh]) (hd.1 l h3)
   .rw[ih hd.2]
    constructor
    .exact .inr
    .rintro(h3|h3)
     .exact absurd h3.symm h
     .exact h3
theorem bBz{t:List Int}(hd:t.Pairwise fun a b=>a/2≠b/2){l:Int}:isS t l=0↔neg l∈t:=by
 induction t with
 |nil=>simp[isS]
 |cons x t ih=>
  rw[List.pairwise_cons]at hd
  simp only[isS,List.mem_cons]
  split
  .rename_i h
   subst h
   constructor
   .intro h;omega
   .rintro(h3|h3)
    .exact absurd h3 cBh
    .exact absurd bCh.symm (hd.1 _ h3)
  .rename_i h
   split
   .rename_i h2;simp[h2]
   .rename_i h2
    rw[ih hd.2]
    constructor
    .exact .inr
    .rintro(h3|h3)
     .exact absurd h3.symm h2
     .exact h3
theorem bCk(t:List Int)(l:Int):isS t l=0\/isS t l=1\/isS t l=2:=by
 induction t with
 |nil=>simp[isS]
 |cons x t ih=>simp only[isS];split;simp;split;simp;exact ih
theorem bTp{t u:List Int}{l:Int}:isS (t++u) l=if isS t l=2 then isS u l else isS t l:=by
 induction t with
 |nil=>simp[isS]
 |cons x t ih=>
  simp only[List.cons_append,isS]
  split
  .simp
  .split
   .simp
   .exact ih
theorem gsI{α:Type}{l:List α}{i:Int}(h0:0<=i)(h:i.toNat<l.length):geti l i=some l[i.toNat]:=by
 rw[gi' h0,List.getElem?_eq_getElem h]
def Vals(v:Int)(t V:List Int):Prop:=V.length=(2*v+2).toNat/\∀l,isLit v l->V[l.toNat]?=some (isS t l)
theorem Vals.get{v:Int}{t V:List Int}(h:Vals v t V){l:Int}(hl:isLit v l):geti V l=some (isS t l):=by
 rw[gi' (by omega)];exact h.2 l hl
theorem Vals.push{v:Int}{t V:List Int}(h:Vals v t V){x:Int}(hx:isLit v x)(hf:isS t x=2):Vals v (t++[x]) ((V.set x.toNat 1).set (neg x).toNat 0):=by
 have hnx:=bLj hx
 refine⟨by rw[List.length_set,List.length_set];exact h.1,fun l hl=>?_⟩
 have hlen:=h.1
 rw[bTp,List.getElem?_set,List.length_set]
 by_cases h1:(neg x).toNat=l.toNat
 .have h1':neg x=l:=by omega
  have hl0:isS t l=2:=by
   rw[bDm]at hf ⊢
   intro a ha
   have:=hf a ha
   rw[<-h1',bCh];exact this
  rw[if_pos h1,if_pos (by omega),hl0,if_pos rfl]
  simp only[isS]
  have hxl:¬x=l:=fun e=>by rw[<-h1']at e;exact cBh e.symm
  rw[if_neg hxl,if_pos (by rw[<-h1',neg_neg])]
 .have h1':neg x≠l:=fun e=>h1 (by rw[e])
  rw[if_neg h1,List.getElem?_set]
  by_cases h2:x.toNat=l.toNat
  .have h2':x=l:=by omega
   subst h2'
   rw[if_pos rfl,if_pos (by omega),hf,if_pos rfl]
   simp[isS]
  .have h2':x≠l:=fun e=>h2 (by rw[e])
   rw[if_neg h2,h.2 l hl]
   split
   .rename_i h3
    rw[h3]
    simp only[isS]
    rw[if_neg h2',if_neg (fun e=>h1' (by rw[e,neg_neg]))]
   .rfl
theorem bP8{γ:Type}{v:Int}{V:List Int}(hv:okV v)(hV:V.length=(2*v+2).toNat){x:Int}(hx:isLit v x){K:Option γ}:
  ((geti V x).bind fun _=>(V[x.toNat]?).bind fun _=>(geti (V.set x.toNat 1) (bxor .i64 x 1)).bind fun _=>((V.set x.toNat 1)[(bxor .i64 x 1).toNat]?).bind fun _=>K)=K:=by
 have hnx:=bLj hx
 rw[bD0 (by omega) (by omega)]
 have h1:x.toNat<V.length:=by omega
 have h2:(neg x).toNat<(V.set x.toNat 1).length:=by rw[List.length_set];omega
 rw[gsI (by omega) h1,Option.bind_some,List.getElem?_eq_getElem h1,Option.bind_some,gsI (by omega) h2,Option.bind_some,List.getElem?_eq_getElem h2,Option.bind_some]
theorem bA1.loop0{v:Int}{t s:List Int}{N:Nat}(hN:N<=140737488351232):∀(n i:Nat) (o:List Int),i+n=N->o.length=N->(∀k,k<i->o[k]?=some 2) ->
  bA1.l0 (N:Int) (i:Int) v t s o=bA1.l1 t (t.length:Int) 0 (List.replicate N 2)
 |0,i,o,hi,ho,hk=>by
  rw[bA1.l0_eq,cd,if_neg (by omega)]
  have:o=List.replicate N 2:=List.ext_getElem? fun k=>by
   rw[List.getElem?_replicate]
   by_cases h:k<N
   .rw[if_pos h];exact hk k (by omega)
   .rw[if_neg h,List.getElem?_eq_none (by omega)]
  rw[this]
 |n+1,i,o,hi,ho,hk=>by
  have hlt:i<o.length:=by omega
  have hw:IntKind.wrap .i64 ((i:Int)+1)=((i+1:Nat):Int):=by rw[wr]<;>omega
  have h0:((i:Int)).toNat=i:=by omega
  rw[bA1.l0_eq,cd,if_pos (by omega),bB0 hlt,Option.bind_some,h0,List.getElem?_eq_getElem hlt,Option.bind_some,hw]
  refine bA1.loop0 hN n (i+1) _ (by omega) (by rw[List.length_set];exact ho) fun k hk'=>?_
  rw[List.getElem?_set]
  by_cases h:i=k
  .rw[if_pos h,if_pos (by omega)]
  .rw[if_neg h];exact hk k (by omega)
theorem bA1.loop1{v:Int}(hv:okV v){t:List Int}(hl:∀l∈t,isLit v l)(hd:t.Pairwise fun a b=>a/2≠b/2)(hn:t.length<=140737488351232):∀(n i:Nat) (o:List Int),i+n=t.length->Vals v (t.take i) o ->
  ∃V,bA1.l1 t (t.length:Int) (i:Int) o=some V/\Vals v t V
 |0,i,o,hi,ho=>by
  refine⟨o,?_,?_⟩
  .rw[bA1.l1_eq,cd,if_neg (by omega)]
  .rw[List.take_of_length_le (by omega)]at ho;exact ho
 |n+1,i,o,hi,ho=>by
  have hlt:i<t.length:=by omega
  have hw:IntKind.wrap .i64 ((i:Int)+1)=((i+1:Nat):Int):=by rw[wr]<;>omega
  have hx:=hl t[i] (List.getElem_mem hlt)
  rw[bA1.l1_eq,cd,if_pos (by omega),bB0 hlt,Option.bind_some,bP8 hv ho.1 hx,hw,bD0 (by omega) (by omega)]
  have htk:t.take (i+1)=t.take i++[t[i]]:=by rw[List.take_add_one,List.getElem?_eq_getElem hlt];rfl
  refine bA1.loop1 hv hl hd hn n (i+1) _ (by omega) ?_
  rw[htk]
  refine ho.push hx (bDm.2 fun a ha=>?_)
  have h2:=hd
  rw[<-List.take_append_drop i t,drop_cons hlt,List.pairwise_append]at h2
  exact h2.2.2 a ha t[i] (List.mem_cons_self ..)
theorem bHx{v:Int}{t s:List Int}(h:okA v t s):∃V,bA1 v t s=some V/\Vals v t V:=by
 have hv:=h.vars
 have hs:=h.short
 have hw:IntKind.wrap .i64 (IntKind.wrap .i64 (2*v)+2)=2*v+2:=by
  rw[wr (x:=2*v) (by omega) (by omega),wr]<;>omega
 rw[bA1.eq,hw,bKo (by omega) (by omega),Option.bind_some,if_pos rfl,List.length_replicate]
 rw[show(0:Int)=((0:Nat):Int) from rfl,bA1.loop0 (by omega) (2*v+2).toNat 0 _ (by omega) (by rw[List.length_replicate]) (fun k hk=>by omega)]
 refine bA1.loop1 hv h.lits h.dis (by omega) t.length 0 _ (by omega) ⟨by rw[List.length_replicate],fun l hl=>?_⟩
 rw[List.getElem?_replicate,if_pos (by omega)]
 simp[isS]
def stC(t c:List Int):Int×Int:=
 if c.any (fun l=>decide (isS t l=1)) then(1,0) else
  match c.filter (fun l=>decide (isS t l=2)) with
  |[]=>(0,0)
  |[x]=>(3,x)
  |_=>(2,0)
def ofL(t:List Int):List Int->List Int->Int×Int
 |o,[]=>match o with
  |[]=>(0,0)
  |[x]=>(3,x)
  |_=>(2,0)
 |o,l::r=>if isS t l=1 then(1,0) else if isS t l=2 then ofL t (o++[l]) r else ofL t o r
theorem bWy{t:List Int}:∀{c o:List Int},ofL t o c=if c.any (fun l=>decide (isS t l=1)) then((1,0):Int×Int) else
  match o++c.filter (fun l=>decide (isS t l=2)) with
  |[]=>(0,0)
  |[x]=>(3,x)
  |_=>(2,0)
 |[],o=>by simp[ofL]
 |l::r,o=>by
  simp only[ofL,List.any_cons,List.filter_cons]
  by_cases h1:isS t l=1
  .simp[h1]
  .rw[if_neg h1]
   have hd1:decide (isS t l=1)=false:=decide_eq_false h1
   rw[hd1,Bool.false_or]
   by_cases h2:isS t l=2
   .rw[if_pos h2,bWy (c:=r)]
    simp[h2]
   .rw[if_neg h2,bWy (c:=r)]
    simp[h2]
theorem cC1{t c:List Int}:ofL t [] c=stC t c:=by rw[bWy];rfl
theorem bBq.loop{v:Int}(hv:okV v){t V:List Int}(hV:Vals v t V){c:List Int}(hc:∀l∈c,isLit v l)(hn:c.length<=140737488351232):∀(n i:Nat) (lit:Int) (o:List Int),i+n=c.length->o.length<=i->(o.length=1->o=[lit]) ->
  bBq.l0 V lit (o.length:Int) c (c.length:Int) (i:Int)=some (ofL t o (c.drop i))
 |0,i,lit,o,hi,ho,hl=>by
  rw[bBq.l0_eq,cd,if_neg (by omega),List.drop_of_length_le (by omega),ce,ce]
  simp only[ofL]
  match o,hl with
  |[],_=>simp
  |[x],hl=>have:=hl rfl;simp at this;subst this;simp
  |a::b::r,_=>rw[if_neg (by simp only[List.length_cons];omega),if_neg (by simp only[List.length_cons];omega)]
 |n+1,i,lit,o,hi,ho,hl=>by
  have hlt:i<c.length:=by omega
  have hw:IntKind.wrap .i64 ((i:Int)+1)=((i+1:Nat):Int):=by rw[wr]<;>omega
  have hw2:IntKind.wrap .i64 ((o.length:Int)+1)=((o++[c[i]]).length:Int):=by rw[List.length_append,List.length_singleton,wr]<;>omega
  have hx:=hc c[i] (List.getElem_mem hlt)
  rw[bBq.l0_eq,cd,if_pos (by omega),bB0 hlt,Option.bind_some,hV.get hx,Option.bind_some,ce,ce,drop_cons hlt,hw,hw2]
  simp only[ofL]
  split
  .rfl
  .split
   .refine bBq.loop hv hV hc hn n (i+1) c[i] (o++[c[i]]) (by omega) (by rw[List.length_append,List.length_singleton];omega) fun h=>?_
    have:o=[]:=List.eq_nil_of_length_eq_zero (by rw[List.length_append,List.length_singleton]at h;omega)
    rw[this];rfl
   .exact bBq.loop hv hV hc hn n (i+1) lit o (by omega) (by omega) hl
theorem bJi{v:Int}(hv:okV v){t V:List Int}(hV:Vals v t V){c:List Int}(hc:∀l∈c,isLit v l)(hn:c.length<=140737488351232):bBq V c=some (stC t c):=by
 rw[bBq.eq,<-cC1]
 exact bBq.loop hv hV hc hn c.length 0 0 [] (by omega) (by simp) (by simp)
def ffC(t:List Int):Int->List (List Int)->Int
 |_,[]=>-1
 |i,c::r=>if(stC t c).1=0 then i else ffC t (i+1) r
def fuC(t:List Int):List (List Int)->Int
 |[]=>0
 |c::r=>if(stC t c).1=3 then(stC t c).2 else fuC t r
theorem bKz{t c:List Int}(h:(stC t c).1=3):(stC t c).2∈c/\isS t (stC t c).2=2:=by
 unfold stC at h ⊢
 split
 .rename_i h1;rw[if_pos h1]at h;simp at h
 .rename_i h1
  rw[if_neg h1]at h
  split at h
  .simp at h
  .rename_i x hx
   have:x∈c.filter (fun l=>decide (isS t l=2)):=by rw[hx];simp
   rw[List.mem_filter]at this
   exact⟨this.1,of_decide_eq_true this.2⟩
  .simp at h
theorem bB2.loop{v:Int}(hv:okV v){t V:List Int}(hV:Vals v t V){L:List (List Int)}(hL:∀c∈L,(∀l∈c,isLit v l)/\c.length<=140737488351232)(hn:L.length<=140737488351232):∀(n i:Nat) (lit:Int),i+n=L.length ->
  bB2.l0 V lit L (L.length:Int) (i:Int)=some (if 0<=ffC t (i:Int) (L.drop i) then(ffC t (i:Int) (L.drop i),0) else(-1,if lit=0 then fuC t (L.drop i) else lit))
 |0,i,lit,hi=>by
  rw[bB2.l0_eq,cd,if_neg (by omega),List.drop_of_length_le (by omega)]
  have h1:¬0<=ffC t (i:Int) []:=by show ¬(0:Int) <= -1;decide
  rw[if_neg h1]
  by_cases hl:lit=0
  .rw[if_pos hl,hl];rfl
  .rw[if_neg hl]
 |n+1,i,lit,hi=>by
  have hlt:i<L.length:=by omega
  have hw:IntKind.wrap .i64 ((i:Int)+1)=((i+1:Nat):Int):=by rw[wr]<;>omega
  obtain⟨hc1,hc2⟩:=hL L[i] (List.getElem_mem hlt)
  have hcast:((i+1:Nat):Int)=(i:Int)+1:=by omega
  rw[bB2.l0_eq,cd,if_pos (by omega),bB0 hlt,Option.bind_some,bJi hv hV hc1 hc2,Option.bind_some,ce,ce,ce,drop_cons hlt,hw]
  have ih:=fun lit=>bB2.loop hv hV hL hn n (i+1) lit (by omega)
  rw[hcast]at ih ⊢
  simp only[ffC,fuC]
  by_cases h0:(stC t L[i]).1=0
  .have hi0:(0:Int)<=(i:Int):=by omega
   simp only[if_pos h0,if_pos hi0]
  .simp only[if_neg h0]
   by_cases h3:(stC t L[i]).1=3
   .simp only[if_pos h3]
    have hx2:=hc1 _ (bKz h3).1
    by_cases hl:lit=0
    .rw[if_pos hl,if_pos hl,ih]
     simp only[if_neg (show ¬(stC t L[i]).2=0 by omega)]
    .rw[if_neg hl,if_neg hl,ih]
     simp only[if_neg hl]
   .simp only[if_neg h3]
    rw[ih]
theorem bP0{v:Int}(hv:okV v){t V:List Int}(hV:Vals v t V){L:List (List Int)}(hL:∀c∈L,(∀l∈c,isLit v l)/\c.length<=140737488351232)(hn:L.length<=140737488351232):
  bB2 V L=some (if 0<=ffC t 0 L then(ffC t 0 L,0) else(-1,fuC t L)):=by
 rw[bB2.eq]
 have:=bB2.loop hv hV hL hn L.length 0 0 (by omega)
 rw[show((0:Nat):Int)=0 from rfl]at this
 rw[this]
 simp
theorem bNp(t:List Int):∀(L:List (List Int)) (i:Int),ffC t i L = -1\/(i<=ffC t i L/\ffC t i L<i+L.length)
 |[],i=>by simp[ffC]
 |c::r,i=>by
  simp only[ffC]
  split
  .right;simp;omega
  .rcases bNp t r (i+1) with h|h
   .exact .inl h
   .right;simp only[List.length_cons];omega
def bAf(L:List (List Int)):Nat->List Int->List Int×Int
 |0,t=>(t,-1)
 |n+1,t=>if 0<=ffC t 0 L\/fuC t L=0 then(t,ffC t 0 L) else bAf L n (t++[fuC t L])
def okL(v:Int)(L:List (List Int)):Prop:=∀c∈L,okC v c
instance (v:Int)(L:List (List Int)):Decidable (okL v L):=by unfold okL;infer_instance
theorem okC.len{v:Int}(hv:okV v){c:List Int}(h:okC v c):c.length<=4000:=by
 have h1:(c.map fun l=>l/2-1).Nodup:=by
  rw[List.Nodup,List.pairwise_map]
  exact h.2.imp fun hab he=>by omega
 have:=bNf v.toNat h1 (fun x hx=>by
  obtain⟨l,hl,rfl⟩:=List.mem_map.1 hx
  have:=h.1 l hl
  omega)
 rw[List.length_map]at this
 omega
theorem bK5{t:List Int}:∀{L:List (List Int)},fuC t L≠0->∃c∈L,stC t c=(3,fuC t L)
 |[],h=>by simp[fuC]at h
 |c::r,h=>by
  simp only[fuC]at h ⊢
  split
  .rename_i h3
   exact⟨c,by simp,by rw[<-h3]⟩
  .rename_i h3
   rw[if_neg h3]at h
   obtain⟨d,hd,he⟩:=bK5 h
   exact⟨d,by simp[hd],he⟩
theorem okA.push{v:Int}{t s:List Int}(h:okA v t s){x:Int}(hx:isLit v x)(hf:isS t x=2):okA v (t++[x]) s where
 vars:=h.vars
 lits:=fun l hl=>by
  rcases List.mem_append.1 hl with hl|hl
  .exact h.lits l hl
  .have:=List.mem_singleton.1 hl;subst this;exact hx
 dis:=by
  rw[List.pairwise_append]
  refine⟨h.dis,by simp,fun a ha b hb=>?_⟩
  have:=List.mem_singleton.1 hb;subst this
  exact bDm.1 hf a ha
 inc:=h.inc
 bnd:=fun y hy=>by have:=h.bnd y hy;simp only[List.length_append];omega
theorem bLt{v:Int}{t:List Int}{L:List (List Int)}(hL:okL v L)(h:fuC t L≠0):isLit v (fuC t L)/\isS t (fuC t L)=2:=by
 obtain⟨c,hc,he⟩:=bK5 h
 have:=bKz (t:=t) (c:=c) (by rw[he])
 rw[he]at this
 exact⟨(hL c hc).1 _ this.1,this.2⟩
theorem bBp.loop1{v:Int}{L:List (List Int)}(hL:okL v L)(hn:L.length<=140737488351232){x3 x4:List Int}:∀(n:Nat) {t s V:List Int} {b:Int},okA v t s->Vals v t V->v-t.length<n ->
  bBp.l1 L b v V x3 x4 t s=some ((v,(bAf L n t).1,s),(bAf L n t).2,0)
 |0,t,s,V,_,h,hV,hlt=>by have:=h.short;omega
 |n+1,t,s,V,_,h,hV,hlt=>by
  have hv:=h.vars
  have hL':∀c∈L,(∀l∈c,isLit v l)/\c.length<=140737488351232:=fun c hc=>⟨(hL c hc).1,by have:=(hL c hc).len hv;omega⟩
  rw[bBp.l1_eq,bP0 hv hV hL' hn,Option.bind_some,cd,ce]
  simp only[bAf]
  by_cases h0:0<=ffC t 0 L
  .simp only[if_pos h0]
   rw[if_pos (by omega)]
   try simp only[h0,true_or,if_true]
  .simp only[if_neg h0]
   have hff:ffC t 0 L = -1:=by have:=bNp t L 0;omega
   rw[if_neg (by omega)]
   by_cases hz:fuC t L=0
   .rw[if_pos hz,if_pos (.inr hz),hff]
   .obtain⟨hx,hf⟩:=bLt hL hz
    have hsh:=h.short
    rw[if_neg hz,if_neg (fun h=>h.elim h0 hz),bP8 hv hV.1 hx,bB1 (by simp;omega),Option.bind_some,bD0 (by omega) (by omega)]
    exact bBp.loop1 hL hn n (h.push hx hf) (hV.push hx hf) (by simp only[List.length_append];simp;omega)
theorem bBp.loop0{v:Int}{t s:List Int}(h:okA v t s){L:List (List Int)}(hn:L.length<=140737488351232)(hr:∀c∈L,c.length<=140737488351232/\∀l∈c,in64 l):∀(n i:Nat),i+n=L.length->(∀c∈L.take i,okC v c) ->
  bBp.l0 L L (L.length:Int) (i:Int) v t s 0 [] []=some (if okL v L then((v,(bAf L (v+1).toNat t).1,s),(bAf L (v+1).toNat t).2,0) else((0,[],[]),0,8))
 |0,i,hi,hp=>by
  have hL:okL v L:=fun c hc=>hp c (by rw[List.take_of_length_le (by omega)];exact hc)
  have hsh:=h.short
  have hv:=h.vars
  obtain⟨V,h1,h2⟩:=bHx h
  rw[bBp.l0_eq,cd,if_neg (by omega),bD4 (by omega),Option.bind_some,bD4 (by omega),Option.bind_some,h1,Option.bind_some,if_pos hL]
  exact bBp.loop1 hL hn (v+1).toNat h h2 (by omega)
 |n+1,i,hi,hp=>by
  have hlt:i<L.length:=by omega
  have hw:IntKind.wrap .i64 ((i:Int)+1)=((i+1:Nat):Int):=by rw[wr]<;>omega
  obtain⟨hc1,hc2⟩:=hr L[i] (List.getElem_mem hlt)
  rw[bBp.l0_eq,cd,if_pos (by omega),bB0 hlt,Option.bind_some,bC8 hc1 hc2,Option.bind_some,if_pos h.vars,cn,hw]
  by_cases hc:okC v L[i]
  .rw[if_pos hc,if_pos rfl]
   refine bBp.loop0 h hn hr n (i+1) (by omega) fun c hcm=>?_
   rw[List.take_add_one,List.getElem?_eq_getElem hlt]at hcm
   rcases List.mem_append.1 hcm with hcm|hcm
   .exact hp c hcm
   .have:c=L[i]:=by simpa using hcm
    subst this;exact hc
  .rw[if_neg hc,if_neg (by omega),if_neg (fun hL=>hc (hL _ (List.getElem_mem hlt)))]
def runC(v:Int)(t s:List Int)(L:List (List Int)):(Int×List Int×List Int)×Int×Int:=
 if okA v t s then
  if L.length>20000 then((0,[],[]),0,4) else
  if okL v L then((v,(bAf L (v+1).toNat t).1,s),(bAf L (v+1).toNat t).2,0) else((0,[],[]),0,8)
 else((0,[],[]),0,8)
theorem bGa{v:Int}{t s:List Int}{L:List (List Int)}(ht:t.length<=140737488351232)(hs:s.length<=140737488351232)(htr:∀l∈t,in64 l)(hn:L.length<=140737488351232)(hr:∀c∈L,c.length<=140737488351232/\∀l∈c,in64 l):
  bBp v t s L=some (runC v t s L):=by
 rw[bBp.eq,bCd ht hs htr,Option.bind_some,cn,cd]
 unfold runC
 by_cases h:okA v t s
 .rw[if_pos h,if_pos rfl,if_pos h]
  by_cases hl:L.length>20000
  .rw[if_pos (by omega),if_pos hl]
  .rw[if_neg (by omega),if_neg hl]
   exact bBp.loop0 h hn hr L.length 0 (by omega) (by simp)
 .rw[if_neg h,if_neg (by omega),if_neg h]
def bKb(v:Int)(t s c:List Int):Int×Int×Int:=
 if okA v t s then(if okC v c then((stC t c).1,(stC t c).2,0) else(0,0,8)) else(0,0,8)
theorem bNx{v:Int}{t s c:List Int}(ht:t.length<=140737488351232)(hs:s.length<=140737488351232)(htr:∀l∈t,in64 l)(hc:c.length<=140737488351232)(hcr:∀l∈c,in64 l):bGd v t s c=some (bKb v t s c):=by
 rw[bGd.eq,bCd ht hs htr,Option.bind_some,cn,bC8 hc hcr,Option.bind_some,cn]
 unfold bKb
 by_cases h:okA v t s
 .rw[if_pos h,if_pos rfl,if_pos h,if_pos h.vars]
  by_cases hk:okC v c
  .obtain⟨V,h1,h2⟩:=bHx h
   rw[if_pos hk,if_pos rfl,if_pos hk,h1,Option.bind_some,bJi h.vars h2 hk.1 hc,Option.bind_some]
  .rw[if_neg hk,if_neg (by omega),if_neg hk]
 .rw[if_neg h,if_neg (by omega),if_neg h]
theorem bCu{v:Int}{s:List Int}{L:List (List Int)}(hL:okL v L):∀(n:Nat) {t:List Int},okA v t s->okA v (bAf L n t).1 s/\∃u,(bAf L n t).1=t++u
 |0,t,h=>⟨h,[],by simp[bAf]⟩
 |n+1,t,h=>by
  simp only[bAf]
  split
  .exact⟨h,[],by simp⟩
  .rename_i hc
   rw[not_or]at hc
   obtain⟨hx,hf⟩:=bLt hL hc.2
   obtain⟨h1,u,h2⟩:=bCu hL n (h.push hx hf)
   exact⟨h1,fuC t L::u,by rw[h2,List.append_assoc];rfl⟩
theorem bP9{v:Int}{s:List Int}{L:List (List Int)}(hL:okL v L):∀(n:Nat) {t:List Int},okA v t s->v-t.length<n->(bAf L n t).2=ffC (bAf L n t).1 0 L/\(0<=(bAf L n t).2\/fuC (bAf L n t).1 L=0)
 |0,t,h,hlt=>by have:=h.short;omega
 |n+1,t,h,hlt=>by
  simp only[bAf]
  split
  .rename_i hc;exact⟨rfl,hc⟩
  .rename_i hc
   rw[not_or]at hc
   obtain⟨hx,hf⟩:=bLt hL hc.2
   exact bP9 hL n (h.push hx hf) (by rw[List.length_append,List.length_singleton];omega)
theorem bK8{t:List Int}:∀{L:List (List Int)} {k:Int} (i:Nat) (hi:i<L.length),(k+i<ffC t k L->(stC t L[i]).1≠0)/\(k+i=ffC t k L->0<=k->(stC t L[i]).1=0)/\(ffC t k L = -1->0<=k->(stC t L[i]).1≠0)
 |[],k,i,hi=>by simp at hi
 |c::r,k,0,hi=>by
  simp only[ffC,List.getElem_cons_zero]
  split
  .rename_i h;exact⟨fun h'=>by omega,fun _ _=>h,fun h' hk=>by omega⟩
  .rename_i h
   refine⟨fun _=>h,fun h' hk=>?_,fun _ _=>h⟩
   rcases bNp t r (k+1) with h1|h1<;>omega
 |c::r,k,i+1,hi=>by
  simp only[ffC,List.getElem_cons_succ]
  split
  .rename_i h;exact⟨fun h'=>by omega,fun h' _=>by omega,fun h' hk=>by omega⟩
  .rename_i h
   obtain⟨h1,h2,h3⟩:=bK8 (t:=t) (L:=r) (k:=k+1) i (by simpa using hi)
   exact⟨fun h'=>h1 (by omega),fun h' hk=>h2 (by omega) (by omega),fun h' hk=>h3 h' (by omega)⟩
theorem bSq{t:List Int}:∀{L:List (List Int)},(∀c∈L,∀l∈c,l≠0)->fuC t L=0->∀c∈L,(stC t c).1≠3
 |[],_,_,c,hc=>by cases hc
 |d::r,hz,h,c,hc=>by
  simp only[fuC]at h
  split at h
  .rename_i h3
   exact absurd h (hz d (by simp) _ (bKz h3).1)
  .rename_i h3
   rcases List.mem_cons.1 hc with rfl|hc
   .exact h3
   .exact bSq (fun c hc=>hz c (by simp[hc])) h c hc
theorem cCs{v:Int}{t s:List Int}{L:List (List Int)}(h:okA v t s)(hL:okL v L)(hl:L.length<=20000):runC v t s L=((v,(bAf L (v+1).toNat t).1,s),(bAf L (v+1).toNat t).2,0):=by
 unfold runC
 rw[if_pos h,if_neg (by omega),if_pos hL]
theorem bKw{v l:Int}(hv:okV v)(h:isLit v l):in64 l:=by unfold in64;omega
def bDf(W:List Bool)(l:Int):Bool:=if l%2=1 then !(W.getD (l/2-1).toNat false) else W.getD (l/2-1).toNat false
theorem bKm{W:List Bool}{l:Int}(h:2<=l):bDf W (neg l) = !bDf W l:=by
 unfold bDf
 rw[bCh]
 unfold neg
 by_cases h2:l%2=0
 .rw[if_pos h2,if_pos (show(l+1)%2=1 by omega),if_neg (show ¬l%2=1 by omega)]
 .rw[if_neg h2,if_neg (show ¬(l-1)%2=1 by omega),if_pos (show l%2=1 by omega)];simp
theorem bFx{t c:List Int}:(stC t c).1=0↔∀l∈c,isS t l=0:=by
 unfold stC
 constructor
 .intro h
  split at h
  .simp at h
  .rename_i h1
   split at h
   .rename_i h2
    intro l hl
    have h3:¬isS t l=1:=fun e=>h1 (List.any_eq_true.2 ⟨l,hl,decide_eq_true e⟩)
    have h4:¬isS t l=2:=fun e=>by
     have:l∈c.filter (fun l=>decide (isS t l=2)):=List.mem_filter.2 ⟨hl,decide_eq_true e⟩
     rw[h2]at this;cases this
    rcases bCk t l with h|h|h<;>omega
   .simp at h
   .simp at h
 .intro h
  have h1:¬(c.any (fun l=>decide (isS t l=1))=true):=by
   rw[List.any_eq_true]
   rintro⟨l,hl,he⟩
   have:=h l hl
   have:=of_decide_eq_true he
   omega
  have h2:c.filter (fun l=>decide (isS t l=2))=[]:=by
   rw[List.filter_eq_nil_iff]
   intro l hl he
   have:=h l hl
   have:=of_decide_eq_true he
   omega
  rw[if_neg h1,h2]
theorem cCm{t c:List Int}:(stC t c).1=1↔∃l∈c,isS t l=1:=by
 unfold stC
 constructor
 .intro h
  split at h
  .rename_i h1
   obtain⟨l,hl,he⟩:=List.any_eq_true.1 h1
   exact⟨l,hl,of_decide_eq_true he⟩
  .split at h<;>simp at h
 .rintro⟨l,hl,he⟩
  rw[if_pos (List.any_eq_true.2 ⟨l,hl,decide_eq_true he⟩)]
theorem bLe{t c:List Int}(h:(stC t c).1=3):(stC t c).2∈c/\isS t (stC t c).2=2/\∀l∈c,l≠(stC t c).2->isS t l=0:=by
 obtain⟨h1,h2⟩:=bKz h
 refine⟨h1,h2,fun l hl hne=>?_⟩
 unfold stC at h hne
 split at h
 .simp at h
 .rename_i h3
  rw[if_neg h3]at hne
  have h4:¬isS t l=1:=fun e=>h3 (List.any_eq_true.2 ⟨l,hl,decide_eq_true e⟩)
  split at h
  .simp at h
  .rename_i x hx
   rw[hx]at hne
   have h5:¬isS t l=2:=fun e=>by
    have:l∈c.filter (fun l=>decide (isS t l=2)):=List.mem_filter.2 ⟨hl,decide_eq_true e⟩
    rw[hx]at this
    exact hne (List.mem_singleton.1 this)
   rcases bCk t l with h|h|h<;>omega
  .simp at h
theorem okC.nodup{v:Int}{c:List Int}(h:okC v c):c.Nodup:=h.2.imp fun hab e=>by rw[e]at hab;omega
theorem bG9{v:Int}{t c:List Int}(hc:okC v c){x:Int}(hx:x∈c)(h2:isS t x=2)(h0:∀l∈c,l≠x->isS t l=0):stC t c=(3,x):=by
 unfold stC
 have h1:¬(c.any (fun l=>decide (isS t l=1))=true):=by
  rw[List.any_eq_true]
  rintro⟨l,hl,he⟩
  have he:=of_decide_eq_true he
  by_cases hlx:l=x
  .subst hlx;omega
  .have:=h0 l hl hlx;omega
 have hf:c.filter (fun l=>decide (isS t l=2))=[x]:=by
  have hnd:(c.filter (fun l=>decide (isS t l=2))).Nodup:=hc.nodup.filter _
  have hmem:∀l,l∈c.filter (fun l=>decide (isS t l=2))↔l=x:=by
   intro l
   rw[List.mem_filter,decide_eq_true_iff]
   constructor
   .rintro⟨h1,h3⟩
    apply Classical.byContradiction
    intro hne
    have:=h0 l h1 hne
    omega
   .rintro rfl;exact⟨hx,h2⟩
  cases hl:c.filter (fun l=>decide (isS t l=2)) with
  |nil=>have:=(hmem x).2 rfl;rw[hl]at this;cases this
  |cons a r=>
   rw[hl]at hmem hnd
   have ha:a=x:=(hmem a).1 (by simp)
   cases r with
   |nil=>rw[ha]
   |cons b r=>
    have hb:b=x:=(hmem b).1 (by simp)
    rw[ha,hb]at hnd
    simp at hnd
 rw[if_neg h1,hf]
theorem bLh{v:Int}{s:List Int}{L:List (List Int)}(hL:okL v L){W:List Bool}(hm:∀c∈L,c.any (bDf W)=true):∀(n:Nat) {t:List Int},okA v t s->(∀l∈t,bDf W l=true)->(bAf L n t).2<0/\∀l∈(bAf L n t).1,bDf W l=true
 |0,t,h,ht=>⟨by simp[bAf],ht⟩
 |n+1,t,h,ht=>by
  have hfalse:∀l,2<=l->isS t l=0->bDf W l=false:=fun l h2 h0=>by
   have:=ht _ ((bBz h.dis).1 h0)
   rw[bKm h2]at this
   simpa using this
  have hff:ffC t 0 L<0:=by
   rcases bNp t L 0 with h1|h1
   .omega
   .exfalso
    obtain⟨i,hi⟩:∃i:Nat,ffC t 0 L=(i:Int):=⟨(ffC t 0 L).toNat,by omega⟩
    have hlt:i<L.length:=by omega
    have h0:=(bK8 (t:=t) (L:=L) (k:=0) i hlt).2.1 (by omega) (by omega)
    have hc:=hL _ (List.getElem_mem hlt)
    obtain⟨l,hl,hlt2⟩:=List.any_eq_true.1 (hm _ (List.getElem_mem hlt))
    rw[hfalse l (hc.1 l hl).1 (bFx.1 h0 l hl)]at hlt2
    cases hlt2
  simp only[bAf]
  split
  .exact⟨hff,ht⟩
  .rename_i hc
   rw[not_or]at hc
   obtain⟨hx,hf⟩:=bLt hL hc.2
   refine bLh hL hm n (h.push hx hf) fun l hl=>?_
   rcases List.mem_append.1 hl with hl|hl
   .exact ht l hl
   .have hlx:=List.mem_singleton.1 hl
    subst hlx
    obtain⟨c,hcm,he⟩:=bK5 hc.2
    obtain⟨g1,g2,g3⟩:=bLe (t:=t) (c:=c) (by rw[he])
    rw[he]at g1 g2 g3
    obtain⟨l,hl,hlt⟩:=List.any_eq_true.1 (hm c hcm)
    by_cases hlx:l=fuC t L
    .rw[hlx]at hlt;exact hlt
    .rw[hfalse l ((hL c hcm).1 l hl).1 (g3 l hl hlx)]at hlt;cases hlt
theorem bRq{v:Int}{t Y s s':List Int}(h:okA v t s)(hY:okA v Y s')(hs:∀l∈t,l∈Y){l:Int}:(isS t l=0->isS Y l=0)/\(isS t l=1->isS Y l=1):=
 ⟨fun h0=>(bBz hY.dis).2 (hs _ ((bBz h.dis).1 h0)),fun h1=>(bB6 hY.dis).2 (hs _ ((bB6 h.dis).1 h1))⟩
theorem bJo{v:Int}{s s':List Int}{L:List (List Int)}(hL:okL v L){Y:List Int}(hY:okA v Y s')(hcl:∀c∈L,(stC Y c).1≠0/\(stC Y c).1≠3):∀(n:Nat) {t:List Int},okA v t s->(∀l∈t,l∈Y)->(bAf L n t).2<0/\∀l∈(bAf L n t).1,l∈Y
 |0,t,h,ht=>⟨by simp[bAf],ht⟩
 |n+1,t,h,ht=>by
  have hff:ffC t 0 L<0:=by
   rcases bNp t L 0 with h1|h1
   .omega
   .exfalso
    obtain⟨i,hi⟩:∃i:Nat,ffC t 0 L=(i:Int):=⟨(ffC t 0 L).toNat,by omega⟩
    have hlt:i<L.length:=by omega
    have h0:=(bK8 (t:=t) (L:=L) (k:=0) i hlt).2.1 (by omega) (by omega)
    exact(hcl _ (List.getElem_mem hlt)).1 (bFx.2 fun l hl=>(bRq h hY ht).1 (bFx.1 h0 l hl))
  simp only[bAf]
  split
  .exact⟨hff,ht⟩
  .rename_i hc
   rw[not_or]at hc
   obtain⟨hx,hf⟩:=bLt hL hc.2
   refine bJo hL hY hcl n (h.push hx hf) fun l hl=>?_
   rcases List.mem_append.1 hl with hl|hl
   .exact ht l hl
   .have hlx:=List.mem_singleton.1 hl
    subst hlx
    obtain⟨c,hcm,he⟩:=bK5 hc.2
    obtain⟨g1,g2,g3⟩:=bLe (t:=t) (c:=c) (by rw[he])
    rw[he]at g1 g2 g3
    have g3':∀l∈c,l≠fuC t L->isS Y l=0:=fun l hl hne=>(bRq h hY ht).1 (g3 l hl hne)
    rcases bCk Y (fuC t L) with h0|h1|h2
    .exact absurd (bFx.2 fun l hl=>by
      by_cases hlx:l=fuC t L
      .rw[hlx];exact h0
      .exact g3' l hl hlx) (hcl c hcm).1
    .exact(bB6 hY.dis).1 h1
    .exact absurd (by rw[bG9 (hL c hcm) g1 h2 g3']) (hcl c hcm).2
theorem bDx{v:Int}{s:List Int}{L:List (List Int)}(hL:okL v L){t:List Int}(h:okA v t s)(hat:(bAf L (v+1).toNat t).2<0):∀c∈L,(stC (bAf L (v+1).toNat t).1 c).1≠0/\(stC (bAf L (v+1).toNat t).1 c).1≠3:=by
 obtain⟨h1,h2⟩:=bP9 hL (v+1).toNat h (by have:=h.vars;omega)
 have hff:ffC (bAf L (v+1).toNat t).1 0 L = -1:=by
  have:=bNp (bAf L (v+1).toNat t).1 L 0;omega
 intro c hc
 obtain⟨i,hi,rfl⟩:=List.getElem_of_mem hc
 exact⟨(bK8 (L:=L) (k:=0) i hi).2.2 hff (by omega),bSq (fun c hc l hl=>by have:=(hL c hc).1 l hl;omega) (h2.resolve_left (by omega)) _ (List.getElem_mem hi)⟩
theorem bJk:∀{a b:List Int},a.Pairwise (· < ·)->b.Pairwise (· < ·)->(∀y,y∈a↔y∈b)->a=b
 |[],[],_,_,_=>rfl
 |[],y::b,_,_,h=>by have:=(h y).2 (by simp);cases this
 |x::a,[],_,_,h=>by have:=(h x).1 (by simp);cases this
 |x::a,y::b,ha,hb,h=>by
  rw[List.pairwise_cons]at ha hb
  have hxy:x=y:=by
   have h1:=(h x).1 (by simp)
   have h2:=(h y).2 (by simp)
   rcases List.mem_cons.1 h1 with h1|h1
   .exact h1
   .rcases List.mem_cons.1 h2 with h2|h2
    .exact h2.symm
    .have:=ha.1 y h2;have:=hb.1 x h1;omega
  subst hxy
  congr 1
  refine bJk ha.2 hb.2 fun z=>?_
  constructor
  .intro hz
   rcases List.mem_cons.1 ((h z).1 (List.mem_cons_of_mem _ hz)) with h1|h1
   .subst h1;have:=ha.1 z hz;omega
   .exact h1
  .intro hz
   rcases List.mem_cons.1 ((h z).2 (List.mem_cons_of_mem _ hz)) with h1|h1
   .subst h1;have:=hb.1 z hz;omega
   .exact h1
theorem okA.nodup{v:Int}{t s:List Int}(h:okA v t s):t.Nodup:=h.dis.imp fun hab e=>hab (by rw[e])
section
abbrev bRh:Int×List Int×List Int:=(0,([],[]))
def bWr(v:Int)(t s:List Int)(lit:Int):Int:=if okA v t s then(if isLit v lit then 0 else 2) else 8
theorem bF7{v:Int}{t s:List Int}{lit:Int}(ht:t.length<=140737488351232)(hs:s.length<=140737488351232)(hr:∀l∈t,in64 l)(hl:in64 lit):bDk v t s lit=some (bWr v t s lit):=by
 rw[bDk.eq,bCd ht hs hr,Option.bind_some,cn]
 unfold bWr
 by_cases h:okA v t s
 .rw[if_pos h,if_pos rfl,if_pos h,bHf hl,Option.bind_some,cnot,cd]
  split<;>rfl
 .rw[if_neg h,if_neg (by omega),if_neg h]
theorem bDe.loop{s:List Int}{x:Int}(hn:s.length<=140737488351232):∀(n i:Nat),i+n=s.length->∃k,bAg.l0 s x (s.length:Int) (i:Int)=some k/\(0<=k↔x∈s.drop i)
 |0,i,hi=>⟨-1,by rw[bAg.l0_eq,cd,if_neg (by omega)],by rw[List.drop_of_length_le (by omega)];simp⟩
 |n+1,i,hi=>by
  have hlt:i<s.length:=by omega
  have hw2:IntKind.wrap .i64 ((i:Int)+1)=((i+1:Nat):Int):=by rw[wr]<;>omega
  obtain⟨k,h1,h2⟩:=bDe.loop hn n (i+1) (by omega)
  rw[bAg.l0_eq,cd,if_pos (by omega),bB0 hlt,Option.bind_some,ce,hw2,h1,drop_cons hlt]
  by_cases h:x=s[i]
  .rw[if_pos h]
   exact⟨_,rfl,fun _=>by rw[h];exact List.mem_cons_self ..,fun _=>by omega⟩
  .rw[if_neg h]
   refine⟨_,rfl,?_⟩
   rw[h2,List.mem_cons]
   exact⟨.inr,fun h'=>h'.resolve_left h⟩
theorem bC1{s:List Int}{x:Int}(hn:s.length<=140737488351232):bBd s x=some (decide (x∈s)):=by
 obtain⟨k,h1,h2⟩:=bDe.loop (x:=x) hn s.length 0 (by omega)
 rw[show((0:Nat):Int)=0 from rfl]at h1
 rw[List.drop_zero]at h2
 rw[bBd.eq,bAg.eq,h1,Option.bind_some]
 congr 1
 rw[decide_eq_decide]
 exact h2
def idxC(l:Int):Int->List Int->Int
 |_,[]=>-1
 |k,a::r=>if a/2=l/2 then k else idxC l (k+1) r
theorem slices_IndexFunc.loop{v:Int}(hv:okV v){t:List Int}(hl:∀l∈t,isLit v l)(hn:t.length<=140737488351232){lit:Int}(hlit:isLit v lit):∀(n i:Nat),i+n=t.length->bAn.l0 t lit (t.length:Int) (i:Int)=some (idxC lit (i:Int) (t.drop i))
 |0,i,hi=>by rw[bAn.l0_eq,cd,if_neg (by omega),List.drop_of_length_le (by omega)];rfl
 |n+1,i,hi=>by
  have hlt:i<t.length:=by omega
  have hli:=hl _ (List.getElem_mem hlt)
  have hw2:IntKind.wrap .i64 ((i:Int)+1)=((i+1:Nat):Int):=by rw[wr]<;>omega
  rw[bAn.l0_eq,cd,if_pos (by omega),bB0 hlt,Option.bind_some,bDb.eq,Option.bind_some,td (by omega) (by omega),td (by omega) (by omega),ce,hw2,slices_IndexFunc.loop hv hl hn hlit n (i+1) (by omega),drop_cons hlt]
  simp only[idxC]
  split<;>rfl
def bGh(s:List Int)(i:Int):Nat:=(s.filter (fun x=>decide (x<=i))).length
theorem bFh:∀{s:List Int} {i:Int},s.Pairwise (· < ·)->∀(j:Nat) (hj:j<s.length),s[j]<=i↔j<bGh s i
 |[],i,_,j,hj=>by simp at hj
 |a::r,i,hs,j,hj=>by
  rw[List.pairwise_cons]at hs
  unfold bGh
  rw[List.filter_cons]
  by_cases h:a<=i
  .rw[if_pos (decide_eq_true h),List.length_cons]
   cases j with
   |zero=>simp[h]
   |succ j=>
    have:=bFh (i:=i) hs.2 j (by simpa using hj)
    unfold bGh at this
    simp only[List.getElem_cons_succ]
    rw[this];omega
  .rw[if_neg (by simpa using h)]
   have h0:r.filter (fun x=>decide (x<=i))=[]:=by
    rw[List.filter_eq_nil_iff]
    intro x hx hxi
    have:=hs.1 x hx
    have:=of_decide_eq_true hxi
    omega
   rw[h0]
   simp only[List.length_nil,Nat.not_lt_zero,iff_false]
   cases j with
   |zero=>exact h
   |succ j=>
    have:=hs.1 _ (List.getElem_mem (by simpa using hj:j<r.length))
    simp only[List.getElem_cons_succ]
    omega
theorem bK9{s:List Int}{i:Int}:bGh s i<=s.length:=List.length_filter_le ..
theorem half{i j:Nat}(h:i+j<=1000000000000000):IntKind.wrap .i64 (bshr .u64 (IntKind.wrap .u64 (IntKind.wrap .i64 ((i:Int)+(j:Int)))) 1)=(((i+j)/2:Nat):Int):=by
 have h1:IntKind.wrap .i64 ((i:Int)+(j:Int))=((i+j:Nat):Int):=by rw[wr]<;>omega
 have h2:IntKind.wrap .u64 ((i+j:Nat):Int)=((i+j:Nat):Int):=by
  show((i+j:Nat):Int)%18446744073709551616=_
  omega
 have h3:bshr .u64 ((i+j:Nat):Int) 1=(((i+j)/2:Nat):Int):=by
  show Int.fdiv ((i+j:Nat):Int) (2^1)=_
  rw[Int.fdiv_eq_ediv_of_nonneg _ (by decide)]
  omega
 rw[h1,h2,h3,wr]<;>omega
theorem bRx{x y:Int}:cmp_Less_int x y=some (decide (x<y)):=by
 rw[cmp_Less_int.eq,cmp_isNaN_int.eq,Option.bind_some,bne_self_eq_false,cf]
theorem bCr.loop{s:List Int}(hs:s.Pairwise (· < ·))(hn:s.length<=100000000000000){x:Int}:∀(m i j:Nat),j-i<=m->i<=j->j<=s.length->(∀(k:Nat) (hk:k<s.length),k<i->s[k]<x)->(∀(k:Nat) (hk:k<s.length),j<=k->x<=s[k]) ->
  ∃(n:Nat) (f:Bool),bAe.l0 s x (s.length:Int) (i:Int) (j:Int)=some ((n:Int),f)/\(bif f then n+1 else n)=bGh s x/\n<=s.length
 |0,i,j,hm,hij,hj,h1,h2=>by
  have he:j=i:=by omega
  subst he
  have hle:=bK9 (s:=s) (i:=x)
  rw[bAe.l0_eq,cd,if_neg (by omega),cd]
  by_cases hlt:j<s.length
  .rw[if_pos (by omega),bB0 hlt,Option.bind_some,ce]
   have hge:=h2 j hlt (Nat.le_refl _)
   by_cases hx:s[j]=x
   .rw[if_pos hx]
    refine⟨j,true,rfl,?_,by omega⟩
    rw[ct]
    have q1:=(bFh (i:=x) hs j hlt).1 (by omega)
    apply Classical.byContradiction
    intro hne
    have hlt2:j+1<s.length:=by omega
    have q2:=(bFh (i:=x) hs (j+1) hlt2).2 (by omega)
    have q3:=List.pairwise_iff_getElem.1 hs j (j+1) hlt hlt2 (by omega)
    omega
   .rw[if_neg hx,Option.bind_some,bCt.eq,Option.bind_some,bne_self_eq_false,cf]
    refine⟨j,false,rfl,?_,by omega⟩
    rw[cf]
    apply Classical.byContradiction
    intro hne
    by_cases hc:j<bGh s x
    .have:=(bFh (i:=x) hs j hlt).2 hc;omega
    .have hjp:bGh s x<j:=by omega
     have:=(bFh (i:=x) hs (bGh s x) (by omega)).1 (by have:=h1 (bGh s x) (by omega) hjp;omega)
     omega
  .rw[if_neg (by omega)]
   refine⟨j,false,rfl,?_,by omega⟩
   rw[cf]
   apply Classical.byContradiction
   intro hne
   have hjp:bGh s x<j:=by omega
   have:=(bFh (i:=x) hs (bGh s x) (by omega)).1 (by have:=h1 (bGh s x) (by omega) hjp;omega)
   omega
 |m+1,i,j,hm,hij,hj,h1,h2=>by
  by_cases he:i<j
  .have hh:(i+j)/2<s.length:=by omega
   have hw:IntKind.wrap .i64 ((((i+j)/2:Nat):Int)+1)=(((i+j)/2+1:Nat):Int):=by rw[wr]<;>omega
   rw[bAe.l0_eq,cd,if_pos (by omega),half (by omega),bB0 hh,Option.bind_some,bRx,Option.bind_some,cd,hw]
   by_cases hx:s[(i+j)/2]<x
   .rw[if_pos hx]
    refine bCr.loop hs hn m ((i+j)/2+1) j (by omega) (by omega) hj (fun k hk hki=>?_) h2
    rcases Nat.lt_or_ge k ((i+j)/2) with hlt|hge
    .have:=List.pairwise_iff_getElem.1 hs k ((i+j)/2) hk hh hlt;omega
    .have:k=(i+j)/2:=by omega
     subst this;exact hx
   .rw[if_neg hx]
    refine bCr.loop hs hn m i ((i+j)/2) (by omega) (by omega) (by omega) h1 fun k hk hki=>?_
    rcases Nat.lt_or_ge ((i+j)/2) k with hlt|hge
    .have:=List.pairwise_iff_getElem.1 hs ((i+j)/2) k hh hk hlt;omega
    .have:k=(i+j)/2:=by omega
     subst this;omega
  .exact bCr.loop hs hn 0 i j (by omega) hij hj h1 h2
theorem bG0{s:List Int}(hs:s.Pairwise (· < ·))(hn:s.length<=100000000000000)(x:Int):∃(n:Nat) (f:Bool),bAe s x=some ((n:Int),f)/\(bif f then n+1 else n)=bGh s x/\n<=s.length:=by
 rw[bAe.eq]
 exact bCr.loop hs hn s.length 0 s.length (by omega) (by omega) (Nat.le_refl _) (fun k hk h=>by omega) (fun k hk h=>by omega)
def putC(v:Int)(t s:List Int)(lit:Int)(d:Bool):(Int×List Int×List Int)×Int:=
 if okA v t s then(if isLit v lit then(if isS t lit=2 then((v,(t++[lit],if d then s++[(t.length:Int)] else s)),0) else(bRh,18)) else(bRh,2)) else(bRh,8)
def valC(v:Int)(t s:List Int)(lit:Int):Int×Int:=if okA v t s then(if isLit v lit then(isS t lit,0) else(0,2)) else(0,8)
def levC(v:Int)(t s:List Int)(lit:Int):Int×Int:=if okA v t s then(if isLit v lit then(if idxC lit 0 t<0 then(0,6) else((bGh s (idxC lit 0 t):Int),0)) else(0,2)) else(0,8)
def undC(v:Int)(t s:List Int)(k:Int):(Int×List Int×List Int)×Int:=
 if okA v t s then(if 0<=k/\k<=s.length then((v,((match s[k.toNat]? with|some n=>t.take n.toNat|none=>t),s.take k.toNat)),0) else(bRh,2)) else(bRh,8)
section
variable {v:Int} {t s:List Int} (ht:t.length<=68719476000) (hs:s.length<=68719476000) (hr:∀l∈t,in64 l) {lit:Int} (hl:in64 lit)
include ht hs hr hl
theorem bPn:bGi v t s lit=some (putC v t s lit false):=by
 rw[bGi.eq,bF7 (by omega) (by omega) hr hl,Option.bind_some,cn]
 unfold bWr putC
 by_cases h:okA v t s
 .simp only[if_pos h]
  by_cases h2:isLit v lit
  .have hv:=h.vars
   simp only[if_pos h2,if_true]
   rw[bC1 (by omega),Option.bind_some,bD0 (by omega) (by omega),bC1 (by omega),Option.bind_some,cd,cd]
   by_cases c1:lit∈t
   .have:=(bB6 h.dis).2 c1
    rw[if_pos c1,if_neg (by omega)]
   .rw[if_neg c1]
    by_cases c2:neg lit∈t
    .have:=(bBz h.dis).2 c2
     rw[if_pos c2,if_neg (by omega)]
    .have hS:isS t lit=2:=by
      rcases bCk t lit with q|q|q
      .exact absurd ((bBz h.dis).1 q) c2
      .exact absurd ((bB6 h.dis).1 q) c1
      .exact q
     have g1:subl t 0 (t.length:Int)=some t:=by unfold subl;rw[if_pos (by omega)];simp
     have g2:subl s 0 (s.length:Int)=some s:=by unfold subl;rw[if_pos (by omega)];simp
     rw[if_neg c2,if_pos hS,g1,Option.bind_some,bB1 (by simp;omega),Option.bind_some,g2,Option.bind_some,bB1 (by simp;omega),Option.bind_some]
     rfl
  .simp only[if_neg h2];rfl
 .simp only[if_neg h];rfl
theorem bL4:bD9 v t s lit=some (putC v t s lit false):=by
 rw[bD9.eq,bPn ht hs hr hl];rfl
theorem bL2:bD7 v t s lit=some (valC v t s lit):=by
 rw[bD7.eq,bF7 (by omega) (by omega) hr hl,Option.bind_some,cn]
 unfold bWr valC
 by_cases h:okA v t s
 .simp only[if_pos h]
  by_cases h2:isLit v lit
  .have hv:=h.vars
   simp only[if_pos h2,if_true]
   rw[bC1 (by omega),Option.bind_some,bD0 (by omega) (by omega),bC1 (by omega),Option.bind_some,cd,cd]
   by_cases c1:lit∈t
   .rw[if_pos c1,(bB6 h.dis).2 c1]
   .rw[if_neg c1]
    by_cases c2:neg lit∈t
    .rw[if_pos c2,(bBz h.dis).2 c2]
    .have hS:isS t lit=2:=by
      rcases bCk t lit with q|q|q
      .exact absurd ((bBz h.dis).1 q) c2
      .exact absurd ((bB6 h.dis).1 q) c1
      .exact q
     rw[if_neg c2,hS]
  .simp only[if_neg h2];rfl
 .simp only[if_neg h];rfl
theorem bL3:bD8 v t s lit=some (levC v t s lit):=by
 rw[bD8.eq,bF7 (by omega) (by omega) hr hl,Option.bind_some,cn]
 unfold bWr levC
 by_cases h:okA v t s
 .simp only[if_pos h]
  by_cases h2:isLit v lit
  .have hv:=h.vars
   simp only[if_pos h2,if_true]
   have hidx:=slices_IndexFunc.loop hv h.lits (by omega) h2 t.length 0 (by omega)
   rw[show((0:Nat):Int)=0 from rfl,List.drop_zero]at hidx
   rw[bAn.eq,hidx,Option.bind_some,cd]
   by_cases h3:idxC lit 0 t<0
   .rw[if_pos h3,if_pos h3]
   .obtain⟨n,f,g1,g2,g3⟩:=bG0 h.inc (by omega) (idxC lit 0 t)
    rw[if_neg h3,if_neg h3,g1,Option.bind_some,<-g2]
    cases f with
    |true=>
     have hw:IntKind.wrap .i64 ((n:Int)+1)=((n+1:Nat):Int):=by rw[wr]<;>omega
     show some (IntKind.wrap .i64 ((n:Int)+1),(0:Int))=_
     rw[hw];rfl
    |false=>rfl
  .simp only[if_neg h2];rfl
 .simp only[if_neg h];rfl
end
theorem bKx{t:List Int}{k:Int}(h:0<=k/\k<=t.length):subl t 0 k=some (t.take k.toNat):=by
 unfold subl;rw[if_pos (by omega)];simp
theorem bM4{v:Int}{t s:List Int}(ht:t.length<=68719476000)(hs:s.length<=68719476000)(hr:∀l∈t,in64 l){k:Int}:bFp v t s k=some (undC v t s k):=by
 rw[bFp.eq,bCd (by omega) (by omega) hr,Option.bind_some,cn,cd,cd,cd]
 unfold undC
 by_cases h:okA v t s
 .rw[if_pos h,if_pos rfl,if_pos h]
  by_cases h1:k<0
  .rw[if_pos h1,if_neg (by omega)]
  .rw[if_neg h1]
   by_cases h2:k>(s.length:Int)
   .rw[if_pos h2,if_neg (by omega)]
   .rw[if_neg h2,if_pos (show 0<=k/\k<=(s.length:Int) by omega)]
    have hk:(k.toNat:Int)=k:=by omega
    by_cases h3:k<(s.length:Int)
    .have hlt:k.toNat<s.length:=by omega
     have hb:=h.bnd _ (List.getElem_mem hlt)
     have hg:geti s k=some s[k.toNat]:=by rw[gi' (by omega),List.getElem?_eq_getElem hlt]
     rw[if_pos h3,hg,Option.bind_some,bKx (by omega),Option.bind_some,bB1 (by simp;omega),Option.bind_some,bKx (by omega),Option.bind_some,bB1 (by simp;omega),Option.bind_some,List.getElem?_eq_getElem hlt]
     rfl
    .rw[if_neg h3,bKx (by omega),Option.bind_some,bB1 (by simp;omega),Option.bind_some,bKx (by omega),Option.bind_some,bB1 (by simp;omega),Option.bind_some,List.getElem?_eq_none (by omega)]
     simp
 .rw[if_neg h,if_neg (by omega),if_neg h]
end
section
def keep(t s:List Int)(k:Nat):Nat:=match s[k]? with|some n=>n.toNat|none=>t.length
theorem bZv{v:Int}{t s:List Int}(h:okA v t s){k i:Nat}(hk:k<=s.length)(hi:i<t.length):(bGh s (i:Int)<=k)↔i<keep t s k:=by
 unfold keep
 by_cases hlt:k<s.length
 .have:=bFh (i:=(i:Int)) h.inc k hlt
  have hb:=h.bnd _ (List.getElem_mem hlt)
  rw[List.getElem?_eq_getElem hlt]
  simp only
  constructor
  .intro h1
   apply Classical.byContradiction
   intro h2
   have:=this.1 (by omega)
   omega
  .intro h1
   apply Classical.byContradiction
   intro h2
   have:=this.2 (by omega)
   omega
 .rw[List.getElem?_eq_none (by omega)]
  have:=bK9 (s:=s) (i:=(i:Int))
  simp only
  omega
section
variable {v:Int} {t s:List Int} {lit:Int}
end
theorem cCd{v:Int}{t s:List Int}(h:okA v t s){k:Int}(hk:0<=k/\k<=s.length):undC v t s k=((v,(t.take (keep t s k.toNat),s.take k.toNat)),0):=by
 unfold undC keep
 rw[if_pos h,if_pos hk]
 cases s[k.toNat]? with
 |none=>simp
 |some n=>rfl
theorem bXf{v:Int}{t s:List Int}(h:okA v t s)(k:Nat):keep t s k<=t.length:=by
 unfold keep
 by_cases hlt:k<s.length
 .have hb:=h.bnd _ (List.getElem_mem hlt)
  rw[List.getElem?_eq_getElem hlt];simp only;omega
 .rw[List.getElem?_eq_none (by omega)];simp
theorem okA.undone{v:Int}{t s:List Int}(h:okA v t s){k:Nat}(hk:k<=s.length):okA v (t.take (keep t s k)) (s.take k) where
 vars:=h.vars
 lits:=fun l hl=>h.lits l (List.mem_of_mem_take hl)
 dis:=h.dis.sublist (List.take_sublist ..)
 inc:=h.inc.sublist (List.take_sublist ..)
 bnd:=fun x hx=>by
  have hb:=h.bnd x (List.mem_of_mem_take hx)
  refine⟨hb.1,?_⟩
  rw[List.length_take,Nat.min_eq_left (bXf h k)]
  unfold keep
  by_cases hlt:k<s.length
  .rw[List.getElem?_eq_getElem hlt]
   simp only
   obtain⟨i,hi,rfl⟩:=List.getElem_of_mem hx
   have hik:i<k:=by rw[List.length_take]at hi;omega
   have:=List.pairwise_iff_getElem.1 h.inc i k (by omega) hlt hik
   have hb2:=h.bnd _ (List.getElem_mem hlt)
   rw[List.getElem_take]at hb ⊢
   omega
  .rw[List.getElem?_eq_none (by omega)];simp only;omega
theorem bPe(l:Int):∀(t:List Int) (k:Int),idxC (neg l) k t=idxC l k t
 |[],k=>rfl
 |a::r,k=>by simp only[idxC,bCh,bPe l r]
theorem bQg{l:Int}:∀{t:List Int} {k:Int},0<=k->(idxC l k t<0↔isS t l=2)
 |[],k,_=>by simp[idxC,isS]
 |a::r,k,hk=>by
  have ih:=bQg (l:=l) (t:=r) (k:=k+1) (by omega)
  rw[bDm]at ih ⊢
  simp only[idxC]
  by_cases h:a/2=l/2
  .rw[if_pos h]
   exact⟨fun h2=>by omega,fun h2=>absurd h (h2 a (List.mem_cons_self ..))⟩
  .rw[if_neg h,ih]
   constructor
   .intro h2 b hb
    rcases List.mem_cons.1 hb with rfl|hb
    .exact h
    .exact h2 b hb
   .exact fun h2 b hb=>h2 b (List.mem_cons_of_mem _ hb)
end
theorem okA.dec{v:Int}{t s:List Int}(h:okA v t s){x:Int}(hx:isLit v x)(hf:isS t x=2):okA v (t++[x]) (s++[(t.length:Int)]):=by
 have h3:=h.push hx hf
 refine { h3 with inc:=?_,bnd:=fun y hy=>?_ }
 .rw[List.pairwise_append]
  refine⟨h.inc,by simp,fun x hx y hy=>?_⟩
  rw[List.mem_singleton.1 hy]
  exact(h.bnd x hx).2
 .rw[List.length_append,List.length_singleton]
  rcases List.mem_append.1 hy with hy|hy
  .have:=h.bnd y hy;omega
  .rw[List.mem_singleton.1 hy];omega
theorem bRs:∀{t:List Int} {k:Int} (i:Nat) (hi:i<t.length),t.Pairwise (fun a b=>a/2≠b/2)->idxC t[i] k t=k+i
 |a::r,k,0,hi,_=>by simp[idxC]
 |a::r,k,i+1,hi,hd=>by
  rw[List.pairwise_cons]at hd
  have hlt:i<r.length:=by simpa using hi
  have:=hd.1 _ (List.getElem_mem hlt)
  simp only[List.getElem_cons_succ,idxC]
  rw[if_neg this,bRs i hlt hd.2]
  omega
def bDq(v:Int)(L:List (List Int))(t:List Int):Bool:=decide ((bAf L (v+1).toNat t).2>=0)
def bMy(v:Int)(L:List (List Int))(c:List Int):Bool:=bDq v L (c.map neg)
theorem bWx{v:Int}(hv:okV v){c:List Int}(hc:okC v c):okA v (c.map neg) [] where
 vars:=hv
 lits:=fun l hl=>by
  obtain⟨x,hx,rfl⟩:=List.mem_map.1 hl
  exact bLj (hc.1 x hx)
 dis:=by
  rw[List.pairwise_map]
  exact hc.2.imp fun h=>by rw[bCh,bCh];omega
 inc:=List.Pairwise.nil
 bnd:=by simp
theorem bFm{v:Int}{a b:List (List Int)}:okL v (a++b)↔okL v a/\okL v b:=by
 unfold okL
 constructor
 .exact fun h=>⟨fun c hc=>h c (List.mem_append_left _ hc),fun c hc=>h c (List.mem_append_right _ hc)⟩
 .rintro⟨h1,h2⟩ c hc
  rcases List.mem_append.1 hc with hc|hc
  .exact h1 c hc
  .exact h2 c hc
theorem bBs.loop{v:Int}(hv:okV v){L:List (List Int)}(hL:okL v L)(hn:L.length<=100000):∀(n i:Nat),i+n=L.length->bBs.l0 v L (L.length:Int) (i:Int)=some 0
 |0,i,hi=>by rw[bBs.l0_eq,cd,if_neg (by omega)]
 |n+1,i,hi=>by
  have hlt:i<L.length:=by omega
  have hw2:IntKind.wrap .i64 ((i:Int)+1)=((i+1:Nat):Int):=by rw[wr]<;>omega
  have hc:=hL _ (List.getElem_mem hlt)
  have hcl:=hc.len hv
  rw[bBs.l0_eq,cd,if_pos (by omega),bB0 hlt,Option.bind_some,bC8 (by omega) (fun l hl=>bKw hv (hc.1 l hl)),Option.bind_some,if_pos hv,if_pos hc,cn,if_pos rfl,hw2]
  exact bBs.loop hv hL hn n (i+1) (by omega)
theorem bQh{v:Int}(hv:okV v){L:List (List Int)}(hL:okL v L){c:List Int}(hc:okC v c){W:List Bool}(hm:∀c∈L,c.any (bDf W)=true)(h:bMy v L c=true):c.any (bDf W)=true:=by
 apply Classical.byContradiction
 intro hn
 have hf:∀l∈c,bDf W l=false:=fun l hl=>by
  cases ht:bDf W l with
  |false=>rfl
  |true=>exact absurd (List.any_eq_true.2 ⟨l,hl,ht⟩) hn
 have:=(bLh hL hm (v+1).toNat (bWx hv hc) fun l hl=>by
  obtain⟨x,hx,rfl⟩:=List.mem_map.1 hl
  rw[bKm (hc.1 x hx).1,hf x hx];rfl).1
 unfold bMy bDq at h
 have:=of_decide_eq_true h
 omega
theorem bDv(l:List Int):(bJf l).Perm l/\(bJf l).Pairwise (· <= ·):=by
 refine⟨List.mergeSort_perm _ _,?_⟩
 have:=List.pairwise_mergeSort (le:=fun x y:Int=>decide (x<=y)) (by simp;omega) (by simp;omega) l
 exact this.imp fun h=>by simpa using h
theorem bLp{l:List Int}{j:Nat}(hj:j<l.length):Lib.keeps l.toArray j=true↔j=0\/l[j]≠l[j-1]'(by omega):=by
 unfold Lib.keeps
 by_cases h0:j=0
 .simp[h0]
 .have h1:j-1<l.length:=by omega
  simp[h0,hj,h1]
theorem bRv {l : List Int} {x : Int} : x ∈ Lib.compact l ↔ ∃ j, ∃ hj : j < l.length, Lib.keeps l.toArray j = true ∧ x = l[j] := by
  unfold Lib.compact Lib.compactUpTo
  rw [List.mem_map]
  constructor
  · rintro ⟨j, hj, rfl⟩
    rw [List.mem_filter, List.mem_range] at hj
    exact ⟨j, hj.1, hj.2, by simp [hj.1]⟩
  · rintro ⟨j, hj, hk, rfl⟩
    exact ⟨j, List.mem_filter.2 ⟨List.mem_range.2 hj, hk⟩, by simp [hj]⟩
theorem bQo {l : List Int} (hs : l.Pairwise (· ≤ ·)) : (Lib.compact l).Pairwise (· < ·) ∧ ∀ x, x ∈ Lib.compact l ↔ x ∈ l := by
  constructor
  · unfold Lib.compact Lib.compactUpTo
    rw [List.pairwise_map]
    refine List.Pairwise.imp_of_mem (fun {i j} hi hj hij => ?_) (List.pairwise_lt_range.filter _)
    rw [List.mem_filter, List.mem_range] at hi hj
    have hk := (bLp hj.1).1 hj.2
    rcases hk with h0 | hne
    · omega
    · have h1 : l[j - 1]'(by omega) ≤ l[j] := List.pairwise_iff_getElem.1 hs (j - 1) j (by omega) hj.1 (by omega)
      have h2 : l[i]'hi.1 ≤ l[j - 1]'(by omega) := by
        by_cases he : i = j - 1
        · subst he; exact Int.le_refl _
        · exact List.pairwise_iff_getElem.1 hs i (j - 1) hi.1 (by omega) (by omega)
      have e1 : l.toArray[i]! = l[i]'hi.1 := by simp [hi.1]
      have e2 : l.toArray[j]! = l[j]'hj.1 := by simp [hj.1]
      rw [e1, e2]
      omega
  · intro x
    rw [bRv]
    constructor
    · rintro ⟨j, hj, _, rfl⟩
      exact List.getElem_mem hj
    · intro hx
      obtain ⟨i, hi, rfl⟩ := List.getElem_of_mem hx
      induction i with
      | zero => exact ⟨0, hi, (bLp hi).2 (.inl rfl), rfl⟩
      | succ i ih =>
        by_cases he : l[i + 1] = l[i]'(by omega)
        · obtain ⟨j, hj, hk, e⟩ := ih (by omega) (List.getElem_mem _)
          exact ⟨j, hj, hk, he.trans e⟩
        · exact ⟨i + 1, hi, (bLp hi).2 (.inr (by simpa using he)), rfl⟩
theorem bAx.loop1 {o : List Int} (hn : o.length ≤ 1000000) (hr : ∀ x ∈ o, 0 ≤ x ∧ x ≤ 100000) : ∀ (n i : Nat), i + n = o.length →
    bAx.l1 (o.length : Int) (i : Int) o = some (if ∀ j, j < o.length → i ≤ j → 0 < j → o.getD j 0 / 2 ≠ o.getD (j - 1) 0 / 2 then (o, false, 0) else ([], true, 0))
  | 0, i, hi => by
    rw [bAx.l1_eq, cd, if_neg (by omega), if_pos (fun j h1 h2 => by omega)]
  | n + 1, i, hi => by
    have hlt : i < o.length := by omega
    have hx := hr _ (List.getElem_mem hlt)
    have hw : IntKind.wrap .i64 ((i : Int) + 1) = ((i + 1 : Nat) : Int) := by rw [wr] <;> omega
    rw [bAx.l1_eq, cd, if_pos (by omega), cd, hw, bAx.loop1 hn hr n (i + 1) (by omega)]
    have stay : (0 < i → o.getD i 0 / 2 ≠ o.getD (i - 1) 0 / 2) → (if ∀ j, j < o.length → i + 1 ≤ j → 0 < j → o.getD j 0 / 2 ≠ o.getD (j - 1) 0 / 2 then (o, false, (0 : Int)) else ([], true, 0)) =
        if ∀ j, j < o.length → i ≤ j → 0 < j → o.getD j 0 / 2 ≠ o.getD (j - 1) 0 / 2 then (o, false, 0) else ([], true, 0) := fun hst => by
      by_cases hall : ∀ j, j < o.length → i ≤ j → 0 < j → o.getD j 0 / 2 ≠ o.getD (j - 1) 0 / 2
      · rw [if_pos hall, if_pos (fun j h1 h2 h3 => hall j h1 (by omega) h3)]
      · rw [if_neg hall, if_neg (fun h' => hall fun j h1 h2 h3 => by
          by_cases he : j = i
          · subst he; exact hst h3
          · exact h' j h1 (by omega) h3)]
    by_cases h0 : 0 < i
    · have hp : i - 1 < o.length := by omega
      have hy := hr _ (List.getElem_mem hp)
      have hw2 : IntKind.wrap .i64 ((i : Int) - 1) = ((i - 1 : Nat) : Int) := by rw [wr] <;> omega
      have g1 : o.getD i 0 = o[i] := by simp [hlt]
      have g2 : o.getD (i - 1) 0 = o[i - 1] := by simp [hp]
      rw [if_pos (by omega), bB0 hlt, Option.bind_some, Int.toNat_natCast, List.getElem?_eq_getElem hlt, Option.bind_some, hw2, bB0 hp, Option.bind_some, Int.toNat_natCast, List.getElem?_eq_getElem hp, Option.bind_some, td (by omega) (by omega), td (by omega) (by omega), ce]
      by_cases he : o[i] / 2 = o[i - 1] / 2
      · rw [if_pos he, if_neg (fun hall => hall i hlt (Nat.le_refl _) h0 (by rw [g1, g2]; exact he))]
      · rw [if_neg he, stay (fun _ => by rw [g1, g2]; exact he)]
    · rw [if_neg (by omega), stay (fun h => absurd h h0)]
theorem bAx.loop0{v:Int}(hv:okV v){l:List Int}(hl:∀x∈l,isLit v x)(hn:l.length<=1000000):∀(n i:Nat),i+n=l.length ->
  bAx.l0 v l l (l.length:Int) (i:Int)=bAx.l1 ((Lib.compact (bJf l)).length:Int) 0 (Lib.compact (bJf l))
 |0,i,hi=>by
  have hs:=(bDv l).1.length_eq
  rw[bAx.l0_eq,cd,if_neg (by omega),bD4 (by omega),Option.bind_some]
  unfold lim LIM
  rw[if_pos (by omega),Option.bind_some,if_pos (by omega),Option.bind_some]
 |n+1,i,hi=>by
  have hlt:i<l.length:=by omega
  have hm:=hl _ (List.getElem_mem hlt)
  have hw:IntKind.wrap .i64 ((i:Int)+1)=((i+1:Nat):Int):=by rw[wr]<;>omega
  rw[bAx.l0_eq,cd,if_pos (by omega),bB0 hlt,Option.bind_some,bHd hv (by omega),Option.bind_some,decide_eq_true hm,Bool.not_true,cf,hw,bAx.loop0 hv hl hn n (i+1) (by omega)]
abbrev gd(h:List Int)(i:Nat):Int:=h.getD i 0
theorem bMx{h:List Int}{i:Nat}(hi:i<h.length):gd h i=h[i]:=by unfold gd;rw[List.getD_eq_getElem?_getD,List.getElem?_eq_getElem hi];rfl
abbrev cCy(h:List Int):Prop:=∀i,i<h.length->0<i->gd h ((i-1)/2)<=gd h i
structure okH(h:List Int):Prop where
 len:h.length<=4000
 rng:∀x∈h,1<=x/\x<=4000
 nodup:h.Nodup
 par:cCy h
instance (h:List Int):Decidable (okH h):=
 decidable_of_iff (h.length<=4000/\(∀x∈h,1<=x/\x<=4000)/\h.Nodup/\cCy h) ⟨fun⟨h1,h2,h3,h4⟩=>⟨h1,h2,h3,h4⟩,fun h=>⟨h.1,h.2,h.3,h.4⟩⟩
abbrev atH(h:List Int)(i:Nat):Prop:=(1<=gd h i/\gd h i<=4000)/\gd h i∉h.take i/\(0<i->gd h ((i-1)/2)<=gd h i)
theorem bWv{h:List Int}:okH h↔h.length<=4000/\∀i,i<h.length->atH h i:=by
 constructor
 .intro k
  refine⟨k.len,fun i hi=>⟨by rw[bMx hi];exact k.rng _ (List.getElem_mem hi),fun hm=>?_,k.par i hi⟩⟩
  obtain⟨j,hj,he⟩:=List.getElem_of_mem hm
  rw[List.length_take]at hj
  rw[List.getElem_take,bMx hi]at he
  have:=(List.getElem_inj k.nodup).1 he
  omega
 .rintro⟨k1,k2⟩
  refine⟨k1,fun x hx=>?_,?_,fun i hi h0=>(k2 i hi).2.2 h0⟩
  .obtain⟨i,hi,rfl⟩:=List.getElem_of_mem hx
   have:=(k2 i hi).1
   rwa [bMx hi]at this
  .rw[List.Nodup,List.pairwise_iff_getElem]
   intro i j hi hj hij he
   refine(k2 j hj).2.1 ?_
   rw[bMx hj,<-he,List.mem_iff_getElem]
   exact⟨i,by rw[List.length_take];omega,List.getElem_take⟩
def bNz(h:List Int)(i k:Nat):List Int:=(h.set i (gd h k)).set k (gd h i)
theorem bJj{h:List Int}{i k:Nat}:(bNz h i k).length=h.length:=by unfold bNz;rw[List.length_set,List.length_set]
theorem bKy{h:List Int}{i k:Nat}(hi:i<h.length)(hk:k<h.length)(j:Nat):gd (bNz h i k) j=if j=k then gd h i else if j=i then gd h k else gd h j:=by
 unfold bNz
 simp only[gd,List.getD_eq_getElem?_getD]
 rw[List.getElem?_set]
 by_cases h1:j=k
 .rw[if_pos h1.symm,if_pos h1,if_pos (by rw[List.length_set];omega)];rfl
 .rw[if_neg (fun e=>h1 e.symm),if_neg h1,List.getElem?_set]
  by_cases h2:j=i
  .rw[if_pos h2.symm,if_pos h2,if_pos (by omega)];rfl
  .rw[if_neg (fun e=>h2 e.symm),if_neg h2]
theorem bS7{h:List Int}{i k:Nat}(hi:i<h.length)(hk:k<h.length):(bNz h i k).Perm h:=by
 unfold bNz
 rw[bMx hi,bMx hk]
 exact List.set_set_perm hi hk
def siftUp:Nat->List Int->Nat->List Int
 |0,o,_=>o
 |n+1,o,i=>if 0<i/\gd o i<gd o ((i-1)/2) then siftUp n (bNz o i ((i-1)/2)) ((i-1)/2) else o
def bDi(o:List Int)(i:Nat):Nat:=
 if 2*i+2<o.length/\gd o (2*i+2)<gd o (if 2*i+1<o.length/\gd o (2*i+1)<gd o i then 2*i+1 else i) then 2*i+2
 else if 2*i+1<o.length/\gd o (2*i+1)<gd o i then 2*i+1 else i
theorem bKd(o:List Int)(i:Nat):bDi o i=i/\(∀j,j<o.length->0<j->(j-1)/2=i->gd o i<=gd o j) \/
  (bDi o i<o.length/\0<bDi o i/\(bDi o i-1)/2=i/\gd o (bDi o i)<gd o i/\∀j,j<o.length->0<j->(j-1)/2=i->gd o (bDi o i)<=gd o j):=by
 have hj:∀j,0<j->(j-1)/2=i->j=2*i+1\/j=2*i+2:=fun j h0 h1=>by omega
 unfold bDi
 by_cases h1:2*i+1<o.length/\gd o (2*i+1)<gd o i
 .simp only[if_pos h1]
  by_cases h2:2*i+2<o.length/\gd o (2*i+2)<gd o (2*i+1)
  .rw[if_pos h2]
   refine .inr ⟨h2.1,by omega,by omega,by omega,fun j hl h0 he=>?_⟩
   rcases hj j h0 he with rfl|rfl
   .omega
   .omega
  .rw[if_neg h2]
   refine .inr ⟨h1.1,by omega,by omega,h1.2,fun j hl h0 he=>?_⟩
   rcases hj j h0 he with rfl|rfl
   .omega
   .omega
 .simp only[if_neg h1]
  by_cases h2:2*i+2<o.length/\gd o (2*i+2)<gd o i
  .rw[if_pos h2]
   refine .inr ⟨h2.1,by omega,by omega,by omega,fun j hl h0 he=>?_⟩
   rcases hj j h0 he with rfl|rfl
   .omega
   .omega
  .rw[if_neg h2]
   refine .inl ⟨rfl,fun j hl h0 he=>?_⟩
   rcases hj j h0 he with rfl|rfl
   .omega
   .omega
def bJm:Nat->List Int->Nat->List Int
 |0,o,_=>o
 |n+1,o,i=>if bDi o i=i then o else bJm n (bNz o i (bDi o i)) (bDi o i)
def popped(h:List Int):List Int:=bJm h.length (h.dropLast.set 0 (gd h (h.length-1))) 0
theorem bLz{o:List Int}{i:Nat}(h:bDi o i≠i):bDi o i<o.length/\i<bDi o i:=by
 rcases bKd o i with⟨h1,_⟩|⟨h1,h2,h3,_⟩
 .exact absurd h1 h
 .exact⟨h1,by omega⟩
theorem bH5:∀(n:Nat) {o:List Int} {i:Nat},(bJm n o i).Perm o
 |0,o,i=>List.Perm.refl _
 |n+1,o,i=>by
  unfold bJm
  split
  .exact List.Perm.refl _
  .rename_i h
   have hb:=bLz h
   exact(bH5 n).trans (bS7 (by omega) hb.1)
theorem bNc:∀(n:Nat) {o:List Int} {i:Nat},o.length<n+i->(∀j,j<o.length->0<j->(j-1)/2≠i->gd o ((j-1)/2)<=gd o j) ->
  (0<i->∀j,j<o.length->0<j->(j-1)/2=i->gd o ((i-1)/2)<=gd o j)->cCy (bJm n o i)
 |0,o,i,hn,h1,h2=>by
  intro j hj h0
  exact h1 j hj h0 (by unfold bJm at hj;omega)
 |n+1,o,i,hn,h1,h2=>by
  unfold bJm
  rcases bKd o i with⟨h3,h4⟩|⟨h3,h4,h5,h6,h7⟩
  .rw[if_pos h3]
   intro j hj h0
   by_cases g:(j-1)/2=i
   .rw[g];exact h4 j hj h0 g
   .exact h1 j hj h0 g
  .generalize bDi o i=b at h3 h4 h5 h6 h7 ⊢
   rw[if_neg (by omega)]
   have hi:i<o.length:=by omega
   refine bNc n (by rw[bJj];omega) (fun j hj h0 hne=>?_) (fun hb0 j hj h0 he=>?_)
   .rw[bJj]at hj
    rw[bKy hi h3,bKy hi h3,if_neg hne]
    by_cases g1:(j-1)/2=i
    .rw[if_pos g1]
     by_cases g2:j=b
     .rw[if_pos g2];omega
     .rw[if_neg g2,if_neg (by omega)]
      exact h7 j hj h0 g1
    .rw[if_neg g1]
     by_cases g2:j=b
     .subst g2;omega
     .rw[if_neg g2]
      by_cases g3:j=i
      .rw[if_pos g3]
       subst g3
       exact h2 h0 b h3 h4 h5
      .rw[if_neg g3]
       exact h1 j hj h0 g1
   .rw[bJj]at hj
    rw[bKy hi h3,bKy hi h3,h5,if_neg (by omega),if_pos rfl,if_neg (by omega),if_neg (by omega)]
    have:=h1 j hj h0 (by omega)
    rw[he]at this
    exact this
theorem bXi{o:List Int}{x:Int}{i:Nat}(h:0<i):gd (o.set 0 x) i=gd o i:=by
 simp only[gd,List.getD_eq_getElem?_getD]
 rw[List.getElem?_set,if_neg (by omega)]
theorem bLr{h:List Int}{i:Nat}(hi:i<h.length-1):gd h.dropLast i=gd h i:=by
 simp only[gd,List.getD_eq_getElem?_getD]
 rw[List.dropLast_eq_take,List.getElem?_take_of_lt hi]
theorem bLi{h:List Int}(hne:h≠[]):(gd h 0::popped h).Perm h:=by
 have hp:(popped h).Perm (h.dropLast.set 0 (gd h (h.length-1))):=bH5 _
 refine(hp.cons _).trans ?_
 cases h with
 |nil=>exact absurd rfl hne
 |cons a r=>
  rcases List.eq_nil_or_concat r with rfl|⟨m,l,rfl⟩
  .simp
  .rw[List.concat_eq_append]
   have h1:(a::(m++[l])).dropLast=a::m:=by
    rw[<-List.cons_append,List.dropLast_concat]
   have h2:gd (a::(m++[l])) ((a::(m++[l])).length-1)=l:=by simp[gd]
   rw[h1,h2,List.set_cons_zero]
   show(a::l::m).Perm _
   exact(List.perm_append_singleton l m).symm.cons a
theorem bJ4{h:List Int}:(popped h).length=h.length-1:=by
 unfold popped
 rw[(bH5 _).length_eq,List.length_set,List.length_dropLast]
theorem okH.popped {h : List Int} (k : okH h) (hne : h ≠ []) : okH (popped h) := by
  have hp := bLi hne
  have hd := hp.nodup_iff.2 k.nodup
  have hl := bJ4 (h := h)
  have h0 : 0 < h.length := by cases h with | nil => exact absurd rfl hne | cons a r => simp
  refine ⟨by have := k.len; omega, fun x hx => k.rng x (hp.mem_iff.1 (List.mem_cons_of_mem _ hx)), (List.nodup_cons.1 hd).2, ?_⟩
  refine bNc _ (by rw [List.length_set, List.length_dropLast]; omega) (fun j hj hj0 hne => ?_) (fun h0 => absurd h0 (Nat.lt_irrefl _))
  rw [List.length_set, List.length_dropLast] at hj
  rw [bXi (by omega), bXi hj0, bLr (by omega), bLr hj]
  exact k.par j (by omega) hj0
theorem okH.min {h : List Int} (k : okH h) : ∀ (n i : Nat), i ≤ n → i < h.length → gd h 0 ≤ gd h i
  | 0, i, hn, hi => by have : i = 0 := by omega
                       subst this; exact Int.le_refl _
  | n + 1, i, hn, hi => by
    by_cases h0 : 0 < i
    · exact Int.le_trans (k.min n ((i - 1) / 2) (by omega) (by omega)) (k.par i hi h0)
    · exact k.min n i (by omega) hi
theorem okH.least {h : List Int} (k : okH h) {x : Int} (hx : x ∈ h) : gd h 0 ≤ x := by
  obtain ⟨i, hi, rfl⟩ := List.getElem_of_mem hx
  rw [← bMx hi]
  exact k.min i i (Nat.le_refl _) hi
theorem ifc{p q:Prop}[Decidable p][Decidable q]{α:Type}{a b:α}(h:p↔q):(if p then a else b)=if q then a else b:=by
 by_cases hp:p
 .rw[if_pos hp,if_pos (h.1 hp)]
 .rw[if_neg hp,if_neg (fun hq=>hp (h.2 hq))]
theorem lgd{h:List Int}{i:Nat}(hi:i<h.length):h[i]?=some (gd h i):=by rw[List.getElem?_eq_getElem hi,bMx hi]
theorem ggd{h:List Int}{i:Nat}(hi:i<h.length):geti h (i:Int)=some (gd h i):=by rw[gi,lgd hi]
theorem par_w{i:Nat}(h:0<i)(h2:i<=1000000000000):IntKind.wrap .i64 (Int.tdiv (IntKind.wrap .i64 ((i:Int)-1)) 2)=(((i-1)/2:Nat):Int):=by
 rw[wr (x:=(i:Int)-1) (by omega) (by omega),td (by omega) (by omega)];omega
theorem lft_w{i:Nat}(h:i<=1000000000000):IntKind.wrap .i64 (IntKind.wrap .i64 (2*(i:Int))+1)=((2*i+1:Nat):Int):=by
 rw[wr (x:=2*(i:Int)) (by omega) (by omega),wr (by omega) (by omega)];omega
theorem bWb{i:Nat}(h:i<=1000000000000):IntKind.wrap .i64 ((i:Int)+1)=((i+1:Nat):Int):=by
 rw[wr (by omega) (by omega)];omega
theorem prd_w{i:Nat}(h:i<=1000000000000)(h0:0<i):IntKind.wrap .i64 ((i:Int)-1)=((i-1:Nat):Int):=by
 rw[wr (by omega) (by omega)];omega
theorem bBh.loop{h:List Int}(hn:h.length<=4000):∀(n i:Nat) (o:List Bool),i+n=h.length->o.length=4001->(∀k:Nat,k<4001->o[k]?=some (decide ((k:Int)∈h.take i))) ->
  bBh.l0 h h (h.length:Int) (i:Int) o=some (if ∀j,j<h.length->i<=j->atH h j then 0 else 8)
 |0,i,o,hi,ho,hk=>by
  rw[bBh.l0_eq,cd,if_neg (by omega),if_pos (fun j h1 h2=>by omega)]
 |n+1,i,o,hi,ho,hk=>by
  have hlt:i<h.length:=by omega
  have bad:¬atH h i->(if ∀j,j<h.length->i<=j->atH h j then(0:Int) else 8)=8:=fun hb=>if_neg fun all=>hb (all i hlt (Nat.le_refl _))
  rw[bBh.l0_eq,cd,if_pos (by omega),ggd hlt,Option.bind_some,cd,cd]
  by_cases c1:gd h i<1
  .rw[if_pos c1,bad (fun q=>by have:=q.1.1;omega)]
  .rw[if_neg c1]
   by_cases c2:gd h i>4000
   .rw[if_pos c2,bad (fun q=>by have:=q.1.2;omega)]
   .rw[if_neg c2]
    obtain⟨k,hkk⟩:∃k:Nat,gd h i=(k:Int):=⟨(gd h i).toNat,by omega⟩
    rw[hkk,gi,Int.toNat_natCast,hk k (by omega),Option.bind_some,Option.bind_some,cd]
    by_cases c3:(k:Int)∈h.take i
    .rw[if_pos c3,bad (fun q=>q.2.1 (by rw[hkk];exact c3))]
    .rw[if_neg c3]
     have htk:h.take (i+1)=h.take i++[(k:Int)]:=by rw[List.take_add_one,lgd hlt,hkk];rfl
     have ih:=bBh.loop hn n (i+1) (o.set k true) (by omega) (by rw[List.length_set];exact ho) (fun j hj=>by
      rw[List.getElem?_set,htk]
      by_cases hjk:k=j
      .subst hjk
       rw[if_pos rfl,if_pos (by omega)]
       congr 1
       symm
       rw[decide_eq_true_iff]
       exact List.mem_append.2 (.inr (List.mem_singleton.2 rfl))
      .rw[if_neg hjk,hk j hj]
       congr 1
       rw[decide_eq_decide,List.mem_append,List.mem_singleton]
       exact⟨.inl,fun h=>h.resolve_right (by omega)⟩)
     have good:atH h i->(if ∀j,j<h.length->i+1<=j->atH h j then(0:Int) else 8)=if ∀j,j<h.length->i<=j->atH h j then 0 else 8:=fun hg=>
      ifc ⟨fun a j h1 h2=>by
       by_cases he:j=i
       .subst he;exact hg
       .exact a j h1 (by omega),fun a j h1 h2=>a j h1 (by omega)⟩
     rw[bWb (by omega),ih,cd]
     have rng:1<=gd h i/\gd h i<=4000:=by omega
     have nin:gd h i∉h.take i:=by rw[hkk];exact c3
     by_cases c4:0<i
     .rw[if_pos (by omega),par_w c4 (by omega),ggd (by omega),Option.bind_some,cd]
      by_cases c5:(k:Int)<gd h ((i-1)/2)
      .rw[if_pos c5,bad (fun q=>by have:=q.2.2 c4;omega)]
      .rw[if_neg c5,good ⟨rng,nin,fun _=>by omega⟩];rfl
     .rw[if_neg (by omega),good ⟨rng,nin,fun h=>absurd h c4⟩];rfl
theorem bLu{h:List Int}:bBh h=some (if okH h then 0 else 8):=by
 rw[bBh.eq,cd]
 by_cases c:(h.length:Int)>4000
 .rw[if_pos c,if_neg (fun k=>by have:=k.len;omega)]
 .rw[if_neg c]
  have:=bBh.loop (h:=h) (by omega) h.length 0 (List.replicate 4001 false) (by omega) (by rw[List.length_replicate]) (fun k hk=>by rw[List.getElem?_replicate,if_pos hk];simp)
  rw[show((0:Nat):Int)=0 from rfl]at this
  rw[this]
  congr 1
  refine ifc ⟨fun a=>bWv.2 ⟨by omega,fun i hi=>a i hi (Nat.zero_le _)⟩,fun a j h1 _=>(bWv.1 a).2 j h1⟩
theorem cCf{p:List Int}{z:Int}{n:Nat}(hn:p.length=n):bFj (p++[z]) 0 n=p:=by
 subst hn
 simp[bFj]
theorem bA2.one{p:List Int}{first:Int}{i b k n:Nat}(hn:p.length=n)(hl:n<=1000000000)(hi:i<=1000000000)(hk:k<2)(hb:2*i+1+k<n->b<n):
  bA2.l1 first (n:Int) (i:Int) (b:Int) (k:Int) p=bA2.l1 first (n:Int) (i:Int) ((if 2*i+1+k<n/\gd p (2*i+1+k)<gd p b then 2*i+1+k else b:Nat):Int) ((k+1:Nat):Int) p:=by
 have hw:IntKind.wrap .i64 (IntKind.wrap .i64 (IntKind.wrap .i64 (2*(i:Int))+1)+(k:Int))=((2*i+1+k:Nat):Int):=by
  rw[lft_w (by omega),wr (by omega) (by omega)];omega
 rw[bA2.l1_eq,cd,if_pos (by omega),hw,bWb (by omega),cd]
 by_cases c1:2*i+1+k<n
 .have h1:2*i+1+k<p.length:=by omega
  have h2:b<p.length:=by have:=hb c1;omega
  rw[if_pos (by omega),ggd h1,Option.bind_some,Int.toNat_natCast,lgd h1,Option.bind_some,ggd h2,Option.bind_some,Int.toNat_natCast,lgd h2,Option.bind_some,cd]
  by_cases c2:gd p (2*i+1+k)<gd p b
  .rw[if_pos c2,if_pos ⟨c1,c2⟩]
  .rw[if_neg c2,if_neg (fun h=>c2 h.2)]
 .rw[if_neg (by omega),if_neg (fun h=>c1 h.1)]
theorem bA2.round{p:List Int}{first:Int}{i n:Nat}(hn:p.length=n)(hl:n<=1000000000)(hi:i<=1000000000):
  bA2.l0 first (n:Int) (i:Int) p=if bDi p i=i then some (first,p) else bA2.l0 first (n:Int) ((bDi p i:Nat):Int) (bNz p i (bDi p i)):=by
 have e1:=bA2.one (first:=first) (b:=i) (k:=0) hn hl hi (by omega) (fun h=>by omega)
 have e2:=bA2.one (first:=first) (b:=if 2*i+1+0<n/\gd p (2*i+1+0)<gd p i then 2*i+1+0 else i) (k:=1) hn hl hi (by omega) (fun h=>by split<;>omega)
 have hbest:(if 2*i+1+1<n/\gd p (2*i+1+1)<gd p (if 2*i+1+0<n/\gd p (2*i+1+0)<gd p i then 2*i+1+0 else i) then 2*i+1+1 else if 2*i+1+0<n/\gd p (2*i+1+0)<gd p i then 2*i+1+0 else i)=bDi p i:=by
  subst hn;rfl
 rw[hbest]at e2
 rw[show((0:Nat):Int)=0 from rfl,show((0+1:Nat):Int)=((1:Nat):Int) from rfl]at e1
 rw[bA2.l0_eq,e1,e2,bA2.l1_eq,cd,if_neg (by omega),ce]
 by_cases c:bDi p i=i
 .rw[if_pos c,if_pos (by rw[c])]
 .obtain⟨b1,b2⟩:=bLz c
  have hi2:i<p.length:=by omega
  rw[if_neg c,if_neg (by omega)]
  generalize bDi p i=b at b1 b2
  have g2:b<(p.set i (gd p b)).length:=by rw[List.length_set];exact b1
  rw[ggd b1,Option.bind_some,Int.toNat_natCast,lgd b1,Option.bind_some,ggd hi2,Option.bind_some,Int.toNat_natCast,lgd hi2,Option.bind_some,Option.bind_some,Option.bind_some,
   ggd g2,Option.bind_some,lgd g2,Option.bind_some]
  rfl
theorem bA2.loop{first:Int}{n:Nat}(hl:n<=1000000000):∀(m:Nat) {p:List Int} {i:Nat},p.length=n->n<m+i->i<=n->bA2.l0 first (n:Int) (i:Int) p=some (first,bJm m p i)
 |0,p,i,hn,hm,hi=>by omega
 |m+1,p,i,hn,hm,hi=>by
  rw[bA2.round hn hl (by omega)]
  unfold bJm
  by_cases c:bDi p i=i
  .rw[if_pos c,if_pos c]
  .obtain⟨b1,b2⟩:=bLz c
   rw[if_neg c,if_neg c]
   exact bA2.loop hl m (by rw[bJj];exact hn) (by omega) (by omega)
theorem bPj{h:List Int}(hne:h≠[])(hl:h.length<=100000000):bA2 h=some (gd h 0,popped h):=by
 have h0:0<h.length:=by cases h with|nil=>exact absurd rfl hne|cons a r=>simp
 have hz:geti h 0=some (gd h 0):=ggd (i:=0) h0
 have hlast:h.length-1<h.length:=by omega
 obtain⟨q,hq⟩:∃q,h.set 0 (gd h (h.length-1))=q:=⟨_,rfl⟩
 have hql:q.length=h.length:=by rw[<-hq,List.length_set]
 have hsplit:q=h.dropLast.set 0 (gd h (h.length-1))++[gd h (h.length-1)]:=by
  rw[<-hq]
  rcases List.eq_nil_or_concat h with rfl|⟨m,l,rfl⟩
  .exact absurd rfl hne
  .rw[List.concat_eq_append,List.dropLast_concat]
   have e:gd (m++[l]) ((m++[l]).length-1)=l:=by simp[gd]
   rw[e]
   cases m with
   |nil=>rfl
   |cons a m=>rfl
 have hw:IntKind.wrap .i64 ((h.length:Int)-1)=((h.length-1:Nat):Int):=prd_w (by omega) h0
 rw[bA2.eq,hz,Option.bind_some,show Int.toNat (0:Int)=0 from rfl,lgd h0,Option.bind_some,hw,ggd hlast,Option.bind_some,Int.toNat_natCast,lgd hlast,Option.bind_some,Option.bind_some,Option.bind_some,hq,hql]
 have hc:(decide ((0:Int)<=0)&&decide ((0:Int)<=((h.length-1:Nat):Int))&&decide (((h.length-1:Nat):Int)<=(h.length:Int)))=true:=by
  rw[Bool.and_eq_true,Bool.and_eq_true,decide_eq_true_eq,decide_eq_true_eq,decide_eq_true_eq];omega
 have hcut:(h.dropLast.set 0 (gd h (h.length-1))).length=h.length-1:=by rw[List.length_set,List.length_dropLast]
 rw[hc,show chk true=some () from rfl,Option.bind_some,Int.sub_zero,Int.toNat_natCast,hsplit,cCf hcut]
 have:=bA2.loop (first:=gd h 0) (n:=h.length-1) (by omega) h.length (p:=h.dropLast.set 0 (gd h (h.length-1))) (i:=0) hcut (by omega) (by omega)
 rw[show((0:Nat):Int)=0 from rfl]at this
 exact this
theorem ne_nil{h:List Int}(hh:¬h.length=0):h≠[]:=fun e=>hh (by rw[e];rfl)
abbrev free(v:Int)(t:List Int)(x:Int):Prop:=x<=v/\∀a∈t,a/2≠x
def bQb(v:Int)(t:List Int):Nat->List Int->Int×List Int×Int
 |0,_=>(0,[],6)
 |n+1,h=>if h.length=0 then(0,[],6) else if free v t (gd h 0) then(gd h 0,popped h,0) else bQb v t n (popped h)
def bTi(h:List Int)(v:Int)(t s:List Int):Int×List Int×Int:=if okH h then(if okA v t s then bQb v t (h.length+1) h else(0,[],8)) else(0,[],8)
theorem cBn{h:List Int}{i:Nat}(hi:i<h.length):gd h i∈h:=by rw[bMx hi];exact List.getElem_mem hi
theorem bAz.loop1{v:Int}(hv:okV v){t s:List Int}{o:List Bool}(ho:(o.length:Int)=v+1)(hm:∀k:Nat,k<o.length->o[k]?=some (decide (∃a∈t,a/2=(k:Int)))):∀(n:Nat) {h:List Int},okH h->h.length<n ->
  bAz.l1 v t s o h=some (bQb v t n h)
 |0,h,hk,hn=>by omega
 |n+1,h,hk,hn=>by
  have hlen:=hk.len
  rw[bAz.l1_eq,cd]
  simp only[bQb]
  by_cases c1:h.length=0
  .rw[if_neg (by omega),if_pos c1]
  .have h0:0<h.length:=by omega
   have hr:=hk.rng _ (cBn h0)
   have hpl:=bJ4 (h:=h)
   rw[if_pos (by omega),if_neg c1,bPj (ne_nil c1) (by omega),Option.bind_some]
   simp only[cd]
   rw[bAz.loop1 hv ho hm n (hk.popped (ne_nil c1)) (by omega)]
   by_cases c2:gd h 0<=v
   .obtain⟨k,hkk⟩:∃k:Nat,gd h 0=(k:Int):=⟨(gd h 0).toNat,by omega⟩
    rw[if_pos c2,hkk,gi,Int.toNat_natCast,hm k (by omega),Option.bind_some,Option.bind_some,cnot,cd]
    by_cases c3:∃a∈t,a/2=(k:Int)
    .rw[if_pos c3,if_neg (fun h=>by obtain⟨a,ha,hb⟩:=c3;exact h.2 a ha hb)]
    .rw[if_neg c3,if_pos ⟨by omega,fun a ha hb=>c3 ⟨a,ha,hb⟩⟩]
   .rw[if_neg c2,if_neg (fun h=>c2 h.1)]
theorem bAz.loop0{v:Int}(hv:okV v){t s h:List Int}(ht:∀l∈t,isLit v l)(hn:t.length<=100000000)(hh:h.length<=100000000):∀(n i:Nat) (o:List Bool),i+n=t.length->(o.length:Int)=v+1 ->
  (∀k:Nat,k<o.length->o[k]?=some (decide (∃a∈t.take i,a/2=(k:Int)))) ->
  ∃o',bAz.l0 h t (t.length:Int) (i:Int) v t s o=bAz.l1 v t s o' h/\(o'.length:Int)=v+1/\∀k:Nat,k<o'.length->o'[k]?=some (decide (∃a∈t,a/2=(k:Int)))
 |0,i,o,hi,ho,hk=>by
  refine⟨o,?_,ho,?_⟩
  .rw[bAz.l0_eq,cd,if_neg (by omega),bD4 (by omega),Option.bind_some]
  .rw[List.take_of_length_le (by omega)]at hk;exact hk
 |n+1,i,o,hi,ho,hk=>by
  have hlt:i<t.length:=by omega
  have hl:=ht _ (List.getElem_mem hlt)
  obtain⟨k,hkk⟩:∃k:Nat,t[i]/2=(k:Int):=⟨(t[i]/2).toNat,by omega⟩
  have hko:k<o.length:=by omega
  have hd:IntKind.wrap .i64 (Int.tdiv t[i] 2)=(k:Int):=by rw[td (by omega) (by omega),hkk]
  have htk:t.take (i+1)=t.take i++[t[i]]:=by rw[List.take_add_one,List.getElem?_eq_getElem hlt];rfl
  rw[bAz.l0_eq,cd,if_pos (by omega),bB0 hlt,Option.bind_some,hd,gi,Int.toNat_natCast,List.getElem?_eq_getElem hko,Option.bind_some,Option.bind_some,bWb (by omega)]
  refine bAz.loop0 hv ht hn hh n (i+1) (o.set k true) (by omega) (by rw[List.length_set];exact ho) (fun j hj=>?_)
  rw[List.length_set]at hj
  rw[List.getElem?_set,htk]
  by_cases hjk:k=j
  .subst hjk
   rw[if_pos rfl,if_pos hj]
   congr 1
   symm
   rw[decide_eq_true_iff]
   exact⟨t[i],List.mem_append.2 (.inr (List.mem_singleton.2 rfl)),hkk⟩
  .rw[if_neg hjk,hk j hj]
   congr 1
   rw[decide_eq_decide]
   constructor
   .rintro⟨a,ha,hb⟩
    exact⟨a,List.mem_append.2 (.inl ha),hb⟩
   .rintro⟨a,ha,hb⟩
    rcases List.mem_append.1 ha with ha|ha
    .exact⟨a,ha,hb⟩
    .rw[List.mem_singleton]at ha
     subst ha
     omega
theorem bHz{h:List Int}{v:Int}{t s:List Int}(ht:t.length<=100000000)(hs:s.length<=100000000)(hr:∀l∈t,in64 l):bAz h v t s=some (bTi h v t s):=by
 rw[bAz.eq,bLu,Option.bind_some,cn]
 unfold bTi
 by_cases h1:okH h
 .have hl:=h1.len
  rw[if_pos h1,if_pos rfl,if_pos h1,bCd (by omega) (by omega) hr,Option.bind_some,cn]
  by_cases h2:okA v t s
  .have hv:=h2.vars
   rw[if_pos h2,if_pos rfl,if_pos h2]
   have hw:IntKind.wrap .i64 (v+1)=v+1:=by rw[wr]<;>omega
   rw[hw,bKo (by omega) (by omega),Option.bind_some,if_pos rfl]
   obtain⟨o',e1,e2,e3⟩:=bAz.loop0 (s:=s) (h:=h) hv h2.lits ht (by omega) t.length 0 (List.replicate (v+1).toNat false) (by omega) (by rw[List.length_replicate];omega) (fun k hk=>by
    rw[List.length_replicate]at hk
    rw[List.getElem?_replicate,if_pos hk];simp)
   rw[show((0:Nat):Int)=0 from rfl]at e1
   rw[e1,bAz.loop1 hv e2 e3 (h.length+1) h1 (by omega)]
  .rw[if_neg h2,if_neg (by omega),if_neg h2]
 .rw[if_neg h1,if_neg (by omega),if_neg h1]
def allL(n:Nat):List Int:=(List.range n).map fun i:Nat=>(i:Int)+1
theorem bQr{n:Nat}:allL (n+1)=allL n++[(n:Int)+1]:=by
 unfold allL
 rw[List.range_succ,List.map_append];rfl
theorem bHn{n:Nat}:(allL n).length=n:=by unfold allL;rw[List.length_map,List.length_range]
theorem bX0{n i:Nat}(hi:i<n):gd (allL n) i=(i:Int)+1:=by
 rw[bMx (by rw[bHn];exact hi)]
 simp[allL]
theorem bFi{n:Nat}{x:Int}:x∈allL n↔1<=x/\x<=n:=by
 unfold allL
 rw[List.mem_map]
 constructor
 .rintro⟨i,hi,rfl⟩
  rw[List.mem_range]at hi
  omega
 .intro h
  exact⟨(x-1).toNat,List.mem_range.2 (by omega),by omega⟩
theorem bC9{h:List Int}(k:okH h)(hne:h≠[]){y:Int}:y∈popped h↔y∈h/\y≠gd h 0:=by
 have hp:=bLi hne
 have hd:=List.nodup_cons.1 (hp.nodup_iff.2 k.nodup)
 rw[<-hp.mem_iff,List.mem_cons]
 constructor
 .intro hy
  exact⟨.inr hy,fun e=>hd.1 (e▸hy)⟩
 .rintro⟨hy|hy,hn⟩
  .exact absurd hy hn
  .exact hy
theorem bNh{v:Int}{t:List Int}:∀(n:Nat) {h:List Int},okH h->h.length<n->((∀x∈h,¬free v t x)/\bQb v t n h=(0,[],6)) \/
  ∃m r,bQb v t n h=(m,r,0)/\okH r/\m∈h/\free v t m/\(∀x∈h,free v t x->m<=x)/\(∀x∈h,x∈r↔m<x)/\∀x∈r,x∈h
 |0,h,k,hn=>by omega
 |n+1,h,k,hn=>by
  simp only[bQb]
  by_cases c1:h.length=0
  .rw[if_pos c1]
   rw[List.length_eq_zero_iff]at c1
   subst c1
   exact .inl ⟨by simp,rfl⟩
  .have hne:=ne_nil c1
   have h0:0<h.length:=by omega
   rw[if_neg c1]
   by_cases c2:free v t (gd h 0)
   .rw[if_pos c2]
    refine .inr ⟨_,_,rfl,k.popped hne,cBn h0,c2,fun x hx _=>k.least hx,fun x hx=>?_,fun x hx=>((bC9 k hne).1 hx).1⟩
    rw[bC9 k hne]
    have:=k.least hx
    exact⟨fun h=>by have:=h.2;omega,fun h=>⟨hx,by omega⟩⟩
   .rw[if_neg c2]
    have hpl:=bJ4 (h:=h)
    rcases bNh n (k.popped hne) (by omega) with⟨h1,h2⟩|⟨m,r,h1,h2,h3,h4,h5,h6,h7⟩
    .refine .inl ⟨fun x hx hf=>?_,h2⟩
     by_cases e:x=gd h 0
     .exact c2 (e▸hf)
     .exact h1 x ((bC9 k hne).2 ⟨hx,e⟩) hf
    .refine .inr ⟨m,r,h1,h2,((bC9 k hne).1 h3).1,h4,fun x hx hf=>?_,fun x hx=>?_,fun x hx=>((bC9 k hne).1 (h7 x hx)).1⟩
     .by_cases e:x=gd h 0
      .exact absurd (e▸hf) c2
      .exact h5 x ((bC9 k hne).2 ⟨hx,e⟩) hf
     .by_cases e:x=gd h 0
      .have hm:=(bC9 k hne).1 h3
       have:=k.least hm.1
       have hnr:x∉r:=fun hr=>((bC9 k hne).1 (h7 x hr)).2 e
       exact⟨fun hr=>absurd hr hnr,fun hlt=>by omega⟩
      .exact h6 x ((bC9 k hne).2 ⟨hx,e⟩)
section
abbrev bF6(f:Int->Int)(c:List Int)(k:Int):Nat:=(c.filter fun l=>decide (k<=f l)).length
def toF(f:Int->Int)(c:List Int):Nat->Nat
 |0=>0
 |k+1=>if bF6 f c ((k+1:Nat):Int)<2 then toF f c k else k+1
def givF(f:Int->Int)(to:Int):List Int->Int->Int
 |[],lit=>lit
 |l::r,lit=>givF f to r (if f l>to then l else lit)
theorem cBa(f:Int->Int)(c:List Int):∀n,toF f c n<=n
 |0=>Nat.le_refl _
 |n+1=>by
  unfold toF
  split
  .have:=cBa f c n;omega
  .exact Nat.le_refl _
theorem bV9(f:Int->Int)(c:List Int):∀n,toF f c n=0\/2<=bF6 f c (toF f c n)
 |0=>.inl rfl
 |n+1=>by
  unfold toF
  split
  .exact bV9 f c n
  .rename_i h;exact .inr (by omega)
theorem bWa(f:Int->Int)(c:List Int):∀n:Nat,(∀l∈c,f l<=(n:Int))->bF6 f c ((toF f c n:Int)+1)<2
 |0,h=>by
  have:bF6 f c (((0:Nat):Int)+1)=0:=by
   unfold bF6
   rw[List.length_eq_zero_iff,List.filter_eq_nil_iff]
   intro l hl hd
   have h1:=h l hl
   have h2:=of_decide_eq_true hd
   omega
  unfold toF
  omega
 |n+1,h=>by
  unfold toF
  by_cases hc:bF6 f c ((n+1:Nat):Int)<2
  .rw[if_pos hc]
   have:∀k:Nat,k<=n->(∀j:Nat,k<j->j<=n+1->bF6 f c (j:Int)<2)->bF6 f c ((toF f c k:Int)+1)<2:=by
    intro k
    induction k with
    |zero=>intro hk hj;unfold toF;exact hj 1 (by omega) (by omega)
    |succ k ih=>
     intro hk hj
     unfold toF
     by_cases hc2:bF6 f c ((k+1:Nat):Int)<2
     .rw[if_pos hc2]
      refine ih (by omega) (fun j h1 h2=>?_)
      by_cases he:j=k+1
      .subst he;exact hc2
      .exact hj j (by omega) h2
     .rw[if_neg hc2];exact hj (k+2) (by omega) (by omega)
   exact this n (Nat.le_refl _) (fun j h1 h2=>by
    have:j=n+1:=by omega
    subst this;exact hc)
  .rw[if_neg hc]
   have:bF6 f c (((n+1:Nat):Int)+1)=0:=by
    unfold bF6
    rw[List.length_eq_zero_iff,List.filter_eq_nil_iff]
    intro l hl hd
    have h1:=h l hl
    have h2:=of_decide_eq_true hd
    omega
   omega
theorem bXt{f:Int->Int}{c:List Int}{k x y:Int}(h:bF6 f c k<2)(hx:x∈c)(hy:y∈c)(h1:k<=f x)(h2:k<=f y):x=y:=by
 unfold bF6 at h
 have mx:x∈c.filter fun l=>decide (k<=f l):=List.mem_filter.2 ⟨hx,decide_eq_true h1⟩
 have my:y∈c.filter fun l=>decide (k<=f l):=List.mem_filter.2 ⟨hy,decide_eq_true h2⟩
 generalize c.filter (fun l=>decide (k<=f l))=L at h mx my
 match L,h with
 |[],_=>cases mx
 |[a],_=>
  rw[List.mem_singleton]at mx my
  rw[mx,my]
 |a::b::r,h=>simp only[List.length_cons]at h;omega
theorem bJ8(f:Int->Int)(to:Int):∀(c:List Int) (lit:Int),(givF f to c lit=lit/\∀l∈c,f l<=to)\/(givF f to c lit∈c/\to<f (givF f to c lit))
 |[],lit=>.inl ⟨rfl,by simp⟩
 |a::r,lit=>by
  simp only[givF]
  by_cases h:f a>to
  .rw[if_pos h]
   rcases bJ8 f to r a with⟨h1,h2⟩|⟨h1,h2⟩
   .rw[h1];exact .inr ⟨List.mem_cons_self ..,h⟩
   .exact .inr ⟨List.mem_cons_of_mem _ h1,h2⟩
  .rw[if_neg h]
   rcases bJ8 f to r lit with⟨h1,h2⟩|⟨h1,h2⟩
   .refine .inl ⟨h1,fun l hl=>?_⟩
    rcases List.mem_cons.1 hl with rfl|hl
    .omega
    .exact h2 l hl
   .exact .inr ⟨List.mem_cons_of_mem _ h1,h2⟩
theorem bSp{f:Int->Int}{c:List Int}{n:Nat}(hf:∀l∈c,f l<=(n:Int))(h0:∀l∈c,l≠0):
  (givF f (toF f c n) c 0=0/\∀l∈c,f l<=(toF f c n:Int)) \/
   (givF f (toF f c n) c 0∈c/\(toF f c n:Int)<f (givF f (toF f c n) c 0)/\∀l∈c,l≠givF f (toF f c n) c 0->f l<=(toF f c n:Int)):=by
 rcases bJ8 f (toF f c n) c 0 with h|⟨h1,h2⟩
 .exact .inl h
 .refine .inr ⟨h1,h2,fun l hl hne=>?_⟩
  apply Classical.byContradiction
  intro hlt
  exact hne (bXt (bWa f c n hf) hl h1 (by omega) (by omega))
def secC:List (Int×Int)->Int
 |_::b::_=>b.2
 |_=>0
section sorted
variable {f:Int->Int} {c:List Int}
theorem bTa{M:List (Int×Int)}(hp:M.Perm (c.map fun l=>(l,f l)))(k:Int):bF6 f c k=(M.filter fun p=>decide (k<=p.2)).length:=by
 rw[(hp.filter _).length_eq,List.filter_map,List.length_map]
 rfl
theorem bS8{M:List (Int×Int)}(hp:M.Perm (c.map fun l=>(l,f l)))(hs:M.Pairwise fun x y=>y.2<=x.2){k:Int}(hk:0<k):2<=bF6 f c k↔k<=secC M:=by
 rw[bTa hp]
 match M,hs with
 |[],_=>simp[secC];omega
 |[a],_=>
  simp only[secC,List.filter_cons,List.filter_nil]
  constructor
  .intro h;split at h<;>simp at h
  .intro h;omega
 |a::b::r,hs=>
  rw[List.pairwise_cons,List.pairwise_cons]at hs
  have hab:=hs.1 b (List.mem_cons_self ..)
  simp only[secC,List.filter_cons]
  constructor
  .intro h
   apply Classical.byContradiction
   intro hk2
   have hr:r.filter (fun p=>decide (k<=p.2))=[]:=by
    rw[List.filter_eq_nil_iff]
    intro p hp1 hd
    have h1:=hs.2.1 p hp1
    have h2:=of_decide_eq_true hd
    omega
   rw[hr,if_neg (fun e=>hk2 (of_decide_eq_true e))]at h
   split at h<;>simp at h
  .intro h
   rw[if_pos (decide_eq_true (Int.le_trans h hab)),if_pos (decide_eq_true h)]
   simp only[List.length_cons];omega
theorem bWh{M:List (Int×Int)}(hp:M.Perm (c.map fun l=>(l,f l))){n:Int}(hn:0<=n)(hf:∀l∈c,0<=f l/\f l<=n):0<=secC M/\secC M<=n:=by
 match M,hp with
 |[],_=>exact⟨Int.le_refl _,hn⟩
 |[a],_=>exact⟨Int.le_refl _,hn⟩
 |a::b::r,hp=>
  have:b∈c.map fun l=>(l,f l):=hp.mem_iff.1 (by simp)
  obtain⟨l,hl,rfl⟩:=List.mem_map.1 this
  exact hf l hl
theorem bP4{M:List (Int×Int)}(hp:M.Perm (c.map fun l=>(l,f l)))(hs:M.Pairwise fun x y=>y.2<=x.2){n:Nat}(hf:∀l∈c,0<=f l/\f l<=(n:Int)):(toF f c n:Int)=secC M:=by
 obtain⟨h0,hn⟩:=bWh hp (by omega) hf
 have:∀m:Nat,m<=n->(toF f c m:Int)=if secC M<=m then secC M else m:=by
  intro m
  induction m with
  |zero=>intro _;unfold toF;split<;>omega
  |succ m ih=>
   intro hm
   have h2:=bS8 hp hs (k:=((m+1:Nat):Int)) (by omega)
   unfold toF
   by_cases hc:bF6 f c ((m+1:Nat):Int)<2
   .rw[if_pos hc,ih (by omega)]
    have hlt:¬((m+1:Nat):Int)<=secC M:=fun h=>by have:=h2.2 h;omega
    rw[if_pos (by omega),if_pos (by omega)]
   .rw[if_neg hc]
    have hle:=h2.1 (by omega)
    split<;>omega
 rw[this n (Nat.le_refl _),if_pos hn]
theorem bS9{M:List (Int×Int)}(hp:M.Perm (c.map fun l=>(l,f l)))(hs:M.Pairwise fun x y=>y.2<=x.2){n:Nat}(hf:∀l∈c,0<=f l/\f l<=(n:Int))(h0:∀l∈c,l≠0):
  givF f (toF f c n) c 0=match M with|[]=>0|a::r=>if a.2=secC (a::r) then 0 else a.1:=by
 have hto:=bP4 hp hs hf
 match M,hp,hs,hto with
 |[],hp,hs,hto=>
  have:c=[]:=by
   have:=hp.length_eq
   simp at this
   exact List.eq_nil_of_length_eq_zero this.symm
  subst this;rfl
 |a::r,hp,hs,hto=>
  have ha:a∈c.map fun l=>(l,f l):=hp.mem_iff.1 (List.mem_cons_self ..)
  obtain⟨x,hx,rfl⟩:=List.mem_map.1 ha
  rw[List.pairwise_cons]at hs
  have hmax:∀l∈c,f l<=f x:=fun l hl=>by
   have:(l,f l)∈(x,f x)::r:=hp.mem_iff.2 (List.mem_map.2 ⟨l,hl,rfl⟩)
   rcases List.mem_cons.1 this with h|h
   .rw[Prod.mk.injEq]at h;omega
   .exact hs.1 _ h
  have hge:secC ((x,f x)::r)<=f x:=by
   cases r with
   |nil=>exact(hf x hx).1
   |cons b r=>exact hs.1 b (List.mem_cons_self ..)
  simp only
  rcases bSp (fun l hl=>(hf l hl).2) h0 with⟨g1,g2⟩|⟨g1,g2,g3⟩
  .rw[g1]
   have:=g2 x hx
   rw[if_pos (by omega)]
  .have:=hmax _ g1
   rw[if_neg (by omega)]
   apply Classical.byContradiction
   intro hne
   have:=g3 x hx (fun e=>hne e.symm)
   omega
end sorted
def lvl(t s:List Int)(l:Int):Int:=(bGh s (idxC l 0 t):Int)
theorem bLn{t s:List Int}{l:Int}:0<=lvl t s l/\lvl t s l<=(s.length:Int):=by
 unfold lvl
 have:=bK9 (s:=s) (i:=idxC l 0 t)
 omega
def askC(v:Int)(t s c:List Int):Int:=if okA v t s then(if okC v c then(if(stC t c).1=0 then 0 else 2) else 8) else 8
abbrev toC(t s c:List Int):Nat:=toF (lvl t s) c s.length
abbrev givC(t s c:List Int):Int:=givF (lvl t s) (toC t s c) c 0
def bFn(v:Int)(t s c:List Int):(Int×List Int×List Int)×Int:=
 if askC v t s c=0 then(if givC t s c=0 then(bRh,6) else((v,(t.take (keep t s (toC t s c))++[givC t s c],s.take (toC t s c))),0)) else(bRh,askC v t s c)
theorem okC.short{v:Int}(hv:okV v){c:List Int}(h:okC v c):c.length<=8002:=
 bNf 8002 h.nodup fun x hx=>by have:=h.1 x hx;omega
structure Fals(v:Int)(t s cl:List Int):Prop where
 a:okA v t s
 c:okC v cl
 z:∀l∈cl,isS t l=0
theorem bQp{v:Int}{t s c:List Int}(h:askC v t s c=0):Fals v t s c:=by
 unfold askC at h
 split at h
 .rename_i h1
  split at h
  .rename_i h2
   split at h
   .rename_i h3
    exact⟨h1,h2,bFx.1 h3⟩
   .omega
  .omega
 .omega
section
variable {v:Int} {t s c:List Int}
theorem Fals.idx(h:Fals v t s c){l:Int}(hl:l∈c):¬idxC l 0 t<0:=fun hn=>by
 have:=(bQg (l:=l) (t:=t) (k:=0) (by omega)).1 hn
 rw[h.z l hl]at this;omega
theorem Fals.lev(h:Fals v t s c){l:Int}(hl:l∈c):levC v t s l=(lvl t s l,0):=by
 unfold levC lvl
 rw[if_pos h.a,if_pos (h.c.1 l hl),if_neg (h.idx hl)]
theorem Fals.ne(h:Fals v t s c):∀l∈c,l≠0:=fun l hl=>by have:=h.c.1 l hl;omega
theorem Fals.rng(h:Fals v t s c):∀l∈c,0<=lvl t s l/\lvl t s l<=(s.length:Int):=fun l _=>bLn
theorem bJ6(h:Fals v t s c){l:Int}(hl:l∈c){k:Nat}(hk:k<=s.length):isS (t.take (keep t s k)) l=if lvl t s l<=(k:Int) then 0 else 2:=by
 have hn:neg l∈t:=(bBz h.a.dis).1 (h.z l hl)
 obtain⟨i,hi,he⟩:=List.getElem_of_mem hn
 have hx:idxC l 0 t=(i:Int):=by
  rw[<-bPe,<-he,bRs i hi h.a.dis];omega
 have hkeep:=bZv h.a hk hi
 have hlv:lvl t s l=(bGh s (i:Int):Int):=by unfold lvl;rw[hx]
 rw[hlv]
 by_cases hc:bGh s (i:Int)<=k
 .rw[if_pos (by omega)]
  have hik:=hkeep.1 hc
  refine(bBz (h.a.dis.sublist (List.take_sublist ..))).2 ?_
  rw[<-he,List.mem_iff_getElem]
  exact⟨i,by rw[List.length_take];omega,List.getElem_take⟩
 .rw[if_neg (by omega)]
  have hik:¬i<keep t s k:=fun q=>hc (hkeep.2 q)
  refine bDm.2 fun a ha hae=>?_
  obtain⟨j,hj,rfl⟩:=List.getElem_of_mem ha
  rw[List.length_take]at hj
  rw[List.getElem_take]at hae
  have:=List.pairwise_iff_getElem.1 h.a.dis j i (by omega) hi (by omega)
  rw[he,bCh]at this
  exact this hae
theorem Fals.in64(h:Fals v t s c):(∀l∈t,in64 l)/\(∀l∈c,in64 l):=by
 have hv:=h.a.vars
 exact⟨fun l hl=>by have:=h.a.lits l hl;omega,fun l hl=>by have:=h.c.1 l hl;omega⟩
theorem bBt.loop(h:Fals v t s c):∀(n i:Nat) {o:List (Int×Int)},i+n=c.length->o.length<=i ->
  bBt.l0 c (c.length:Int) (i:Int) v t s o=(lim bK0 (o++(c.drop i).map fun l=>(l,lvl t s l))).bind fun M=>some (M,0)
 |0,i,o,hi,ho=>by
  rw[bBt.l0_eq,cd,if_neg (by omega),List.drop_of_length_le (by omega),List.map_nil,List.append_nil]
 |n+1,i,o,hi,ho=>by
  have hlt:i<c.length:=by omega
  have hm:=List.getElem_mem hlt
  have hsh:=h.a.short
  have hv:=h.a.vars
  have hcs:=h.c.short hv
  have hw:IntKind.wrap .i64 ((i:Int)+1)=((i+1:Nat):Int):=by rw[wr]<;>omega
  rw[bBt.l0_eq,cd,if_pos (by omega),bB0 hlt,Option.bind_some,bL3 (by omega) (by omega) h.in64.1 (h.in64.2 _ hm),Option.bind_some,h.lev hm]
  dsimp only
  rw[cn,if_pos rfl,bB1 (by simp;omega),Option.bind_some,hw,bBt.loop h n (i+1) (by omega) (by simp;omega),drop_cons hlt,List.map_cons,List.append_assoc]
  rfl
abbrev atL(t s c:List Int):List (Int×Int):=bK0 (c.map fun l=>(l,lvl t s l))
theorem bMv(ht:t.length<=140737488351232)(hs:s.length<=140737488351232)(htr:∀l∈t,Go.Proofs.YtfjpfjnepdhnaaaGreat.in64 l)(hc:c.length<=140737488351232)(hcr:∀l∈c,Go.Proofs.YtfjpfjnepdhnaaaGreat.in64 l):
  bBt v t s c=some (if askC v t s c=0 then(atL t s c,0) else([],askC v t s c)):=by
 rw[bBt.eq,bNx ht hs htr hc hcr,Option.bind_some,cn,cn]
 by_cases h1:okA v t s
 .by_cases h2:okC v c
  .have e:bKb v t s c=((stC t c).1,(stC t c).2,0):=by unfold bKb;rw[if_pos h1,if_pos h2]
   rw[e]
   dsimp only
   rw[if_pos rfl]
   by_cases h3:(stC t c).1=0
   .have h0:askC v t s c=0:=by unfold askC;rw[if_pos h1,if_pos h2,if_pos h3]
    have F:=bQp h0
    have g:=bBt.loop F c.length 0 (o:=[]) (by omega) (Nat.le_refl _)
    rw[show((0:Nat):Int)=0 from rfl,List.drop_zero,List.nil_append]at g
    have hcs:=h2.short h1.vars
    rw[if_pos h3,if_pos h0,g]
    unfold lim LIM
    rw[if_pos (by rw[List.length_map];omega),Option.bind_some]
   .have h0:askC v t s c=2:=by unfold askC;rw[if_pos h1,if_pos h2,if_neg h3]
    rw[if_neg h3,h0,if_neg (by omega)]
  .have e:bKb v t s c=(0,0,8):=by unfold bKb;rw[if_pos h1,if_neg h2]
   have h0:askC v t s c=8:=by unfold askC;rw[if_pos h1,if_neg h2]
   rw[e,h0]
   dsimp only
   rw[if_neg (by omega),if_neg (by omega)]
 .have e:bKb v t s c=(0,0,8):=by unfold bKb;rw[if_neg h1]
  have h0:askC v t s c=8:=by unfold askC;rw[if_neg h1]
  rw[e,h0]
  dsimp only
  rw[if_neg (by omega),if_neg (by omega)]
theorem bMu{M:List (Int×Int)}:bDz M=some (secC M):=by
 rw[bDz.eq,cd]
 match M with
 |[]=>rfl
 |[a]=>rfl
 |a::b::r=>
  rw[if_neg (by simp only[List.length_cons];omega)]
  rfl
theorem Fals.spec(h:Fals v t s c):(givC t s c=0/\∀l∈c,lvl t s l<=(toC t s c:Int)) \/
  (givC t s c∈c/\(toC t s c:Int)<lvl t s (givC t s c)/\∀l∈c,l≠givC t s c->lvl t s l<=(toC t s c:Int)):=bSp (fun l hl=>(h.rng l hl).2) h.ne
theorem Fals.to(h:Fals v t s c):toC t s c<=s.length:=cBa _ _ _
theorem Fals.open_(h:Fals v t s c)(hg:givC t s c≠0):givC t s c∈c/\isS (t.take (keep t s (toC t s c))) (givC t s c)=2:=by
 rcases h.spec with⟨h1,_⟩|⟨h1,h2,_⟩
 .exact absurd h1 hg
 .refine⟨h1,?_⟩
  rw[bJ6 h h1 h.to,if_neg (by omega)]
theorem Fals.imply(h:Fals v t s c)(hg:givC t s c≠0):putC v (t.take (keep t s (toC t s c))) (s.take (toC t s c)) (givC t s c) false=((v,(t.take (keep t s (toC t s c))++[givC t s c],s.take (toC t s c))),0):=by
 obtain⟨h1,h2⟩:=h.open_ hg
 unfold putC
 rw[if_pos (h.a.undone h.to),if_pos (h.c.1 _ h1),if_pos h2]
 rfl
theorem bHy(ht:t.length<=140737488351232)(hs:s.length<=140737488351232)(htr:∀l∈t,Go.Proofs.YtfjpfjnepdhnaaaGreat.in64 l)(hc:c.length<=140737488351232)(hcr:∀l∈c,Go.Proofs.YtfjpfjnepdhnaaaGreat.in64 l):
  bD6 v t s c=some (bFn v t s c):=by
 rw[bD6.eq,bMv ht hs htr hc hcr,Option.bind_some,cn]
 unfold bFn
 by_cases h0:askC v t s c=0
 .have F:=bQp h0
  have hv:=F.a.vars
  have hsh:=F.a.short
  obtain⟨p1,p2⟩:(atL t s c).Perm (c.map fun l=>(l,lvl t s l))/\(atL t s c).Pairwise (fun x y=>y.2<=x.2):=bTz _
  have hto:(toC t s c:Int)=secC (atL t s c):=bP4 p1 p2 F.rng
  have hgv:givC t s c=match atL t s c with|[]=>0|a::r=>if a.2=secC (a::r) then 0 else a.1:=bS9 p1 p2 F.rng F.ne
  rw[if_pos h0,if_pos h0]
  dsimp only
  rw[if_pos rfl,ce]
  generalize atL t s c=M at hto hgv p1 p2 ⊢
  match M,hto,hgv,p1 with
  |[],hto,hgv,p1=>
   rw[if_pos (by simp),if_pos hgv]
  |a::r,hto,hgv,p1=>
   simp only at hgv
   have hz:geti (a::r) 0=some a:=rfl
   have hz2:(a::r)[Int.toNat 0]?=some a:=rfl
   rw[if_neg (by simp only[List.length_cons];omega),hz,Option.bind_some,hz2,Option.bind_some,bMu,Option.bind_some,ce]
   by_cases h1:a.2=secC (a::r)
   .rw[if_pos h1]at hgv
    rw[if_pos h1,if_pos hgv]
   .rw[if_neg h1]at hgv
    have hne:givC t s c≠0:=fun e=>by
     rcases F.spec with⟨g1,g2⟩|⟨g1,g2,_⟩
     .have ha:a∈c.map fun l=>(l,lvl t s l):=p1.mem_iff.1 (List.mem_cons_self ..)
      obtain⟨x,hx,rfl⟩:=List.mem_map.1 ha
      have hx0:=F.ne x hx
      rw[hgv]at e
      exact hx0 e
     .exact F.ne _ g1 e
    have hu:=cCd F.a (k:=(toC t s c:Int)) ⟨by omega,by have:=F.to;omega⟩
    rw[Int.toNat_natCast]at hu
    have hkl:=bXf F.a (toC t s c)
    rw[if_neg h1,if_neg hne,Option.bind_some,<-hto,bM4 (by omega) (by omega) htr,Option.bind_some,hu]
    dsimp only
    rw[cn,if_pos rfl,Option.bind_some,Option.bind_some,<-hgv,bL4 (by rw[List.length_take];omega) (by rw[List.length_take];omega) (fun l hl=>htr l (List.mem_of_mem_take hl)) (F.in64.2 _ (F.open_ hne).1),Option.bind_some,F.imply hne]
 .rw[if_neg h0,if_neg h0,if_neg h0]
end
end
section
variable {v:Int} {t s c:List Int}
theorem Fals.ask(h:Fals v t s c):askC v t s c=0:=by
 unfold askC
 rw[if_pos h.a,if_pos h.c,if_pos (bFx.2 h.z)]
theorem Fals.jb(h:Fals v t s c)(hg:givC t s c≠0):bFn v t s c=((v,(t.take (keep t s (toC t s c))++[givC t s c],s.take (toC t s c))),0):=by
 unfold bFn
 rw[if_pos h.ask,if_neg hg]
theorem Fals.back(h:Fals v t s c)(hg:givC t s c≠0):okA v (t.take (keep t s (toC t s c))++[givC t s c]) (s.take (toC t s c)):=
 (h.a.undone h.to).push (h.c.1 _ (h.open_ hg).1) (h.open_ hg).2
theorem Fals.unit(h:Fals v t s c)(hg:givC t s c≠0){k:Nat}(hk:k<=s.length)(h1:toC t s c<=k)(h2:(k:Int)<lvl t s (givC t s c)):stC (t.take (keep t s k)) c=(3,givC t s c):=by
 rcases h.spec with⟨g1,_⟩|⟨g1,g2,g3⟩
 .exact absurd g1 hg
 .refine bG9 h.c g1 (by rw[bJ6 h g1 hk,if_neg (by omega)]) (fun l hl hne=>?_)
  have:=g3 l hl hne
  rw[bJ6 h hl hk,if_pos (by omega)]
theorem Fals.two(h:Fals v t s c):toC t s c=0\/2<=bF6 (lvl t s) c (toC t s c:Int):=bV9 _ _ _
theorem Fals.one(h:Fals v t s c):bF6 (lvl t s) c ((toC t s c:Int)+1)<2:=bWa _ _ _ fun l hl=>(h.rng l hl).2
end
theorem cnt_ex{f:Int->Int}{c:List Int}(hd:c.Nodup){k:Int}(h:2<=bF6 f c k)(x:Int):∃y∈c,y≠x/\k<=f y:=by
 unfold bF6 at h
 have hn:(c.filter fun l=>decide (k<=f l)).Nodup:=hd.filter _
 have hm:∀y∈c.filter fun l=>decide (k<=f l),y∈c/\k<=f y:=fun y hy=>⟨(List.mem_filter.1 hy).1,of_decide_eq_true (List.mem_filter.1 hy).2⟩
 generalize c.filter (fun l=>decide (k<=f l))=L at h hn hm
 match L,h,hn,hm with
 |[],h,_,_=>simp at h
 |[a],h,_,_=>simp at h
 |a::b::r,_,hn,hm=>
  have hab:a≠b:=fun e=>by
   rw[List.nodup_cons]at hn
   exact hn.1 (e▸List.mem_cons_self ..)
  by_cases ha:a=x
  .exact⟨b,(hm b (by simp)).1,fun e=>hab (ha.trans e.symm),(hm b (by simp)).2⟩
  .exact⟨a,(hm a (by simp)).1,ha,(hm a (by simp)).2⟩
section
def dl(t s:List Int)(j:Nat):Int:=neg (t.getD (s.getD j 0).toNat 0)
def top(J:List Nat):Int:=match J.getLast? with|none=>0|some k=>(k:Int)+1
def cC9(t s:List Int)(J:List Nat):Int:=match J.getLast? with|none=>0|some k=>dl t s k
theorem bV8{J:List Nat}{k:Nat}:top (J++[k])=(k:Int)+1:=by unfold top;rw[List.getLast?_append];simp
theorem bLo{t s:List Int}{J:List Nat}{k:Nat}:cC9 t s (J++[k])=dl t s k:=by unfold cC9;rw[List.getLast?_append];simp
section
variable {v:Int} {t s:List Int}
theorem bSu(h:okA v t s){j:Nat}(hj:j<s.length):∃i:Nat,∃hi:i<t.length,s[j]=(i:Int)/\dl t s j=neg t[i]:=by
 have hb:=h.bnd _ (List.getElem_mem hj)
 refine⟨s[j].toNat,by omega,by omega,?_⟩
 unfold dl
 rw[List.getD_eq_getElem?_getD,List.getD_eq_getElem?_getD,List.getElem?_eq_getElem hj]
 simp only[Option.getD_some]
 rw[List.getElem?_eq_getElem (by omega)];rfl
theorem bSr(h:okA v t s){j:Nat}(hj:j<s.length):isLit v (dl t s j)/\isS t (dl t s j)=0:=by
 obtain⟨i,hi,_,he⟩:=bSu h hj
 have hm:=List.getElem_mem hi
 rw[he]
 exact⟨bLj (h.lits _ hm),(bBz h.dis).2 (by rw[neg_neg];exact hm)⟩
theorem bXr(h:okA v t s){j:Nat}(hj:j<s.length):lvl t s (dl t s j)=(j:Int)+1:=by
 obtain⟨i,hi,hs,he⟩:=bSu h hj
 have hx:idxC (dl t s j) 0 t=(i:Int):=by rw[he,bPe,bRs i hi h.dis];omega
 unfold lvl
 rw[hx]
 have c1:=(bFh (i:=(i:Int)) h.inc j hj).1 (by omega)
 have c2:bGh s (i:Int)<=s.length:=bK9
 by_cases hlt:j+1<s.length
 .have h3:=List.pairwise_iff_getElem.1 h.inc j (j+1) hj hlt (by omega)
  have c3:¬j+1<bGh s (i:Int):=fun q=>by
   have:=(bFh (i:=(i:Int)) h.inc (j+1) hlt).2 q
   omega
  omega
 .omega
theorem bSs(h:okA v t s){j k:Nat}(hj:j<s.length)(hk:k<s.length)(he:dl t s j/2=dl t s k/2):j=k:=by
 obtain⟨i,hi,h1,e1⟩:=bSu h hj
 obtain⟨i',hi',h2,e2⟩:=bSu h hk
 rw[e1,e2,bCh,bCh]at he
 have hii:i=i':=by
  apply Classical.byContradiction
  intro hne
  rcases Nat.lt_or_ge i i' with h3|h3
  .exact List.pairwise_iff_getElem.1 h.dis i i' hi hi' h3 he
  .exact List.pairwise_iff_getElem.1 h.dis i' i hi' hi (by omega) he.symm
 apply Classical.byContradiction
 intro hne
 rcases Nat.lt_or_ge j k with h3|h3
 .have:=List.pairwise_iff_getElem.1 h.inc j k hj hk h3;omega
 .have:=List.pairwise_iff_getElem.1 h.inc k j hk hj (by omega);omega
theorem bZm{f:Int->Int}{c:List Int}{k x y:Int}(hx:x∈c)(hy:y∈c)(hne:x≠y)(h1:k<=f x)(h2:k<=f y):2<=bF6 f c k:=by
 apply Classical.byContradiction
 intro h
 exact hne (bXt (by omega) hx hy h1 h2)
theorem bSt(h:okA v t s){J:List Nat}(hJ:J.Pairwise (· < ·))(hb:∀k∈J,k<s.length){S:List Int}(hS:S.Pairwise (· < ·))(hm:∀y,y∈S↔y∈J.map (dl t s)):
  Fals v t s S/\(J=[]->S=[])/\(J≠[]->S≠[]/\(toC t s S:Int)=top J.dropLast/\givC t s S=cC9 t s J):=by
 have mem:∀{y},y∈S->∃k,k∈J/\y=dl t s k:=fun {y} hy=>by
  obtain⟨k,hk,e⟩:=List.mem_map.1 ((hm y).1 hy)
  exact⟨k,hk,e.symm⟩
 have F:Fals v t s S:=by
  refine⟨h,⟨fun l hl=>?_,?_⟩,fun l hl=>?_⟩
  .obtain⟨k,hk,rfl⟩:=mem hl
   exact(bSr h (hb k hk)).1
  .refine List.Pairwise.imp_of_mem (fun {a b} ha hb' hab=>?_) hS
   obtain⟨j,hj,rfl⟩:=mem ha
   obtain⟨k,hk,rfl⟩:=mem hb'
   apply Classical.byContradiction
   intro hn
   have:dl t s j/2=dl t s k/2:=by omega
   have:=bSs h (hb j hj) (hb k hk) this
   subst this
   omega
  .obtain⟨k,hk,rfl⟩:=mem hl
   exact(bSr h (hb k hk)).2
 refine⟨F,fun e=>?_,fun hne=>?_⟩
 .subst e
  cases S with
  |nil=>rfl
  |cons a r=>have:=(hm a).1 (List.mem_cons_self ..);simp at this
 .rcases List.eq_nil_or_concat J with rfl|⟨J',j,rfl⟩
  .exact absurd rfl hne
  .rw[List.concat_eq_append]at hJ hb hm mem hne ⊢
   rw[List.dropLast_concat,bLo]
   have hj:j<s.length:=hb j (by simp)
   have hxS:dl t s j∈S:=(hm _).2 (List.mem_map.2 ⟨j,by simp,rfl⟩)
   have hfx:=bXr h hj
   rw[List.pairwise_append]at hJ
   have hlow:∀k∈J',k<j:=fun k hk=>hJ.2.2 k hk j (by simp)
   have oth:∀y∈S,y≠dl t s j->∃k∈J',y=dl t s k:=fun y hy hny=>by
    obtain⟨k,hk,rfl⟩:=mem hy
    rcases List.mem_append.1 hk with hk|hk
    .exact⟨k,hk,rfl⟩
    .rw[List.mem_singleton]at hk;subst hk;exact absurd rfl hny
   have htop0:0<=top J'/\top J'<=j/\∀k∈J',(k:Int)+1<=top J':=by
    rcases List.eq_nil_or_concat J' with rfl|⟨J2,k2,rfl⟩
    .exact⟨Int.le_refl _,by simp[top],by simp⟩
    .rw[List.concat_eq_append]at hJ hlow ⊢
     rw[bV8]
     have hJ1:=hJ.1
     rw[List.pairwise_append]at hJ1
     have:=hlow k2 (by simp)
     refine⟨by omega,by omega,fun k hk=>?_⟩
     rcases List.mem_append.1 hk with hk|hk
     .have:=hJ1.2.2 k hk k2 (by simp);omega
     .rw[List.mem_singleton]at hk;omega
   have hto:(toC t s S:Int)=top J':=by
    apply Int.le_antisymm
    .apply Classical.byContradiction
     intro hgt
     rcases F.two with w|w
     .omega
     .obtain⟨y,y1,y2,y3⟩:=cnt_ex F.c.nodup w (dl t s j)
      obtain⟨k,hk,rfl⟩:=oth y y1 y2
      rw[bXr h (hb k (by simp[hk]))]at y3
      have:=htop0.2.2 k hk
      omega
    .rcases List.eq_nil_or_concat J' with rfl|⟨J2,k2,rfl⟩
     .simp[top]
     .rw[List.concat_eq_append]at hJ hlow hb hm ⊢
      rw[bV8]
      have hk2:k2<s.length:=hb k2 (by simp)
      have hyS:dl t s k2∈S:=(hm _).2 (List.mem_map.2 ⟨k2,by simp,rfl⟩)
      have hfy:=bXr h hk2
      have hlt:=hlow k2 (by simp)
      have hxy:dl t s j≠dl t s k2:=fun e=>by
       have:=bSs h hj hk2 (by rw[e])
       omega
      apply Classical.byContradiction
      intro hgt
      have h2:=bZm (f:=lvl t s) (k:=(toC t s S:Int)+1) hxS hyS hxy (by omega) (by omega)
      have:=F.one
      omega
   refine⟨(fun e=>by rw[e]at hxS;cases hxS),hto,?_⟩
   rcases F.spec with⟨_,q⟩|⟨q1,q2,q3⟩
   .have:=q _ hxS
    have:=htop0.2.1
    omega
   .apply Classical.byContradiction
    intro hne2
    have:=q3 _ hxS (fun e=>hne2 e.symm)
    have:=htop0.2.1
    omega
end
end
section
def rm(d:Int):List Int->List Int
 |[]=>[]
 |a::r=>if a=d then r else a::rm d r
theorem bQw(d:Int):∀l,(rm d l).Sublist l
 |[]=>List.Sublist.refl _
 |a::r=>by
  unfold rm
  split
  .exact List.sublist_cons_self ..
  .exact(bQw d r).cons_cons _
theorem bTc{d x:Int}:∀{l:List Int},x∈l->x≠d->x∈rm d l
 |a::r,h,hne=>by
  unfold rm
  rcases List.mem_cons.1 h with rfl|h
  .rw[if_neg hne];exact List.mem_cons_self ..
  .split
   .exact h
   .exact List.mem_cons_of_mem _ (bTc h hne)
theorem bDe.found{s:List Int}{x:Int}(hn:s.length<=1000000):∀(n i:Nat),i+n=s.length->x∈s.drop i ->
  ∃k:Nat,bAg.l0 s x (s.length:Int) (i:Int)=some (k:Int)/\k<s.length/\s.take k++s.drop (k+1)=s.take i++rm x (s.drop i)
 |0,i,hi,hm=>by rw[List.drop_of_length_le (by omega)]at hm;cases hm
 |n+1,i,hi,hm=>by
  have hlt:i<s.length:=by omega
  have hw:IntKind.wrap .i64 ((i:Int)+1)=((i+1:Nat):Int):=by rw[wr]<;>omega
  rw[drop_cons hlt]at hm
  rw[bAg.l0_eq,cd,if_pos (by omega),bB0 hlt,Option.bind_some,ce,hw,drop_cons hlt]
  unfold rm
  by_cases h:x=s[i]
  .rw[if_pos h,if_pos h.symm]
   exact⟨i,rfl,hlt,rfl⟩
  .rw[if_neg h,if_neg (fun e=>h e.symm)]
   obtain⟨k,e1,e2,e3⟩:=bDe.found hn n (i+1) (by omega) (by
    rcases List.mem_cons.1 hm with hm|hm
    .exact absurd hm h
    .exact hm)
   refine⟨k,e1,e2,?_⟩
   rw[e3,List.take_add_one,List.getElem?_eq_getElem hlt,List.append_assoc]
   rfl
def shr(v:Int)(L:List (List Int)):List Int->List Int->List Int
 |[],o=>o
 |d::r,o=>shr v L r (if bDq v L (rm d o) then rm d o else o)
theorem bJ3{v:Int}{L:List (List Int)}:∀(r o:List Int),(shr v L r o).Sublist o
 |[],o=>List.Sublist.refl _
 |d::r,o=>by
  unfold shr
  split
  .exact(bJ3 r _).trans (bQw d o)
  .exact bJ3 r o
theorem bRd{v:Int}{D o:List Int}(h:okA v D [])(ho:o.Sublist D):okA v o [] where
 vars:=h.vars
 lits:=fun l hl=>h.lits l (ho.subset hl)
 dis:=h.dis.sublist ho
 inc:=List.Pairwise.nil
 bnd:=by simp
section
variable {v:Int} {L:List (List Int)} {D:List Int}
theorem bGf{t:List Int}(ht:okA v t [])(hL:okL v L)(hn:L.length<=20000):bCw v L t=some (bDq v L t):=by
 have hv:=ht.vars
 have hs:=ht.short
 have hr:∀c∈L,c.length<=140737488351232/\∀x∈c,in64 x:=fun c hc=>⟨by have:=(hL c hc).len hv;omega,fun x hx=>bKw hv ((hL c hc).1 x hx)⟩
 rw[bCw.eq,bGa (by omega) (by simp) (fun l hl=>bKw hv (ht.lits l hl)) (by omega) hr,Option.bind_some,cCs ht hL hn]
 rfl
theorem bMt(ht:okA v D [])(hL:okL v L)(hn:L.length<=20000):bBs v L D=some 0:=by
 have hv:=ht.vars
 have hs:=ht.short
 have hlc:=bBs.loop hv hL (by omega) L.length 0 (by omega)
 rw[show((0:Nat):Int)=0 from rfl]at hlc
 rw[bBs.eq,cd,if_neg (by omega),cd,if_neg (by omega),bCd (by omega) (by simp) (fun l hl=>bKw hv (ht.lits l hl)),Option.bind_some,if_pos ht,cn,if_pos rfl,cd,if_neg (by omega),hlc]
theorem bAq.loop0(hD:okA v D [])(hL:okL v L)(hn:L.length<=20000):∀(n i:Nat) {o:List Int},i+n=D.length->o.Sublist D->(∀x∈D.drop i,x∈o) ->
  bAq.l0 v L D (D.length:Int) (i:Int) o=bAq.l1 ((shr v L (D.drop i) o).length:Int) 0 [] (shr v L (D.drop i) o)
 |0,i,o,hi,ho,hm=>by
  rw[bAq.l0_eq,cd,if_neg (by omega),List.drop_of_length_le (by omega)]
  rfl
 |n+1,i,o,hi,ho,hm=>by
  have hlt:i<D.length:=by omega
  have hv:=hD.vars
  have hs:=hD.short
  have hol:=ho.length_le
  have hw:IntKind.wrap .i64 ((i:Int)+1)=((i+1:Nat):Int):=by rw[wr]<;>omega
  rw[drop_cons hlt]at hm ⊢
  have hd:D[i]∈o:=hm _ (List.mem_cons_self ..)
  obtain⟨k,e1,e2,e3⟩:=bDe.found (s:=o) (x:=D[i]) (by omega) o.length 0 (by omega) (by rw[List.drop_zero];exact hd)
  rw[show((0:Nat):Int)=0 from rfl]at e1
  rw[List.take_zero,List.drop_zero,List.nil_append]at e3
  have hwk:IntKind.wrap .i64 ((k:Int)+1)=((k+1:Nat):Int):=by rw[wr]<;>omega
  have hcut:cutl o (k:Int) ((k+1:Nat):Int)=some (rm D[i] o):=by
   unfold cutl LIM
   rw[if_pos ⟨by omega,by omega,by omega,by omega⟩,Int.toNat_natCast,Int.toNat_natCast,e3]
  have hsub:(rm D[i] o).Sublist D:=(bQw _ o).trans ho
  have hnd:=hD.nodup
  rw[<-List.take_append_drop i D,List.nodup_append,drop_cons hlt,List.nodup_cons]at hnd
  rw[bAq.l0_eq,cd,if_pos (by omega),bB0 hlt,Option.bind_some,bAg.eq,e1,Option.bind_some,bD4 (by omega),Option.bind_some,hwk,hcut,Option.bind_some,bGf (bRd hD hsub) hL hn,Option.bind_some,hw]
  unfold shr
  cases hcf:bDq v L (rm D[i] o) with
  |true=>
   rw[ct]
   exact bAq.loop0 hD hL hn n (i+1) (by omega) hsub (fun x hx=>bTc (hm x (List.mem_cons_of_mem _ hx)) (fun e=>hnd.2.1.1 (e▸hx)))
  |false=>
   rw[cf]
   exact bAq.loop0 hD hL hn n (i+1) (by omega) ho (fun x hx=>hm x (List.mem_cons_of_mem _ hx))
theorem bAq.loop1{o:List Int}(hl:∀x∈o,0<=x/\x<=100000)(hn:o.length<=1000000):∀(n i:Nat) {out:List Int},i+n=o.length->out.length<=i ->
  bAq.l1 (o.length:Int) (i:Int) out o=some (bJf (out++(o.drop i).map neg),0)
 |0,i,out,hi,ho=>by
  rw[bAq.l1_eq,cd,if_neg (by omega),List.drop_of_length_le (by omega),List.map_nil,List.append_nil]
  unfold lim LIM
  rw[if_pos (by omega),Option.bind_some]
 |n+1,i,out,hi,ho=>by
  have hlt:i<o.length:=by omega
  have hx:=hl _ (List.getElem_mem hlt)
  have hw:IntKind.wrap .i64 ((i:Int)+1)=((i+1:Nat):Int):=by rw[wr]<;>omega
  rw[bAq.l1_eq,cd,if_pos (by omega),bB0 hlt,Option.bind_some,Int.toNat_natCast,List.getElem?_eq_getElem hlt,Option.bind_some,bD0 hx.1 (by omega),bB1 (by simp;omega),Option.bind_some,hw,bAq.loop1 hl hn n (i+1) (by omega) (by simp;omega),drop_cons hlt,
   List.map_cons,List.append_assoc]
  rfl
def lrnC(v:Int)(L:List (List Int))(D:List Int):List Int:=bJf ((shr v L D D).map neg)
theorem bC7(hD:okA v D [])(hL:okL v L)(hn:L.length<=20000)(hc:bDq v L D=true):bAq v L D=some (lrnC v L D,0):=by
 have hv:=hD.vars
 have hs:=hD.short
 have hsub:=bJ3 (v:=v) (L:=L) D D
 have g:=bAq.loop0 hD hL hn D.length 0 (o:=D) (by omega) (List.Sublist.refl _) (fun x hx=>by rwa [List.drop_zero]at hx)
 rw[show((0:Nat):Int)=0 from rfl,List.drop_zero]at g
 have g1:=bAq.loop1 (o:=shr v L D D) (fun x hx=>by have:=hD.lits x (hsub.subset hx);omega) (by have:=hsub.length_le;omega) (shr v L D D).length 0 (out:=[]) (by omega) (Nat.le_refl _)
 rw[show((0:Nat):Int)=0 from rfl,List.drop_zero,List.nil_append]at g1
 rw[bAq.eq,bMt hD hL hn,Option.bind_some,cn,if_pos rfl,bGf hD hL hn,Option.bind_some,hc,cnot,ct,bD4 (by omega),Option.bind_some,g,g1]
 rfl
end
end
section
def dc(t s:List Int)(j:Nat):Int:=t.getD (s.getD j 0).toNat 0
def decs(t s:List Int):List Int:=(List.range s.length).map (dc t s)
section
variable {v:Int} {t s:List Int} {L:List (List Int)}
theorem bZ8(h:okA v t s){j:Nat}(hj:j<s.length):∃i:Nat,∃hi:i<t.length,s[j]=(i:Int)/\dc t s j=t[i]:=by
 have hb:=h.bnd _ (List.getElem_mem hj)
 refine⟨s[j].toNat,by omega,by omega,?_⟩
 unfold dc
 rw[List.getD_eq_getElem?_getD,List.getD_eq_getElem?_getD,List.getElem?_eq_getElem hj]
 simp only[Option.getD_some]
 rw[List.getElem?_eq_getElem (by omega)];rfl
theorem cBi{j:Nat}:neg (dc t s j)=dl t s j:=rfl
theorem bGj(h:okA v t s):okA v (decs t s) [] where
 vars:=h.vars
 lits:=fun l hl=>by
  obtain⟨j,hj,rfl⟩:=List.mem_map.1 hl
  obtain⟨i,hi,_,e⟩:=bZ8 h (List.mem_range.1 hj)
  rw[e]
  exact h.lits _ (List.getElem_mem hi)
 dis:=by
  unfold decs
  rw[List.pairwise_map]
  refine List.Pairwise.imp_of_mem (fun {j k} hj hk hlt he=>?_) List.pairwise_lt_range
  have:=bSs h (List.mem_range.1 hj) (List.mem_range.1 hk) (by rw[<-cBi,<-cBi,bCh,bCh];exact he)
  omega
 inc:=List.Pairwise.nil
 bnd:=by simp
theorem bSk(h:okA v t s):∃J:List Nat,J.Pairwise (· < ·)/\(∀k∈J,k<s.length)/\(lrnC v L (decs t s)).Pairwise (· < ·)/\(lrnC v L (decs t s)).length<=s.length/\∀y,y∈lrnC v L (decs t s)↔y∈J.map (dl t s):=by
 have hsub:=bJ3 (v:=v) (L:=L) (decs t s) (decs t s)
 unfold decs at hsub
 obtain⟨J,hJ,hJe⟩:=List.sublist_map_iff.1 hsub
 have hlt:∀k∈J,k<s.length:=fun k hk=>List.mem_range.1 (hJ.subset hk)
 have hp:J.Pairwise (· < ·):=List.pairwise_lt_range.sublist hJ
 have hmap:(shr v L (decs t s) (decs t s)).map neg=J.map (dl t s):=by
  show(shr v L ((List.range s.length).map (dc t s)) ((List.range s.length).map (dc t s))).map neg=_
  rw[hJe,List.map_map];rfl
 have hnd:(J.map (dl t s)).Nodup:=by
  rw[List.Nodup,List.pairwise_map]
  refine List.Pairwise.imp_of_mem (fun {j k} hj hk hl he=>?_) hp
  have:=bSs h (hlt j hj) (hlt k hk) (by rw[he])
  omega
 obtain⟨p1,p2⟩:=bDv (J.map (dl t s))
 have hC:lrnC v L (decs t s)=bJf (J.map (dl t s)):=by unfold lrnC;rw[hmap]
 refine⟨J,hp,hlt,?_,?_,fun y=>by rw[hC,p1.mem_iff]⟩
 .rw[hC]
  have hn:=p1.nodup_iff.2 hnd
  rw[List.Nodup]at hn
  exact(p2.and hn).imp fun h=>by have:=h.1;have:=h.2;omega
 .rw[hC,p1.length_eq,List.length_map]
  have:=hJ.length_le
  rwa [List.length_range]at this
theorem cAi{n:Nat}(hn:n<=4000):okH (allL n):=by
 refine⟨by rw[bHn];omega,fun x hx=>by have:=bFi.1 hx;omega,?_,fun i hi h0=>?_⟩
 .unfold allL
  rw[List.Nodup,List.pairwise_map]
  exact List.pairwise_lt_range.imp fun hab e=>by omega
 .rw[bHn]at hi
  rw[bX0 hi,bX0 (by omega)];omega
theorem bK6{x:Int}(hx:x<=v):free v t x↔isS t (2*x)=2:=by
 rw[bDm]
 constructor
 .intro h a ha he
  exact h.2 a ha (by omega)
 .intro h
  exact⟨hx,fun a ha he=>h a ha (by omega)⟩
end
end
section
def Clo(L:List (List Int))(Y:List Int):Prop:=∀c∈L,(stC Y c).1≠0/\(stC Y c).1≠3
def LedK(v:Int)(L:List (List Int))(t s:List Int):Prop:=
 ∀k,k<=s.length->∀Y,okA v Y []->Clo L Y->(∀j,j<k->dc t s j∈Y)->∀l∈t.take (keep t s k),l∈Y
def Dec(v:Int)(t s:List Int):Prop:=
 ∀j,j<s.length->∃x,dc t s j=2*x+1/\1<=x/\x<=v/\∀y,1<=y->y<x->isS (t.take (keep t s j)) (2*y)≠2
theorem bDy{t s:List Int}{k:Nat}(h:k<s.length):keep t s k=s[k].toNat:=by unfold keep;rw[List.getElem?_eq_getElem h]
theorem bFg{t s:List Int}:keep t s s.length=t.length:=by unfold keep;rw[List.getElem?_eq_none (Nat.le_refl _)]
section
variable {v:Int} {L:List (List Int)} {t s:List Int}
theorem bDa(h:okA v t s){k:Nat}(hk:k<s.length):keep t s k<t.length:=by
 rw[bDy hk]
 have:=h.bnd _ (List.getElem_mem hk)
 omega
theorem bFy(h:okA v t s){j k:Nat}(hj:j<k)(hk:k<s.length):keep t s j<keep t s k:=by
 rw[bDy hk,bDy (by omega)]
 have h1:=(List.pairwise_iff_getElem.1 h.inc) j k (by omega) hk hj
 have h2:=h.bnd _ (List.getElem_mem (show j<s.length by omega))
 omega
theorem bLv{j:Nat}(hj:j<s.length):dc t s j=t.getD (keep t s j) 0:=by
 unfold dc
 rw[bDy hj,List.getD_eq_getElem?_getD (l:=s),List.getElem?_eq_getElem hj];rfl
theorem bDg{t' s':List Int}{k:Nat}(hk:k<s.length)(hk':k<s'.length)(he:s'[k]=s[k]):keep t' s' k=keep t s k:=by
 rw[bDy hk,bDy hk',he]
theorem bF5(h:okA v t s){t' s':List Int}{k:Nat}(hk:k<s.length)(hk':k<s'.length)(he:s'[k]=s[k]){m:Nat}(ht:t'.take m=t.take m)(hm:keep t s k<m):dc t' s' k=dc t s k:=by
 rw[bLv hk,bLv hk',bDg hk hk' he,List.getD_eq_getElem?_getD,List.getD_eq_getElem?_getD]
 have h1:(t'.take m)[keep t s k]?=(t.take m)[keep t s k]?:=by rw[ht]
 rw[List.getElem?_take,List.getElem?_take,if_pos hm,if_pos hm]at h1
 rw[h1]
theorem bGo{t t':List Int}{m n:Nat}(h:t'.take m=t.take m)(hn:n<=m):t'.take n=t.take n:=by
 have:=congrArg (List.take n) h
 rwa [List.take_take,List.take_take,Nat.min_eq_left hn]at this
theorem LedK.empty(hv:okV v):LedK v L [] []:=fun k hk Y _ _ _ l hl=>by simp at hl
theorem Dec.empty:Dec v [] []:=fun j hj=>by simp at hj
theorem LedK.prop(hL:okL v L)(h:okA v t s)(hl:LedK v L t s){n:Nat}:LedK v L (bAf L n t).1 s:=by
 obtain⟨hA,u,hu⟩:=bCu hL n h
 intro k hk Y hY hc hd l hl'
 rcases Nat.lt_or_ge k s.length with hlt|hge
 .have ht:(bAf L n t).1.take t.length=t.take t.length:=by rw[hu];simp
  have hkb:=bDa h hlt
  have e:=bDg (t:=t) (t':=(bAf L n t).1) hlt hlt rfl
  rw[e,bGo ht (by omega)]at hl'
  refine hl k hk Y hY hc (fun j hj=>?_) l hl'
  rw[<-bF5 h (t':=(bAf L n t).1) (show j<s.length by omega) (by omega) rfl ht (bDa h (by omega))]
  exact hd j hj
 .have hk':k=s.length:=by omega
  subst hk'
  rw[bFg,List.take_length]at hl'
  refine(bJo hL hY hc n h fun l hl2=>?_).2 l hl'
  have ht:(bAf L n t).1.take t.length=t.take t.length:=by rw[hu];simp
  refine hl s.length (Nat.le_refl _) Y hY hc (fun j hj=>?_) l (by rw[bFg,List.take_length];exact hl2)
  rw[<-bF5 h (t':=(bAf L n t).1) hj hj rfl ht (bDa h hj)]
  exact hd j hj
theorem Dec.prop(hL:okL v L)(h:okA v t s)(hd:Dec v t s){n:Nat}:Dec v (bAf L n t).1 s:=by
 obtain⟨hA,u,hu⟩:=bCu hL n h
 intro j hj
 have ht:(bAf L n t).1.take t.length=t.take t.length:=by rw[hu];simp
 have hkb:=bDa h hj
 obtain⟨x,h1,h2,h3,h4⟩:=hd j hj
 refine⟨x,by rw[bF5 h hj hj rfl ht hkb];exact h1,h2,h3,?_⟩
 rw[bDg (t:=t) hj hj rfl,bGo ht (by omega)]
 exact h4
theorem LedK.dec(h:okA v t s)(hl:LedK v L t s)(x:Int):LedK v L (t++[x]) (s++[(t.length:Int)]):=by
 intro k hk Y hY hc hd l hl'
 have ht:(t++[x]).take t.length=t.take t.length:=by simp
 have hs:∀j (hj:j<s.length),(s++[(t.length:Int)])[j]'(by simp;omega)=s[j]:=fun j hj=>List.getElem_append_left hj
 have hdc:∀j,j<s.length->dc (t++[x]) (s++[(t.length:Int)]) j=dc t s j:=fun j hj=>bF5 h hj (by simp;omega) (hs j hj) ht (bDa h hj)
 rw[List.length_append,List.length_singleton]at hk
 have hlast:keep (t++[x]) (s++[(t.length:Int)]) s.length=t.length:=by rw[bDy (by simp)];simp
 rcases Nat.lt_or_ge k s.length with hlt|hge
 .have hkb:=bDa h hlt
  rw[bDg (t:=t) hlt (by simp;omega) (hs k hlt),bGo ht (by omega)]at hl'
  exact hl k (by omega) Y hY hc (fun j hj=>by rw[<-hdc j (by omega)];exact hd j hj) l hl'
 .have old:s.length<=k->∀l∈t,l∈Y:=fun hk2 l hl2=>hl s.length (Nat.le_refl _) Y hY hc (fun j hj=>by rw[<-hdc j hj];exact hd j (by omega)) l (by rw[bFg,List.take_length];exact hl2)
  by_cases hk':k=s.length
  .subst hk'
   rw[hlast,ht,List.take_length]at hl'
   exact old (Nat.le_refl _) l hl'
  .have hk2:k=(s++[(t.length:Int)]).length:=by simp;omega
   rw[hk2,bFg,List.take_length]at hl'
   rcases List.mem_append.1 hl' with hl'|hl'
   .exact old hge l hl'
   .rw[List.mem_singleton]at hl'
    subst hl'
    have:=hd s.length (by omega)
    rw[bLv (by simp),hlast]at this
    simpa using this
theorem Dec.dec(h:okA v t s)(hd:Dec v t s){x:Int}(h1:1<=x)(h2:x<=v)(h3:∀y,1<=y->y<x->isS t (2*y)≠2):Dec v (t++[2*x+1]) (s++[(t.length:Int)]):=by
 intro j hj
 have ht:(t++[2*x+1]).take t.length=t.take t.length:=by simp
 rw[List.length_append,List.length_singleton]at hj
 have hlast:keep (t++[2*x+1]) (s++[(t.length:Int)]) s.length=t.length:=by rw[bDy (by simp)];simp
 rcases Nat.lt_or_ge j s.length with hlt|hge
 .have hs:(s++[(t.length:Int)])[j]'(by simp;omega)=s[j]:=List.getElem_append_left hlt
  have hkb:=bDa h hlt
  obtain⟨y,g1,g2,g3,g4⟩:=hd j hlt
  refine⟨y,by rw[bF5 h hlt (by simp;omega) hs ht hkb];exact g1,g2,g3,?_⟩
  rw[bDg (t:=t) hlt (by simp;omega) hs,bGo ht (by omega)]
  exact g4
 .have:j=s.length:=by omega
  subst this
  refine⟨x,?_,h1,h2,?_⟩
  .rw[bLv (by simp),hlast];simp
  .rw[hlast,ht,List.take_length];exact h3
theorem LedK.back(h:okA v t s)(hl:LedK v L t s){T:Nat}(hT:T<s.length){c:List Int}(hc:okC v c){g:Int}(hg:stC (t.take (keep t s T)) c=(3,g)):LedK v (L++[c]) (t.take (keep t s T)++[g]) (s.take T):=by
 intro k hk Y hY hcl hd l hl'
 have hkb:=bDa h hT
 have htl:(t.take (keep t s T)).length=keep t s T:=by rw[List.length_take];omega
 have ht:(t.take (keep t s T)++[g]).take (keep t s T)=t.take (keep t s T):=by
  rw[List.take_append_of_le_length (by omega),List.take_take,Nat.min_self]
 have hsl:(s.take T).length=T:=by rw[List.length_take];omega
 rw[hsl]at hk
 have hs:∀j (hj:j<T),(s.take T)[j]'(by omega)=s[j]'(by omega):=fun j hj=>by rw[List.getElem_take]
 have hdc:∀j,j<T->dc (t.take (keep t s T)++[g]) (s.take T) j=dc t s j:=fun j hj=>bF5 h (by omega) (by omega) (hs j hj) ht (bFy h hj hT)
 have old:∀k,k<=T->(∀j,j<k->dc (t.take (keep t s T)++[g]) (s.take T) j∈Y)->∀l∈t.take (keep t s k),l∈Y:=fun k hk hd l hl2=>
  hl k (by omega) Y hY (fun d hd=>hcl d (List.mem_append_left _ hd)) (fun j hj=>by rw[<-hdc j (by omega)];exact hd j hj) l hl2
 rcases Nat.lt_or_ge k T with hlt|hge
 .rw[bDg (t:=t) (show k<s.length by omega) (by omega) (hs k hlt),bGo ht (by have:=bFy h hlt hT;omega)]at hl'
  exact old k hk hd l hl'
 .have hk':k=(s.take T).length:=by omega
  rw[hk',bFg,List.take_length]at hl'
  have pre:=old T (Nat.le_refl _) (fun j hj=>hd j (by omega))
  rcases List.mem_append.1 hl' with hl'|hl'
  .exact pre l hl'
  .rw[List.mem_singleton]at hl'
   subst hl'
   have hu:=h.undone (k:=T) (by omega)
   have h3:(stC (t.take (keep t s T)) c).1=3:=by rw[hg]
   obtain⟨q1,q2,q3⟩:=bLe h3
   rw[hg]at q1 q2 q3
   obtain⟨n0,n3⟩:=hcl c (List.mem_append_right _ (List.mem_singleton.2 rfl))
   have hz:∀x∈c,x≠l->isS Y x=0:=fun x hx hne=>(bRq hu hY pre).1 (q3 x hx hne)
   rcases bCk Y l with h0|h0|h0
   .exfalso
    refine n0 (bFx.2 fun x hx=>?_)
    by_cases hxl:x=l
    .rw[hxl];exact h0
    .exact hz x hx hxl
   .exact(bB6 hY.dis).1 h0
   .exfalso
    exact n3 (by rw[bG9 hc q1 h0 hz])
theorem Dec.back(h:okA v t s)(hd:Dec v t s){T:Nat}(hT:T<s.length)(g:Int):Dec v (t.take (keep t s T)++[g]) (s.take T):=by
 intro j hj
 have hkb:=bDa h hT
 have ht:(t.take (keep t s T)++[g]).take (keep t s T)=t.take (keep t s T):=by
  rw[List.take_append_of_le_length (by rw[List.length_take];omega),List.take_take,Nat.min_self]
 have hsl:(s.take T).length=T:=by rw[List.length_take];omega
 rw[hsl]at hj
 have hs:(s.take T)[j]'(by omega)=s[j]'(by omega):=by rw[List.getElem_take]
 obtain⟨x,h1,h2,h3,h4⟩:=hd j (by omega)
 refine⟨x,by rw[bF5 h (by omega) (by omega) hs ht (bFy h hj hT)];exact h1,h2,h3,?_⟩
 rw[bDg (t:=t) (show j<s.length by omega) (by omega) hs,bGo ht (by have:=bFy h hj hT;omega)]
 exact h4
end
def mes(V:Nat)(s:List Int):Nat->Nat
 |0=>0
 |n+1=>mes V s n+if(n:Int)∈s then 0 else 2^(V-1-n)
theorem bN7{V:Nat}{s:List Int}{n:Nat}:∀{m:Nat},n<=m->mes V s n<=mes V s m
 |0,h=>by rw[Nat.le_zero.1 h];exact Nat.le_refl _
 |m+1,h=>by
  rcases Nat.lt_or_ge n (m+1) with h1|h1
  .have:=bN7 (V:=V) (s:=s) (n:=n) (m:=m) (by omega)
   simp only[mes];omega
  .have:n=m+1:=by omega
   rw[this];exact Nat.le_refl _
theorem bLk{V:Nat}{s s':List Int}:∀{n:Nat},(∀i:Nat,i<n->((i:Int)∈s↔(i:Int)∈s'))->mes V s n=mes V s' n
 |0,_=>rfl
 |n+1,h=>by
  simp only[mes]
  rw[bLk fun i hi=>h i (by omega)]
  by_cases h1:(n:Int)∈s
  .rw[if_pos h1,if_pos ((h n (by omega)).1 h1)]
  .rw[if_neg h1,if_neg (fun h2=>h1 ((h n (by omega)).2 h2))]
theorem bRj{V:Nat}{s:List Int}{n:Nat}:∀{m:Nat},n<=m->m<=V->mes V s m+2^(V-m)<=mes V s n+2^(V-n)
 |0,h,_=>by rw[Nat.le_zero.1 h];exact Nat.le_refl _
 |m+1,h,hm=>by
  rcases Nat.lt_or_ge n (m+1) with h1|h1
  .have ih:=bRj (V:=V) (s:=s) (n:=n) (m:=m) (by omega) (by omega)
   have e:2^(V-m)=2^(V-(m+1))+2^(V-(m+1)):=by
    rw[show V-m=V-(m+1)+1 from by omega,Nat.pow_succ];omega
   have e2:V-1-m=V-(m+1):=by omega
   simp only[mes]
   rw[e2]
   generalize 2^(V-(m+1))=g at *
   split<;>omega
  .have:n=m+1:=by omega
   rw[this];exact Nat.le_refl _
section
variable {v:Int} {t s:List Int}
theorem bK4(h:okA v t s){T:Nat}(hT:T<s.length)(g:Int):mes v.toNat s t.length+1<=mes v.toNat (s.take T) (t.take (keep t s T)++[g]).length:=by
 have hsh:=h.short
 have hkb:=bDa h hT
 have hv:=h.vars
 have hl:(t.take (keep t s T)++[g]).length=keep t s T+1:=by rw[List.length_append,List.length_take,List.length_singleton];omega
 have hlow:∀x∈s.take T,x<(keep t s T:Int):=fun x hx=>by
  obtain⟨j,hj,rfl⟩:=List.mem_iff_getElem.1 hx
  rw[List.length_take]at hj
  rw[List.getElem_take]
  have:=bFy h (j:=j) (k:=T) (by omega) hT
  rw[bDy (show j<s.length by omega)]at this
  have hb:=h.bnd _ (List.getElem_mem (show j<s.length by omega))
  omega
 have hmem:((keep t s T:Nat):Int)∈s:=by
  rw[bDy hT]
  have hb:=h.bnd _ (List.getElem_mem hT)
  rw[Int.toNat_of_nonneg hb.1]
  exact List.getElem_mem hT
 have hnot:((keep t s T:Nat):Int)∉s.take T:=fun hx=>by have:=hlow _ hx;omega
 have hcong:mes v.toNat s (keep t s T)=mes v.toNat (s.take T) (keep t s T):=bLk fun i hi=>by
  constructor
  .intro hx
   obtain⟨j,hj,e⟩:=List.mem_iff_getElem.1 hx
   have hjT:j<T:=by
    apply Classical.byContradiction
    intro hn
    have hb:=h.bnd _ (List.getElem_mem hj)
    rcases Nat.lt_or_ge T j with h1|h1
    .have:=bFy h h1 hj
     rw[bDy hj,e]at this
     omega
    .have:j=T:=by omega
     subst this
     rw[bDy hj,e]at hi
     omega
   exact List.mem_iff_getElem.2 ⟨j,by rw[List.length_take];omega,by rw[List.getElem_take];exact e⟩
  .exact fun hx=>List.mem_of_mem_take hx
 rw[hl]
 have hb:=bRj (V:=v.toNat) (s:=s) (n:=keep t s T+1) (m:=t.length) (by omega) (by omega)
 have hp:0<2^(v.toNat-t.length):=Nat.pow_pos (by omega)
 have e2:v.toNat-1-keep t s T=v.toNat-(keep t s T+1):=by omega
 simp only[mes]at hb ⊢
 rw[if_pos hmem]at hb
 rw[if_neg hnot,e2]
 omega
theorem bW3(h:okA v t s)(x:Int):mes v.toNat s t.length<=mes v.toNat (s++[(t.length:Int)]) (t++[x]).length:=by
 rw[List.length_append,List.length_singleton]
 simp only[mes]
 rw[bLk (s:=s) (s':=s++[(t.length:Int)]) fun i hi=>⟨fun hx=>List.mem_append_left _ hx,fun hx=>by
  rcases List.mem_append.1 hx with h1|h1
  .exact h1
  .rw[List.mem_singleton]at h1;omega⟩]
 omega
theorem bHa(h:okA v t s):mes v.toNat s t.length+1<=2^v.toNat:=by
 have hsh:=h.short
 have hv:=h.vars
 have hb:=bRj (V:=v.toNat) (s:=s) (n:=0) (m:=t.length) (by omega) (by omega)
 have hp:0<2^(v.toNat-t.length):=Nat.pow_pos (by omega)
 simp only[mes,Nat.sub_zero]at hb
 omega
end
end
section
def lf(v:Int)(t:List Int):Int:=((allL v.toNat).find? fun x=>decide (isS t (2*x)=2)).getD 0
theorem bGy{v:Int}(hv:0<=v)(t:List Int):(lf v t=0/\∀x,1<=x->x<=v->isS t (2*x)≠2) \/
  (1<=lf v t/\lf v t<=v/\isS t (2*lf v t)=2/\∀y,1<=y->y<lf v t->isS t (2*y)≠2):=by
 unfold lf
 cases hf:(allL v.toNat).find? fun x=>decide (isS t (2*x)=2) with
 |none=>
  refine .inl ⟨rfl,fun x h1 h2 h3=>?_⟩
  have:=List.find?_eq_none.1 hf x (bFi.2 (by omega))
  simp[h3]at this
 |some b=>
  obtain⟨h1,i,hi,h2,h3⟩:=List.find?_eq_some_iff_getElem.1 hf
  have hb:b∈allL v.toNat:=h2▸List.getElem_mem hi
  have hb':=bFi.1 hb
  refine .inr ⟨hb'.1,by show b<=v;omega,by simpa using h1,fun y y1 y2 y3=>?_⟩
  have e:∀j (hj:j<(allL v.toNat).length),(allL v.toNat)[j]=(j:Int)+1:=fun j hj=>by simp[allL]
  rw[e]at h2
  have y2':y<b:=y2
  rw[bHn]at hi
  have:=h3 (y.toNat-1) (by omega)
  rw[e,show((y.toNat-1:Nat):Int)+1=y from by omega]at this
  simp[y3]at this
def sol(v:Int):Nat->List (List Int)->List Int->List Int->List (List Int)->Bool×List Int×List (List Int)×Nat
 |0,_,_,_,log=>(false,[],log,log.length)
 |n+1,L,t,s,log=>
  if 0<=(bAf L (v+1).toNat t).2 then
   if lrnC v L (decs (bAf L (v+1).toNat t).1 s)=[] then(false,[],log++[[]],log.length)
   else sol v n (L++[lrnC v L (decs (bAf L (v+1).toNat t).1 s)]) (bFn v (bAf L (v+1).toNat t).1 s (lrnC v L (decs (bAf L (v+1).toNat t).1 s))).1.2.1
    (bFn v (bAf L (v+1).toNat t).1 s (lrnC v L (decs (bAf L (v+1).toNat t).1 s))).1.2.2 (log++[lrnC v L (decs (bAf L (v+1).toNat t).1 s)])
  else if lf v (bAf L (v+1).toNat t).1=0 then(true,(bAf L (v+1).toNat t).1,log,log.length)
  else sol v n L ((bAf L (v+1).toNat t).1++[2*lf v (bAf L (v+1).toNat t).1+1]) (s++[((bAf L (v+1).toNat t).1.length:Int)]) log
theorem bL9{v:Int}:∀(n:Nat) (L:List (List Int)) (t s:List Int) (log:List (List Int)),log.length<=(sol v n L t s log).2.2.2
 |0,L,t,s,log=>Nat.le_refl _
 |n+1,L,t,s,log=>by
  unfold sol
  split
  .split
   .exact Nat.le_refl _
   .refine Nat.le_trans ?_ (bL9 n _ _ _ _)
    simp
  .split
   .exact Nat.le_refl _
   .exact bL9 n _ _ _ _
theorem bTt{v:Int}{L:List (List Int)}(hL:okL v L){a b:List Int}(ha:okA v a [])(hb:okA v b [])(h:∀x,x∈a↔x∈b):bDq v L a=bDq v L b:=by
 have one:∀{a b:List Int},okA v a []->okA v b []->(∀x∈b,x∈a)->bDq v L a=false->bDq v L b=false:=by
  intro a b ha hb h hc
  unfold bDq at hc ⊢
  rw[decide_eq_false_iff_not]at hc ⊢
  obtain⟨hY,u,hu⟩:=bCu hL (v+1).toNat ha
  have:=(bJo hL hY (bDx hL ha (by omega)) (v+1).toNat hb fun l hl=>by rw[hu];exact List.mem_append_left _ (h l hl)).1
  omega
 cases h1:bDq v L a with
 |false=>exact(one ha hb (fun x hx=>(h x).2 hx) h1).symm
 |true=>
  cases h2:bDq v L b with
  |true=>rfl
  |false=>rw[one hb ha (fun x hx=>(h x).1 hx) h2]at h1;cases h1
theorem bN2{v:Int}{L:List (List Int)}:∀(r o:List Int),bDq v L o=true->bDq v L (shr v L r o)=true
 |[],o,h=>h
 |d::r,o,h=>by
  unfold shr
  split
  .rename_i h1;exact bN2 r _ h1
  .exact bN2 r _ h
theorem bN8{v:Int}{L:List (List Int)}(hL:okL v L){D:List Int}(hD:okA v D [])(hc:bDq v L D=true)(hC:okC v (lrnC v L D)):bMy v L (lrnC v L D)=true:=by
 have h1:=bN2 D D hc
 have hs:=bJ3 (v:=v) (L:=L) D D
 unfold bMy
 rw[<-h1]
 refine bTt hL (bWx hD.vars hC) (bRd hD hs) fun x=>?_
 obtain⟨p1,_⟩:=bDv ((shr v L D D).map neg)
 rw[List.mem_map]
 constructor
 .rintro⟨y,hy,rfl⟩
  unfold lrnC at hy
  rw[p1.mem_iff,List.mem_map]at hy
  obtain⟨z,hz,rfl⟩:=hy
  rw[neg_neg];exact hz
 .intro hx
  exact⟨neg x,by unfold lrnC;rw[p1.mem_iff];exact List.mem_map_of_mem hx,neg_neg⟩
def bL5(v:Int)(L0 log:List (List Int)):Prop:=∀i (hi:i<log.length),bMy v (L0++log.take i) log[i]=true
structure Inv(v:Int)(L0:List (List Int))(t s:List Int)(log:List (List Int)):Prop where
 ok:okL v (L0++log)
 a:okA v t s
 led:LedK v (L0++log) t s
 dec:Dec v t s
 chain:bL5 v L0 log
 full:∀c∈log,c≠[]
 mes:log.length<=mes v.toNat s t.length
def meas(v:Int)(t s:List Int):Nat:=(2^v.toNat-mes v.toNat s t.length)*(v.toNat+1)+(v.toNat-s.length)
theorem bL5.snoc{v:Int}{L0 log:List (List Int)}(h:bL5 v L0 log){c:List Int}(hc:bMy v (L0++log) c=true):bL5 v L0 (log++[c]):=by
 intro i hi
 rw[List.length_append,List.length_singleton]at hi
 rcases Nat.lt_or_ge i log.length with hlt|hge
 .rw[List.take_append_of_le_length (by omega),List.getElem_append_left hlt]
  exact h i hlt
 .have:i=log.length:=by omega
  subst this
  simpa using hc
section
variable {v:Int} {L0:List (List Int)} {t s:List Int} {log:List (List Int)}
theorem Inv.prop(h:Inv v L0 t s log):Inv v L0 (bAf (L0++log) (v+1).toNat t).1 s log/\meas v (bAf (L0++log) (v+1).toNat t).1 s<=meas v t s:=by
 obtain⟨hA,u,hu⟩:=bCu h.ok (v+1).toNat h.a
 have hle:YtfjpfjnepdhnaaaGreat.mes v.toNat s t.length<=YtfjpfjnepdhnaaaGreat.mes v.toNat s (bAf (L0++log) (v+1).toNat t).1.length:=bN7 (by rw[hu];simp)
 refine⟨⟨h.ok,hA,h.led.prop h.ok h.a,h.dec.prop h.ok h.a,h.chain,h.full,Nat.le_trans h.mes hle⟩,?_⟩
 unfold meas
 refine Nat.add_le_add_right (Nat.mul_le_mul_right _ ?_) _
 omega
theorem Inv.led_all(h:Inv v L0 t s log){Y:List Int}(hY:okA v Y [])(hc:Clo (L0++log) Y)(hd:∀d∈decs t s,d∈Y):∀l∈t,l∈Y:=fun l hl=>
 h.led s.length (Nat.le_refl _) Y hY hc (fun j hj=>hd _ (List.mem_map.2 ⟨j,List.mem_range.2 hj,rfl⟩)) l (by rw[bFg,List.take_length];exact hl)
theorem Inv.conf(h:Inv v L0 t s log)(hat:0<=(bAf (L0++log) (v+1).toNat t).2):bDq v (L0++log) (decs (bAf (L0++log) (v+1).toNat t).1 s)=true:=by
 obtain⟨hP,_⟩:=h.prop
 have hD:=bGj hP.a
 cases hcf:bDq v (L0++log) (decs (bAf (L0++log) (v+1).toNat t).1 s) with
 |true=>rfl
 |false=>
  exfalso
  unfold bDq at hcf
  rw[decide_eq_false_iff_not]at hcf
  obtain⟨hY,u,hu⟩:=bCu h.ok (v+1).toNat hD
  have hcl:=bDx h.ok hD (by omega)
  have hall:=hP.led_all hY hcl fun d hd=>by rw[hu];exact List.mem_append_left _ hd
  obtain⟨_,u2,hu2⟩:=bCu h.ok (v+1).toNat h.a
  have:=(bJo h.ok hY hcl (v+1).toNat h.a fun l hl=>hall l (by rw[hu2];exact List.mem_append_left _ hl)).1
  omega
theorem Inv.fail(h:Inv v L0 t s log)(hat:0<=(bAf (L0++log) (v+1).toNat t).2){c:List Int}(hc:c=lrnC v (L0++log) (decs (bAf (L0++log) (v+1).toNat t).1 s)):
  okC v c/\bMy v (L0++log) c=true/\(c≠[]->∃t' s',bFn v (bAf (L0++log) (v+1).toNat t).1 s c=((v,(t',s')),0)/\Inv v L0 t' s' (log++[c])/\meas v t' s'<meas v t s):=by
 obtain⟨hP,hmp⟩:=h.prop
 have hcf:=h.conf hat
 generalize (bAf (L0++log) (v+1).toNat t).1=p at *
 have hD:=bGj hP.a
 obtain⟨J,j1,j2,hS,hlen,hm⟩:=bSk (L:=L0++log) hP.a
 obtain⟨F,d1,d2⟩:=bSt hP.a j1 j2 hS hm
 rw[<-hc]at F d1 d2
 have hfrom:bMy v (L0++log) c=true:=by rw[hc];exact bN8 h.ok hD hcf (hc▸F.c)
 refine⟨F.c,hfrom,fun hne=>?_⟩
 have hJ:J≠[]:=fun e=>hne (d1 e)
 obtain⟨q1,q2,q3⟩:=d2 hJ
 have h0:givC p s c≠0:=fun e=>by
  obtain⟨J',j,rfl⟩:∃J' j,J=J'++[j]:=by
   rcases List.eq_nil_or_concat J with h'|⟨J',j,h'⟩
   .exact absurd h' hJ
   .exact⟨J',j,by rw[h',List.concat_eq_append]⟩
  rw[bLo,e]at q3
  have:=(bSr hP.a (j2 j (by simp))).1
  omega
 have hB:=F.back h0
 have hlt:(toC p s c:Int)<lvl p s (givC p s c):=by
  rcases F.spec with⟨q,_⟩|⟨_,q,_⟩
  .exact absurd q h0
  .exact q
 have hT:toC p s c<s.length:=by have:=(bLn (t:=p) (s:=s) (l:=givC p s c)).2;omega
 have hu:=F.unit h0 F.to (Nat.le_refl _) hlt
 refine⟨_,_,F.jb h0,⟨?_,hB,?_,hP.dec.back hP.a hT _,h.chain.snoc hfrom,fun d hd=>?_,?_⟩,?_⟩
 .rw[<-List.append_assoc,bFm]
  exact⟨h.ok,fun d hd=>by rw[List.mem_singleton]at hd;subst hd;exact F.c⟩
 .rw[<-List.append_assoc]
  exact hP.led.back hP.a hT F.c hu
 .rcases List.mem_append.1 hd with hd|hd
  .exact h.full d hd
  .rw[List.mem_singleton]at hd;subst hd;exact hne
 .have:=bK4 hP.a hT (givC p s c)
  have:=hP.mes
  rw[List.length_append,List.length_singleton]
  omega
 .refine Nat.lt_of_lt_of_le ?_ hmp
  have e1:=bK4 hP.a hT (givC p s c)
  have e2:=bHa hP.a
  have e3:=bHa hB
  have e4:=hP.a.short
  have hv:=hP.a.vars
  unfold meas
  have e5:(s.take (toC p s c)).length=toC p s c:=by rw[List.length_take];omega
  rw[e5]
  generalize YtfjpfjnepdhnaaaGreat.mes v.toNat s p.length=m0 at *
  generalize YtfjpfjnepdhnaaaGreat.mes v.toNat (s.take (toC p s c)) (p.take (keep p s (toC p s c))++[givC p s c]).length=m1 at *
  generalize 2^v.toNat=P at *
  have:(P-m0)*(v.toNat+1)>=(P-m1+1)*(v.toNat+1):=Nat.mul_le_mul_right _ (by omega)
  rw[Nat.add_mul]at this
  omega
theorem Inv.choose(h:Inv v L0 t s log)(hl:lf v (bAf (L0++log) (v+1).toNat t).1≠0):
  Inv v L0 ((bAf (L0++log) (v+1).toNat t).1++[2*lf v (bAf (L0++log) (v+1).toNat t).1+1]) (s++[((bAf (L0++log) (v+1).toNat t).1.length:Int)]) log /\
   meas v ((bAf (L0++log) (v+1).toNat t).1++[2*lf v (bAf (L0++log) (v+1).toNat t).1+1]) (s++[((bAf (L0++log) (v+1).toNat t).1.length:Int)])<meas v t s:=by
 obtain⟨hP,hmp⟩:=h.prop
 generalize (bAf (L0++log) (v+1).toNat t).1=p at *
 have hv:=hP.a.vars
 obtain⟨x1,x2,x3,x4⟩:=(bGy (v:=v) (by omega) p).resolve_left fun h=>hl h.1
 generalize lf v p=x at *
 have hnone:isS p (2*x+1)=2:=by
  rw[bDm]at x3 ⊢
  intro a ha he
  exact x3 a ha (by omega)
 have hA:=hP.a.dec (x:=2*x+1) (by omega) hnone
 have e1:=bW3 hP.a (2*x+1)
 refine⟨⟨h.ok,hA,hP.led.dec hP.a _,hP.dec.dec hP.a x1 x2 x4,h.chain,h.full,Nat.le_trans hP.mes e1⟩,Nat.lt_of_lt_of_le ?_ hmp⟩
 have e2:=hA.short
 have hl2:(s++[(p.length:Int)]).length=s.length+1:=by simp
 have hl3:(p++[2*x+1]).length=p.length+1:=by simp
 have hle:(2^v.toNat-YtfjpfjnepdhnaaaGreat.mes v.toNat (s++[(p.length:Int)]) (p++[2*x+1]).length)*(v.toNat+1)<=(2^v.toNat-YtfjpfjnepdhnaaaGreat.mes v.toNat s p.length)*(v.toNat+1):=Nat.mul_le_mul_right _ (by omega)
 unfold meas
 rw[hl2]at e2 ⊢
 rw[hl3]at e2
 generalize (2^v.toNat-YtfjpfjnepdhnaaaGreat.mes v.toNat (s++[(p.length:Int)]) (p++[2*x+1]).length)*(v.toNat+1)=A at *
 generalize (2^v.toNat-YtfjpfjnepdhnaaaGreat.mes v.toNat s p.length)*(v.toNat+1)=B at *
 omega
end
end
section
def bFq(L:List (List Int))(W:List Bool):Prop:=∀c∈L,c.any (bDf W)=true
theorem bFk{W:List Bool}{x:Int}:bDf W (2*x)=W.getD (x-1).toNat false:=by
 unfold bDf
 rw[if_neg (by omega),show 2*x/2-1=x-1 from by omega]
theorem bG8{W:List Bool}{x:Int}:bDf W (2*x+1) = !bDf W (2*x):=by
 rw[bFk]
 unfold bDf
 rw[if_pos (by omega),show(2*x+1)/2-1=x-1 from by omega]
def bPa(v:Int)(W:List Bool):List Int:=(allL v.toNat).map fun x=>if bDf W (2*x)=true then 2*x else 2*x+1
section
variable {v:Int} {W:List Bool}
theorem bHi{l:Int}(hl:isLit v l):l∈bPa v W↔bDf W l=true:=by
 unfold bPa
 rw[List.mem_map]
 have hx:l/2∈allL v.toNat:=bFi.2 (by omega)
 have e:l=2*(l/2)\/l=2*(l/2)+1:=by omega
 generalize l/2=x at *
 constructor
 .rintro⟨y,hy,h⟩
  by_cases ht:bDf W (2*y)=true
  .rw[if_pos ht]at h
   rw[<-h];exact ht
  .rw[if_neg ht]at h
   rw[<-h,bG8];simpa using ht
 .intro h
  refine⟨x,hx,?_⟩
  rcases e with e|e
  .rw[e]at h
   rw[if_pos h,e]
  .rw[e,bG8]at h
   rw[if_neg (by simpa using h),e]
theorem bN5(hv:okV v):okA v (bPa v W) [] where
 vars:=hv
 lits:=fun l hl=>by
  unfold bPa at hl
  obtain⟨x,hx,rfl⟩:=List.mem_map.1 hl
  have:=bFi.1 hx
  split<;>omega
 dis:=by
  unfold bPa
  rw[List.pairwise_map]
  unfold allL
  rw[List.pairwise_map]
  refine List.pairwise_lt_range.imp fun {a b} hab he=>?_
  split at he<;>split at he<;>omega
 inc:=List.Pairwise.nil
 bnd:=by simp
theorem bSv(hv:okV v){L:List (List Int)}(hL:okL v L)(hm:bFq L W):Clo L (bPa v W):=by
 intro c hc
 obtain⟨l,hl,ht⟩:=List.any_eq_true.1 (hm c hc)
 have:(stC (bPa v W) c).1=1:=cCm.2 ⟨l,hl,(bB6 (bN5 (W:=W) hv).dis).2 ((bHi ((hL c hc).1 l hl)).2 ht)⟩
 omega
end
def mdl(v:Int)(T:List Int):List Bool:=(List.range v.toNat).map fun i:Nat=>decide (2*((i:Int)+1)∈T)
theorem bHb{v:Int}{T:List Int}:(mdl v T).length=v.toNat:=by simp[mdl]
theorem bLm{v:Int}{T:List Int}{i:Nat}(hi:i<v.toNat):(mdl v T).getD i false=decide (2*((i:Int)+1)∈T):=by
 unfold mdl
 rw[List.getD_eq_getElem?_getD,List.getElem?_map,List.getElem?_range hi];rfl
section
variable {v:Int} {T s:List Int}
theorem bV7(h:okA v T s)(ht:∀x,1<=x->x<=v->isS T (2*x)≠2){x:Int}(h1:1<=x)(h2:x<=v):2*x+1∈T↔2*x∉T:=by
 have e:neg (2*x)=2*x+1:=by unfold neg;rw[if_pos (by omega)]
 rw[<-e,<-bBz h.dis,<-bB6 h.dis]
 have:=ht x h1 h2
 rcases bCk T (2*x) with h|h|h<;>omega
theorem bP1(h:okA v T s)(ht:∀x,1<=x->x<=v->isS T (2*x)≠2){l:Int}(hl:isLit v l):bDf (mdl v T) l=decide (l∈T):=by
 have even:∀{x:Int},1<=x->x<=v->bDf (mdl v T) (2*x)=decide (2*x∈T):=fun {x} h1 h2=>by
  rw[bFk,bLm (by omega),show 2*(((x-1).toNat:Int)+1)=2*x from by omega]
 have e:l=2*(l/2)\/l=2*(l/2)+1:=by omega
 have b1:1<=l/2:=by omega
 have b2:l/2<=v:=by omega
 generalize l/2=x at *
 rcases e with e|e
 .rw[e,even b1 b2]
 .rw[e,bG8,even b1 b2]
  have:=bV7 h ht b1 b2
  by_cases hx:2*x∈T
  .simp[hx,this]
  .simp[hx,this]
theorem bNi(h:okA v T s)(ht:∀x,1<=x->x<=v->isS T (2*x)≠2){L:List (List Int)}(hL:okL v L)(hc:Clo L T):bFq L (mdl v T):=by
 intro c hcl
 rw[List.any_eq_true]
 apply Classical.byContradiction
 intro hn
 refine(hc c hcl).1 (bFx.2 fun l hl=>?_)
 have hlit:=(hL c hcl).1 l hl
 rcases bCk T l with h0|h0|h0
 .exact h0
 .exfalso
  exact hn ⟨l,hl,by rw[bP1 h ht hlit];exact decide_eq_true ((bB6 h.dis).1 h0)⟩
 .exfalso
  have:=ht (l/2) (by omega) (by omega)
  rw[bDm]at h0
  refine this (bDm.2 fun a ha he=>h0 a ha ?_)
  omega
end
def cBr(v:Int)(L:List (List Int))(M:List Bool):Prop:=
 M.length=v.toNat/\bFq L M/\∀W,W.length=v.toNat->bFq L W->∀i,i<v.toNat->(∀j,j<i->W.getD j false=M.getD j false)->M.getD i false=true->W.getD i false=true
theorem bH1{v:Int}(hv:okV v){L0:List (List Int)}{W:List Bool}(hm:bFq L0 W):∀{log:List (List Int)},okL v (L0++log)->bL5 v L0 log->bFq (L0++log) W:=by
 intro log hL hc
 have all:∀n,n<=log.length->bFq (L0++log.take n) W:=by
  intro n
  induction n with
  |zero=>intro _;simpa using hm
  |succ n ih=>
   intro hn
   have hlt:n<log.length:=by omega
   have h1:=ih (by omega)
   rw[List.take_add_one,List.getElem?_eq_getElem hlt,<-List.append_assoc]
   intro c hcm
   rcases List.mem_append.1 hcm with h2|h2
   .exact h1 c h2
   .simp only[Option.toList_some,List.mem_singleton]at h2
    subst h2
    refine bQh hv (L:=L0++log.take n) (fun d hd=>hL d ?_) (hL _ (List.mem_append_right _ (List.getElem_mem hlt))) h1 (hc n hlt)
    rcases List.mem_append.1 hd with h|h
    .exact List.mem_append_left _ h
    .exact List.mem_append_right _ (List.mem_of_mem_take h)
 have:=all log.length (Nat.le_refl _)
 rwa [List.take_length]at this
theorem bQj{t s:List Int}(x:Int):∀n,n<=s.length->(∃k,k<n/\(∀j,j<k->dc t s j<2*x)/\2*x<=dc t s k)\/∀j,j<n->dc t s j<2*x
 |0,_=>.inr fun j hj=>by omega
 |n+1,hn=>by
  rcases bQj (t:=t) (s:=s) x n (by omega) with⟨k,h1,h2,h3⟩|h
  .exact .inl ⟨k,by omega,h2,h3⟩
  .by_cases hd:dc t s n<2*x
   .refine .inr fun j hj=>?_
    rcases Nat.lt_or_ge j n with h'|h'
    .exact h j h'
    .rw[show j=n from by omega];exact hd
   .exact .inl ⟨n,by omega,h,by omega⟩
theorem bXs{v:Int}{t s:List Int}(h:okA v t s){j:Nat}(hj:j<s.length):dc t s j∈t:=by
 obtain⟨i,hi,_,e⟩:=bZ8 h hj
 rw[e];exact List.getElem_mem hi
section
variable {v:Int} {L0:List (List Int)} {t s:List Int} {log:List (List Int)}
theorem Inv.least(h:Inv v L0 t s log){W:List Bool}(hm:bFq L0 W){x:Int}(h1:1<=x)(h2:x<=v)(hx:2*x∈t)(hb:∀y,1<=y->y<x->2*y∉t->bDf W (2*y)=false):bDf W (2*x)=true:=by
 have hv:=h.a.vars
 have hM:=bH1 hv hm h.ok h.chain
 have hY:=bN5 (W:=W) hv
 have hcl:=bSv hv h.ok hM
 have hlow:∀j,j<s.length->dc t s j<2*x->dc t s j∈bPa v W:=fun j hj hd=>by
  obtain⟨y,e1,e2,e3,_⟩:=h.dec j hj
  have hmem:=bXs h.a hj
  rw[e1]at hd hmem ⊢
  rw[bHi (by omega),bG8,hb y e2 (by omega) ?_]
  .rfl
  .intro hy
   have ht:=(bB6 h.a.dis).2 hy
   have hf:=(bBz h.a.dis (l:=2*y)).2 (by unfold neg;rw[if_pos (by omega)];exact hmem)
   omega
 rw[<-bHi (v:=v) (by omega)]
 rcases bQj (t:=t) (s:=s) x s.length (Nat.le_refl _) with⟨k,k1,k2,k3⟩|hall
 .obtain⟨y,e1,e2,e3,e4⟩:=h.dec k k1
  have hmem:=bXs h.a k1
  have hxy:x<y:=by
   have:x≠y:=fun e=>by
    subst e
    rw[e1]at hmem
    have ht:=(bB6 h.a.dis).2 hx
    have hf:=(bBz h.a.dis (l:=2*x)).2 (by unfold neg;rw[if_pos (by omega)];exact hmem)
    omega
   omega
  have hS:=e4 x h1 hxy
  have hd2:(t.take (keep t s k)).Pairwise fun a b=>a/2≠b/2:=h.a.dis.sublist (List.take_sublist ..)
  refine h.led k (by omega) _ hY hcl (fun j hj=>hlow j (by omega) (k2 j hj)) _ ?_
  rcases bCk (t.take (keep t s k)) (2*x) with h0|h0|h0
  .exfalso
   have:=List.mem_of_mem_take ((bBz hd2).1 h0)
   have ht:=(bB6 h.a.dis).2 hx
   have hf:=(bBz h.a.dis (l:=2*x)).2 this
   omega
  .exact(bB6 hd2).1 h0
  .exact absurd h0 hS
 .exact h.led s.length (Nat.le_refl _) _ hY hcl (fun j hj=>hlow j hj (hall j hj)) _ (by rw[bFg,List.take_length];exact hx)
end
structure AnsOk(v:Int)(L0:List (List Int))(r:Bool×List Int×List (List Int)×Nat):Prop where
 ok:okL v (L0++r.2.2.1)
 chain:bL5 v L0 r.2.2.1
 bnd:r.2.2.2+1<=2^v.toNat
 sat:r.1=true->cBr v L0 (mdl v r.2.1)/\(∀c∈r.2.2.1,c≠[])/\r.2.2.2=r.2.2.1.length/\(∃s,okA v r.2.1 s)/\∀x,1<=x->x<=v->isS r.2.1 (2*x)≠2
 unsat:r.1=false->∃lg,r.2.2.1=lg++[[]]/\(∀c∈lg,c≠[])/\r.2.2.2=lg.length/\r.2.1=[]
theorem bWc{v:Int}{L0:List (List Int)}:∀(n:Nat) {t s:List Int} {log:List (List Int)},Inv v L0 t s log->meas v t s<n->AnsOk v L0 (sol v n (L0++log) t s log)
 |0,t,s,log,h,hn=>by omega
 |n+1,t,s,log,h,hn=>by
  have hP:=h.prop.1
  have hbnd:log.length+1<=2^v.toNat:=by have:=h.mes;have:=bHa h.a;omega
  have hv:=h.a.vars
  unfold sol
  by_cases hat:0<=(bAf (L0++log) (v+1).toNat t).2
  .rw[if_pos hat]
   obtain⟨f1,f2,f3⟩:=h.fail hat rfl
   by_cases hc:lrnC v (L0++log) (decs (bAf (L0++log) (v+1).toNat t).1 s)=[]
   .rw[if_pos hc]
    rw[hc]at f1 f2
    refine⟨?_,h.chain.snoc f2,hbnd,(by simp),fun _=>⟨log,rfl,h.full,rfl,rfl⟩⟩
    show okL v (L0++(log++[[]]))
    rw[<-List.append_assoc,bFm]
    exact⟨h.ok,fun d hd=>by rw[List.mem_singleton]at hd;subst hd;exact f1⟩
   .rw[if_neg hc]
    obtain⟨t',s',e1,e2,e3⟩:=f3 hc
    rw[e1]
    have:=bWc n e2 (by omega)
    rw[<-List.append_assoc]at this
    exact this
  .rw[if_neg hat]
   by_cases hl:lf v (bAf (L0++log) (v+1).toNat t).1=0
   .rw[if_pos hl]
    have htot:∀x,1<=x->x<=v->isS (bAf (L0++log) (v+1).toNat t).1 (2*x)≠2:=by
     rcases bGy (v:=v) (by omega) (bAf (L0++log) (v+1).toNat t).1 with⟨_,h2⟩|⟨h1,_⟩
     .exact h2
     .omega
    have hcl:=bDx h.ok h.a (by omega)
    have hmod:=bNi hP.a htot h.ok hcl
    refine⟨h.ok,h.chain,hbnd,fun _=>⟨⟨bHb,fun c hc=>hmod c (List.mem_append_left _ hc),fun W hW hm i hi hpre hMi=>?_⟩,h.full,rfl,⟨s,hP.a⟩,htot⟩,by simp⟩
    rw[bLm hi]at hMi
    have hx:=of_decide_eq_true hMi
    have:=hP.least hm (x:=(i:Int)+1) (by omega) (by omega) hx (fun y y1 y2 hy=>?_)
    .rw[bFk,show((i:Int)+1-1).toNat=i from by omega]at this;exact this
    .have:=hpre (y-1).toNat (by omega)
     rw[bLm (by omega),show 2*(((y-1).toNat:Int)+1)=2*y from by omega]at this
     rw[bFk,this];exact decide_eq_false hy
   .rw[if_neg hl]
    obtain⟨e1,e2⟩:=h.choose hl
    exact bWc n e1 (by omega)
end
section
theorem bBr.loop{v:Int}(hv:okV v){L:List (List Int)}(hn:L.length<=100000)(hr:∀c∈L,c.length<=140737488351232/\∀x∈c,in64 x):∀(n i:Nat),i+n=L.length->bBr.l0 v L (L.length:Int) (i:Int)=some (if okL v (L.drop i) then 0 else 8)
 |0,i,hi=>by
  rw[bBr.l0_eq,cd,if_neg (by omega),if_pos]
  rw[List.drop_of_length_le (by omega)]
  intro c hc;cases hc
 |n+1,i,hi=>by
  have hlt:i<L.length:=by omega
  have hw:IntKind.wrap .i64 ((i:Int)+1)=((i+1:Nat):Int):=by rw[wr]<;>omega
  obtain⟨h1,h2⟩:=hr _ (List.getElem_mem hlt)
  rw[bBr.l0_eq,cd,if_pos (by omega),bB0 hlt,Option.bind_some,bC8 h1 h2,Option.bind_some,if_pos hv,cn,hw,bBr.loop hv hn hr n (i+1) (by omega),drop_cons hlt]
  by_cases hc:okC v L[i]
  .rw[if_pos hc,if_pos rfl]
   by_cases h3:okL v (L.drop (i+1))
   .rw[if_pos h3,if_pos]
    intro d hd
    rcases List.mem_cons.1 hd with h|h
    .rw[h];exact hc
    .exact h3 d h
   .rw[if_neg h3,if_neg (fun h=>h3 fun d hd=>h d (List.mem_cons_of_mem _ hd))]
  .rw[if_neg hc,if_neg (by omega),if_neg (fun h=>hc (h _ (List.mem_cons_self ..)))]
theorem bJw{v:Int}(hv:okV v){L:List (List Int)}(hn:L.length<=100000)(hr:∀c∈L,c.length<=140737488351232/\∀x∈c,in64 x):bBr v L=some (if L.length>20000 then 4 else if okL v L then 0 else 8):=by
 have:=bBr.loop hv hn hr L.length 0 (by omega)
 rw[show((0:Nat):Int)=0 from rfl,List.drop_zero]at this
 rw[bBr.eq,cd]
 by_cases h:L.length>20000
 .rw[if_pos (by omega),if_pos h]
 .rw[if_neg (by omega),if_neg h,this]
section
variable {v:Int} {L log:List (List Int)} {t s:List Int} {k:Int}
theorem bKs.loop(h:okA v t s){b:Bool}{m:List Bool}{co:List Int}:∀(n i:Nat),i+n=s.length ->
  bAw.l0 (s.length:Int) (i:Int) v v b k log co m s t L ((List.range i).map (dc t s))=bAw.l0 (s.length:Int) (s.length:Int) v v b k log co m s t L (decs t s)
 |0,i,hi=>by
  have:i=s.length:=by omega
  subst this;rfl
 |n+1,i,hi=>by
  have hlt:i<s.length:=by omega
  have hv:=h.vars
  have hsh:=h.short
  have hw:IntKind.wrap .i64 ((i:Int)+1)=((i+1:Nat):Int):=by rw[wr]<;>omega
  obtain⟨j,hj,h1,e1⟩:=bZ8 h hlt
  rw[<-bKs.loop h n (i+1) (by omega),bAw.l0_eq (x17:=(i:Int)),cd,if_pos (by omega),bB0 hlt,Option.bind_some,Int.toNat_natCast,List.getElem?_eq_getElem hlt,Option.bind_some,h1,bB0 hj,Option.bind_some,Int.toNat_natCast,
   List.getElem?_eq_getElem hj,Option.bind_some,bB1 (by simp;omega),Option.bind_some,hw,List.range_succ,List.map_append,List.map_singleton,e1]
theorem bF4{a b:Int}{bo:Bool}{m:List Bool}{co c:List Int}(h1:L.length<=20000)(h2:log.length<=20000):bBu a L b t s bo m co log k c=some (a,(L++[c],((b,(t,s)),(bo,(m,(co,(log++[c],k))))))):=by
 rw[bBu.eq,bB1 (by simp;omega),Option.bind_some,bB1 (by simp;omega),Option.bind_some]
theorem bW8:lrnC v L []=[]:=by
 unfold lrnC
 obtain⟨p1,_⟩:=bDv (([]:List Int).map neg)
 exact List.eq_nil_of_length_eq_zero (by simpa[shr]using p1.length_eq)
theorem bF8(h:okA v t s)(hL:okL v L)(hn:L.length<20000)(hlog:log.length<=20000)(hk:0<=k/\k<=1000000)(hc:bDq v L (decs t s)=true){c:List Int}(hce:c=lrnC v L (decs t s))(hcok:okC v c)
  {t' s':List Int} (hb:c≠[]->bFn v t s c=((v,(t',s')),0)) :
  bAw v L v t s false [] [] log k=if c=[] then some (false,0,(v,(L++[[]],((v,(t,s)),(false,([],([],(log++[[]],k)))))))) else some (true,0,(v,(L++[c],((v,(t',s')),(false,([],([],(log++[c],k+1)))))))):=by
 have hv:=h.vars
 have hsh:=h.short
 have ht64:∀l∈t,in64 l:=fun l hl=>by have:=h.lits l hl;omega
 have g:=bKs.loop (L:=L) (log:=log) (k:=k) (b:=false) (m:=[]) (co:=[]) h s.length 0 (by omega)
 rw[show((0:Nat):Int)=0 from rfl]at g
 have e0:bAw v L v t s false [] [] log k=_:=(bAw.eq ..).trans g
 have hD:=bGj h
 have hdl:(decs t s).length=s.length:=by simp[decs]
 rw[e0,bAw.l0_eq,cd,if_neg (by omega),cd]
 by_cases hs:s.length=0
 .have hd0:decs t s=[]:=List.eq_nil_of_length_eq_zero (by omega)
  have hc0:c=[]:=by rw[hce,hd0];exact bW8
  rw[if_neg (by omega),ce,if_neg (by omega),ce,if_pos (by simp),bF4 (by omega) hlog,Option.bind_some,if_pos hc0]
 .rw[if_pos (by omega),bC7 hD hL (by omega) hc,Option.bind_some,<-hce]
  dsimp only
  rw[cn,if_pos rfl,ce,if_neg (by omega),ce]
  by_cases hc0:c=[]
  .rw[if_pos (by rw[hc0];rfl),if_pos hc0,bF4 (by omega) hlog,Option.bind_some]
  .have hcl:¬(c.length:Int)=0:=fun e=>hc0 (List.eq_nil_of_length_eq_zero (by omega))
   have hc64:∀l∈c,in64 l:=fun l hl=>by have:=hcok.1 l hl;omega
   have hcs:=hcok.short hv
   have hw:IntKind.wrap .i64 (k+1)=k+1:=by rw[wr]<;>omega
   rw[if_neg hcl,if_neg hc0,bHy (by omega) (by omega) ht64 (by omega) hc64,Option.bind_some,hb hc0]
   dsimp only
   rw[cn,if_pos rfl,hw,bF4 (by omega) hlog,Option.bind_some]
theorem bW0(h:okA v t s):(lf v t=0/\∃a b,bTi (allL v.toNat) v t s=(a,b,6))\/(lf v t≠0/\∃r,bTi (allL v.toNat) v t s=(lf v t,r,0)):=by
 have hv:=h.vars
 have hH:=cAi (n:=v.toNat) (by omega)
 have hC:bTi (allL v.toNat) v t s=bQb v t ((allL v.toNat).length+1) (allL v.toNat):=by unfold bTi;rw[if_pos hH,if_pos h]
 rw[hC]
 rcases bNh (v:=v) (t:=t) ((allL v.toNat).length+1) hH (by omega) with⟨h1,h2⟩|⟨m,r,h1,h2,h3,h4,h5,h6,h7⟩<;>rcases bGy (v:=v) (by omega) t with⟨g1,g2⟩|⟨g1,g2,g3,g4⟩
 .exact .inl ⟨g1,_,_,h2⟩
 .exact absurd ((bK6 g2).2 g3) (h1 _ (bFi.2 (by omega)))
 .have hm:=bFi.1 h3
  exact absurd ((bK6 (by omega)).1 h4) (g2 m hm.1 (by omega))
 .have hm:=bFi.1 h3
  have a1:=h5 (lf v t) (bFi.2 (by omega)) ((bK6 g2).2 g3)
  have a2:¬m<lf v t:=fun hlt=>g4 m hm.1 hlt ((bK6 (by omega)).1 h4)
  have:m=lf v t:=by omega
  subst this
  exact .inr ⟨by omega,r,h1⟩
theorem bH4{bo:Bool}{m:List Bool}{co:List Int}(h:okA v t s):bCc v L v t s bo m co log k (allL v.toNat)=if lf v t=0 then some (false,(v,(L,((v,(t,s)),(bo,(m,(co,(log,k)))))))) else
  some (true,(v,(L,((v,(t++[2*lf v t+1],s++[(t.length:Int)])),(bo,(m,(co,(log,k)))))))):=by
 have hv:=h.vars
 have hsh:=h.short
 have ht64:∀l∈t,in64 l:=fun l hl=>by have:=h.lits l hl;omega
 rw[bCc.eq,bHz (by omega) (by omega) ht64,Option.bind_some]
 rcases bW0 h with⟨h1,a,b,h2⟩|⟨h1,r,h2⟩
 .rw[h2,if_pos h1]
  dsimp only
  rw[cn,if_neg (by omega)]
 .rw[h2,if_neg h1]
  have hb:=(bGy (v:=v) (by omega) t).resolve_left fun h=>h1 h.1
  have hw:IntKind.wrap .i64 (IntKind.wrap .i64 (2*lf v t)+1)=2*lf v t+1:=by rw[wr (x:=2*lf v t) (by omega) (by omega),wr (by omega) (by omega)]
  dsimp only
  rw[cn,if_pos rfl,bB1 (by simp;omega),Option.bind_some,hw,bB1 (by simp;omega),Option.bind_some]
theorem bSj{T:List Int}(h:okA v T s){i:Nat}(hi:i<T.length):mdl v (T.take (i+1))=(mdl v (T.take i)).set (T[i]/2-1).toNat (decide (T[i]%2=0)):=by
 have hl:=h.lits _ (List.getElem_mem hi)
 refine List.ext_getElem (by simp[bHb]) fun j h1 h2=>?_
 rw[bHb]at h1
 have e:∀{T:List Int} (hj:j<(mdl v T).length),(mdl v T)[j]=decide (2*((j:Int)+1)∈T):=fun hj=>by simp[mdl]
 rw[e,List.getElem_set]
 have hmem:∀x,x∈T.take (i+1)↔x∈T.take i\/x=T[i]:=fun x=>by rw[List.take_add_one,List.getElem?_eq_getElem hi,List.mem_append,Option.toList_some,List.mem_singleton]
 by_cases hj:(T[i]/2-1).toNat=j
 .rw[if_pos hj,decide_eq_decide,hmem]
  constructor
  .rintro(hx|hx)
   .exfalso
    obtain⟨q,hq,e1⟩:=List.mem_iff_getElem.1 hx
    rw[List.length_take]at hq
    rw[List.getElem_take]at e1
    have:=(List.pairwise_iff_getElem.1 h.dis) q i (by omega) hi (by omega)
    omega
   .omega
  .intro hx
   right;omega
 .rw[if_neg hj,e,decide_eq_decide,hmem]
  constructor
  .rintro(hx|hx)
   .exact hx
   .omega
  .exact .inl
theorem bLf.loop{T:List Int}(h:okA v T s){a:Int}{bo:Bool}{co:List Int}:∀(n i:Nat),i+n=T.length ->
  bA9.l0 (T.length:Int) (i:Int) a v bo k log co [] s T L (mdl v (T.take i))=some (a,(L,((v,(T,s)),(bo,(mdl v T,(co,(log,k)))))))
 |0,i,hi=>by
  rw[bA9.l0_eq,cd,if_neg (by omega),List.take_of_length_le (by omega)]
 |n+1,i,hi=>by
  have hlt:i<T.length:=by omega
  have hv:=h.vars
  have hsh:=h.short
  have hl:=h.lits _ (List.getElem_mem hlt)
  have hw:IntKind.wrap .i64 ((i:Int)+1)=((i+1:Nat):Int):=by rw[wr]<;>omega
  have hw2:IntKind.wrap .i64 (IntKind.wrap .i64 (Int.tdiv T[i] 2)-1)=T[i]/2-1:=by rw[td (by omega) (by omega),wr (by omega) (by omega)]
  have hlen:(mdl v (T.take i)).length=v.toNat:=bHb
  have hidx:(T[i]/2-1).toNat<(mdl v (T.take i)).length:=by omega
  have e1:(T[i]%2==0)=decide (T[i]%2=0):=by rw[Bool.eq_iff_iff];simp
  rw[bA9.l0_eq,cd,if_pos (by omega),bB0 hlt,Option.bind_some,Int.toNat_natCast,List.getElem?_eq_getElem hlt,Option.bind_some,hw2,gi' (by omega),List.getElem?_eq_getElem hidx,Option.bind_some,Option.bind_some,hw,tm (by omega),e1,<-bSj h hlt,
   bLf.loop h n (i+1) (by omega)]
theorem bJv{T:List Int}(h:okA v T s):bA9 v L v T s false [] [] log k=some (v,(L,((v,(T,s)),(true,(mdl v T,([],(log,k))))))):=by
 have hv:=h.vars
 have g:=bLf.loop (L:=L) (log:=log) (k:=k) (a:=v) (bo:=true) (co:=[]) h T.length 0 (by omega)
 have h0:mdl v (T.take 0)=List.replicate v.toNat false:=by
  refine List.ext_getElem (by simp[bHb]) fun j h1 h2=>?_
  simp[mdl]
 rw[h0,show((0:Nat):Int)=0 from rfl]at g
 rw[bA9.eq,bKo (by omega) (by omega),Option.bind_some,if_pos rfl,g]
end
abbrev Ans:=(Bool×List Bool×List Int×List (List Int)×Int)×Int
def ans0:Bool×List Bool×List Int×List (List Int)×Int:=(false,[],[],[],0)
def ansR(v:Int)(r:Bool×List Int×List (List Int)×Nat):Bool×List Bool×List Int×List (List Int)×Int:=(r.1,if r.1 then mdl v r.2.1 else[],[],r.2.2.1,(r.2.2.2:Int))
def ansC(v b:Int)(r:Bool×List Int×List (List Int)×Nat):Ans:=if(r.2.2.2:Int)<=b then(ansR v r,0) else(ans0,55)
theorem bA4.loop1{v b:Int}{L0:List (List Int)}{b0:Bool}{b1:Int}{o2:List Bool}{o3:List Int}{o4:List (List Int)}(hlim:L0.length+2^v.toNat<=20000):∀(n:Nat) {t s:List Int} {log:List (List Int)},Inv v L0 t s log->meas v t s<n->(log.length:Int)<=b ->
  bA4.l1 b (allL v.toNat) b0 b1 v v false (log.length:Int) o2 o3 o4 (L0++log) t s [] [] log=some (ansC v b (sol v n (L0++log) t s log))
 |0,t,s,log,h,hn,hb=>by omega
 |n+1,t,s,log,h,hn,hb=>by
  have hv:=h.a.vars
  have hsh:=h.a.short
  have hP:=h.prop.1
  have htop:log.length+1<=2^v.toNat:=by have:=h.mes;have:=bHa h.a;omega
  have hll:(L0++log).length<20000:=by rw[List.length_append];omega
  have ht64:∀l∈t,in64 l:=fun l hl=>by have:=h.a.lits l hl;omega
  have hr:∀c∈L0++log,c.length<=140737488351232/\∀x∈c,in64 x:=fun c hc=>⟨by have:=(h.ok c hc).len hv;omega,fun x hx=>bKw hv ((h.ok c hc).1 x hx)⟩
  have hrun:runC v t s (L0++log)=((v,(bAf (L0++log) (v+1).toNat t).1,s),(bAf (L0++log) (v+1).toNat t).2,0):=by
   unfold runC
   rw[if_pos h.a,if_neg (by omega),if_pos h.ok]
  rw[bA4.l1_eq,bGa (by omega) (by omega) ht64 (by omega) hr,Option.bind_some,hrun]
  dsimp only
  rw[cn,if_pos rfl,cd]
  unfold sol
  by_cases hat:0<=(bAf (L0++log) (v+1).toNat t).2
  .rw[if_pos hat,if_pos hat]
   obtain⟨f1,f2,f3⟩:=h.fail hat rfl
   have hcf:=h.conf hat
   by_cases hc:lrnC v (L0++log) (decs (bAf (L0++log) (v+1).toNat t).1 s)=[]
   .rw[bF8 (t':=[]) (s':=[]) hP.a h.ok hll (by rw[List.length_append]at hll;omega) ⟨by omega,by omega⟩ hcf rfl f1 (fun hne=>absurd hc hne),if_pos hc,if_pos hc,Option.bind_some]
    dsimp only
    rw[ce,if_pos rfl,cd,if_neg (by omega),cn,if_pos rfl,cnot,cf]
    unfold ansC ansR
    rw[if_pos hb]
    rfl
   .obtain⟨t',s',e1,e2,e3⟩:=f3 hc
    rw[bF8 hP.a h.ok hll (by rw[List.length_append]at hll;omega) ⟨by omega,by omega⟩ hcf rfl f1 (fun _=>e1),if_neg hc,if_neg hc,Option.bind_some,e1]
    dsimp only
    rw[ce,if_pos rfl,cd]
    by_cases hov:(log.length:Int)+1>b
    .rw[if_pos hov,cn,if_neg (by omega)]
     unfold ansC
     have:=bL9 (v:=v) n (L0++log++[lrnC v (L0++log) (decs (bAf (L0++log) (v+1).toNat t).1 s)]) t' s' (log++[lrnC v (L0++log) (decs (bAf (L0++log) (v+1).toNat t).1 s)])
     rw[List.length_append (bs:=[_]),List.length_singleton]at this
     rw[if_neg (by omega)]
     rfl
    .rw[if_neg hov,cn,if_pos rfl,cnot,ct]
     have:=bA4.loop1 (b:=b) (b0:=b0) (b1:=b1) (o2:=o2) (o3:=o3) (o4:=o4) hlim n e2 (by omega) (by rw[List.length_append,List.length_singleton];omega)
     rw[<-List.append_assoc,List.length_append (bs:=[_]),List.length_singleton,Int.natCast_add]at this
     exact this
  .rw[if_neg hat,if_neg hat,bH4 hP.a]
   by_cases hl:lf v (bAf (L0++log) (v+1).toNat t).1=0
   .rw[if_pos hl,if_pos hl,Option.bind_some]
    dsimp only
    rw[cnot,cf,bJv hP.a,Option.bind_some]
    unfold ansC ansR
    rw[if_pos hb]
    rfl
   .obtain⟨e1,e2⟩:=h.choose hl
    rw[if_neg hl,if_neg hl,Option.bind_some]
    dsimp only
    rw[cnot,ct]
    exact bA4.loop1 hlim n e1 (by omega) hb
def solR(v:Int)(L:List (List Int)):Bool×List Int×List (List Int)×Nat:=sol v (meas v [] []+1) L [] [] []
theorem inv0{v:Int}(hv:okV v){L:List (List Int)}(hL:okL v L):Inv v L [] [] [] where
 ok:=by rw[List.append_nil];exact hL
 a:=⟨hv,by simp,List.Pairwise.nil,List.Pairwise.nil,by simp⟩
 led:=LedK.empty hv
 dec:=Dec.empty
 chain:=fun i hi=>by simp at hi
 full:=by simp
 mes:=Nat.zero_le _
theorem cCo{v:Int}(hv:okV v){L:List (List Int)}(hL:okL v L):AnsOk v L (solR v L):=by
 have:=bWc (meas v [] []+1) (inv0 hv hL) (Nat.lt_succ_self _)
 rwa [List.append_nil]at this
theorem bA4.loop0{v b:Int}(hv:okV v){b0 b1_2:Bool}{b1 b2 b3 b4:Int}{o3 o8:List Bool}{o4 o7 o9:List Int}{o5 o6 o10:List (List Int)}{o11:List Int}:∀(n k:Nat),(k:Int)+n=v ->
  bA4.l0 v b ((k+1:Nat):Int) b0 b1 b2 b3 b1_2 b4 (allL k) o3 o4 o5 o6 o7 o11 o8 o9 o10=bA4.l1 b (allL v.toNat) b0 b1 b2 b3 b1_2 b4 o3 o4 o5 o6 o7 o11 o8 o9 o10
 |0,k,hk=>by
  have e:v.toNat=k:=by omega
  rw[bA4.l0_eq,cd,if_neg (by omega),e]
 |n+1,k,hk=>by
  have hl:((allL k).length:Int)=k:=by rw[bHn]
  rw[bA4.l0_eq,cd,if_pos (by omega),bB1 (by simp;omega),Option.bind_some,bWb (by omega),<-bA4.loop0 hv n (k+1) (by omega),bQr]
  rfl
theorem bP5{v b:Int}(hv:okV v)(hb:0<=b/\b<=100000){L:List (List Int)}(hL:okL v L)(hlim:L.length+2^v.toNat<=20000):bA4 v L b=some (ansC v b (solR v L)):=by
 have hr:∀c∈L,c.length<=140737488351232/\∀x∈c,in64 x:=fun c hc=>⟨by have:=(hL c hc).len hv;omega,fun x hx=>bKw hv ((hL c hc).1 x hx)⟩
 have hN:L.length<=20000:=Nat.le_trans (Nat.le_add_right _ _) hlim
 have g0:=bA4.loop0 (b:=b) (b0:=false) (b1:=0) (b2:=v) (b3:=v) (b1_2:=false) (b4:=0) (o3:=[]) (o4:=[]) (o5:=[]) (o6:=L) (o7:=[]) (o11:=[]) (o8:=[]) (o9:=[]) (o10:=[]) hv v.toNat 0 (by omega)
 have g1:=bA4.loop1 (b:=b) (b0:=false) (b1:=0) (o2:=[]) (o3:=[]) (o4:=[]) hlim (meas v [] []+1) (inv0 hv hL) (Nat.lt_succ_self _) (by simpa using hb.1)
 rw[List.append_nil]at g1
 rw[bA4.eq,cd,if_neg (by omega),cd,if_neg (by omega),cd,if_neg (by omega),cd,if_neg (by omega),bJw hv (by omega) hr,Option.bind_some,if_neg (by omega),if_pos hL,cn,if_pos rfl,bD4 (by omega),Option.bind_some]
 exact g0.trans g1
end
section
abbrev Ansr:=Bool×List Bool×List Int×List (List Int)×Int
theorem bWd{v:Int}(h0:0<=v)(h:v<=12):2^v.toNat<=4096:=Nat.pow_le_pow_right (n:=2) (by omega) (show v.toNat<=12 by omega)
section
variable {v:Int} {L:List (List Int)}
end
end
section
def DecQ(Q:List Int->Int->Prop)(t s:List Int):Prop:=∀j,j<s.length->Q (t.take (keep t s j)) (dc t s j)
section
variable {v:Int} {L:List (List Int)} {t s:List Int} {Q:List Int->Int->Prop}
theorem DecQ.empty:DecQ Q [] []:=fun j hj=>by simp at hj
theorem DecQ.prop(hL:okL v L)(h:okA v t s)(hd:DecQ Q t s){n:Nat}:DecQ Q (bAf L n t).1 s:=by
 obtain⟨hA,u,hu⟩:=bCu hL n h
 intro j hj
 have ht:(bAf L n t).1.take t.length=t.take t.length:=by rw[hu];simp
 have hkb:=bDa h hj
 rw[bF5 h hj hj rfl ht hkb,bDg (t:=t) hj hj rfl,bGo ht (by omega)]
 exact hd j hj
theorem DecQ.dec(h:okA v t s)(hd:DecQ Q t s){x:Int}(hx:Q t x):DecQ Q (t++[x]) (s++[(t.length:Int)]):=by
 intro j hj
 have ht:(t++[x]).take t.length=t.take t.length:=by simp
 rw[List.length_append,List.length_singleton]at hj
 have hlast:keep (t++[x]) (s++[(t.length:Int)]) s.length=t.length:=by rw[bDy (by simp)];simp
 rcases Nat.lt_or_ge j s.length with hlt|hge
 .have hs:(s++[(t.length:Int)])[j]'(by simp;omega)=s[j]:=List.getElem_append_left hlt
  have hkb:=bDa h hlt
  rw[bF5 h hlt (by simp;omega) hs ht hkb,bDg (t:=t) hlt (by simp;omega) hs,bGo ht (by omega)]
  exact hd j hlt
 .have:j=s.length:=by omega
  subst this
  rw[hlast,ht,List.take_length,bLv (by simp),hlast]
  simpa using hx
theorem DecQ.back(h:okA v t s)(hd:DecQ Q t s){T:Nat}(hT:T<s.length)(g:Int):DecQ Q (t.take (keep t s T)++[g]) (s.take T):=by
 intro j hj
 have hkb:=bDa h hT
 have ht:(t.take (keep t s T)++[g]).take (keep t s T)=t.take (keep t s T):=by
  rw[List.take_append_of_le_length (by rw[List.length_take];omega),List.take_take,Nat.min_self]
 have hsl:(s.take T).length=T:=by rw[List.length_take];omega
 rw[hsl]at hj
 have hs:(s.take T)[j]'(by omega)=s[j]'(by omega):=by rw[List.getElem_take]
 rw[bF5 h (by omega) (by omega) hs ht (bFy h hj hT),bDg (t:=t) (show j<s.length by omega) (by omega) hs,bGo ht (by have:=bFy h hj hT;omega)]
 exact hd j (by omega)
end
def QA(v:Int)(A:List Int)(p:List Int)(d:Int):Prop:=
 d∈A\/∃x,d=2*x+1/\1<=x/\x<=v/\(∀y,1<=y->y<x->isS p (2*y)≠2)/\∀a∈A,a∈p
def bD5(A:List Int):List (List Int):=A.map fun x=>[x]
theorem bGw{A:List Int}{W:List Bool}:bFq (bD5 A) W↔∀a∈A,bDf W a=true:=by
 constructor
 .intro h a ha
  have:=h [a] (List.mem_map_of_mem ha)
  simpa using this
 .intro h c hc
  obtain⟨a,ha,rfl⟩:=List.mem_map.1 hc
  simpa using h a ha
theorem bJy{A B:List (List Int)}{W:List Bool}:bFq (A++B) W↔bFq A W/\bFq B W:=by
 constructor
 .exact fun h=>⟨fun c hc=>h c (List.mem_append_left _ hc),fun c hc=>h c (List.mem_append_right _ hc)⟩
 .rintro⟨h1,h2⟩ c hc
  rcases List.mem_append.1 hc with h|h
  .exact h1 c h
  .exact h2 c h
theorem lrn_ok{v:Int}{L:List (List Int)}{D:List Int}(hD:okA v D []):okC v (lrnC v L D)/\∀y∈lrnC v L D,neg y∈D:=by
 have hs:=bJ3 (v:=v) (L:=L) D D
 have hS:=bRd hD hs
 obtain⟨p1,p2⟩:=bDv ((shr v L D D).map neg)
 have hmem:∀y∈lrnC v L D,∃z∈shr v L D D,y=neg z:=fun y hy=>by
  unfold lrnC at hy
  rw[p1.mem_iff,List.mem_map]at hy
  obtain⟨z,hz,rfl⟩:=hy
  exact⟨z,hz,rfl⟩
 refine⟨⟨fun l hl=>?_,?_⟩,fun y hy=>?_⟩
 .obtain⟨z,hz,rfl⟩:=hmem l hl
  exact bLj (hS.lits z hz)
 .have hd:((shr v L D D).map neg).Pairwise fun a b=>a/2≠b/2:=by
   rw[List.pairwise_map]
   exact hS.dis.imp fun h=>by rw[bCh,bCh];exact h
  have hd2:(lrnC v L D).Pairwise fun a b=>a/2≠b/2:=by
   unfold lrnC
   exact(p1.pairwise_iff (fun h e=>h e.symm)).2 hd
  unfold lrnC at hd2 ⊢
  exact(p2.and hd2).imp fun h=>by have:=h.1;have:=h.2;omega
 .obtain⟨z,hz,rfl⟩:=hmem y hy
  rw[neg_neg];exact hs.subset hz
def bGx(A t:List Int):Option Int:=A.find? fun l=>decide (isS t l≠1)
def solA(v:Int)(A:List Int):Nat->List (List Int)->List Int->List Int->List (List Int)->Bool×List Int×List (List Int)×Nat
 |0,_,_,_,log=>(false,[],log,log.length)
 |n+1,L,t,s,log=>
  if 0<=(bAf L (v+1).toNat t).2 then
   if lrnC v L (decs (bAf L (v+1).toNat t).1 s)=[] then(false,[],log++[[]],log.length)
   else solA v A n (L++[lrnC v L (decs (bAf L (v+1).toNat t).1 s)]) (bFn v (bAf L (v+1).toNat t).1 s (lrnC v L (decs (bAf L (v+1).toNat t).1 s))).1.2.1
    (bFn v (bAf L (v+1).toNat t).1 s (lrnC v L (decs (bAf L (v+1).toNat t).1 s))).1.2.2 (log++[lrnC v L (decs (bAf L (v+1).toNat t).1 s)])
  else match bGx A (bAf L (v+1).toNat t).1 with
   |some l=>if isS (bAf L (v+1).toNat t).1 l=0 then(false,[],log++[lrnC v L A],log.length)
    else solA v A n L ((bAf L (v+1).toNat t).1++[l]) (s++[((bAf L (v+1).toNat t).1.length:Int)]) log
   |none=>if lf v (bAf L (v+1).toNat t).1=0 then(true,(bAf L (v+1).toNat t).1,log,log.length)
    else solA v A n L ((bAf L (v+1).toNat t).1++[2*lf v (bAf L (v+1).toNat t).1+1]) (s++[((bAf L (v+1).toNat t).1.length:Int)]) log
theorem bHs{v:Int}{A:List Int}:∀(n:Nat) (L:List (List Int)) (t s:List Int) (log:List (List Int)),log.length<=(solA v A n L t s log).2.2.2
 |0,L,t,s,log=>Nat.le_refl _
 |n+1,L,t,s,log=>by
  unfold solA
  split
  .split
   .exact Nat.le_refl _
   .refine Nat.le_trans ?_ (bHs n _ _ _ _)
    simp
  .split
   .split
    .exact Nat.le_refl _
    .exact bHs n _ _ _ _
   .split
    .exact Nat.le_refl _
    .exact bHs n _ _ _ _
structure InvA(v:Int)(A:List Int)(L0:List (List Int))(t s:List Int)(log:List (List Int)):Prop where
 ok:okL v (L0++log)
 a:okA v t s
 led:LedK v (L0++log) t s
 dec:DecQ (QA v A) t s
 chain:bL5 v L0 log
 mes:log.length<=mes v.toNat s t.length
section
variable {v:Int} {A:List Int} {L0:List (List Int)} {t s:List Int} {log:List (List Int)}
theorem InvA.prop(h:InvA v A L0 t s log):InvA v A L0 (bAf (L0++log) (v+1).toNat t).1 s log/\meas v (bAf (L0++log) (v+1).toNat t).1 s<=meas v t s:=by
 obtain⟨hA,u,hu⟩:=bCu h.ok (v+1).toNat h.a
 have hle:YtfjpfjnepdhnaaaGreat.mes v.toNat s t.length<=YtfjpfjnepdhnaaaGreat.mes v.toNat s (bAf (L0++log) (v+1).toNat t).1.length:=bN7 (by rw[hu];simp)
 refine⟨⟨h.ok,hA,h.led.prop h.ok h.a,h.dec.prop h.ok h.a,h.chain,Nat.le_trans h.mes hle⟩,?_⟩
 unfold meas
 refine Nat.add_le_add_right (Nat.mul_le_mul_right _ ?_) _
 omega
theorem InvA.led_all(h:InvA v A L0 t s log){Y:List Int}(hY:okA v Y [])(hc:Clo (L0++log) Y)(hd:∀d∈decs t s,d∈Y):∀l∈t,l∈Y:=fun l hl=>
 h.led s.length (Nat.le_refl _) Y hY hc (fun j hj=>hd _ (List.mem_map.2 ⟨j,List.mem_range.2 hj,rfl⟩)) l (by rw[bFg,List.take_length];exact hl)
theorem InvA.conf(h:InvA v A L0 t s log)(hat:0<=(bAf (L0++log) (v+1).toNat t).2):bDq v (L0++log) (decs (bAf (L0++log) (v+1).toNat t).1 s)=true:=by
 obtain⟨hP,_⟩:=h.prop
 have hD:=bGj hP.a
 cases hcf:bDq v (L0++log) (decs (bAf (L0++log) (v+1).toNat t).1 s) with
 |true=>rfl
 |false=>
  exfalso
  unfold bDq at hcf
  rw[decide_eq_false_iff_not]at hcf
  obtain⟨hY,u,hu⟩:=bCu h.ok (v+1).toNat hD
  have hcl:=bDx h.ok hD (by omega)
  have hall:=hP.led_all hY hcl fun d hd=>by rw[hu];exact List.mem_append_left _ hd
  obtain⟨_,u2,hu2⟩:=bCu h.ok (v+1).toNat h.a
  have:=(bJo h.ok hY hcl (v+1).toNat h.a fun l hl=>hall l (by rw[hu2];exact List.mem_append_left _ hl)).1
  omega
theorem InvA.fail(h:InvA v A L0 t s log)(hat:0<=(bAf (L0++log) (v+1).toNat t).2){c:List Int}(hc:c=lrnC v (L0++log) (decs (bAf (L0++log) (v+1).toNat t).1 s)):
  okC v c/\bMy v (L0++log) c=true/\(c≠[]->∃t' s',bFn v (bAf (L0++log) (v+1).toNat t).1 s c=((v,(t',s')),0)/\InvA v A L0 t' s' (log++[c])/\meas v t' s'<meas v t s):=by
 obtain⟨hP,hmp⟩:=h.prop
 have hcf:=h.conf hat
 generalize (bAf (L0++log) (v+1).toNat t).1=p at *
 have hD:=bGj hP.a
 obtain⟨J,j1,j2,hS,hlen,hm⟩:=bSk (L:=L0++log) hP.a
 obtain⟨F,d1,d2⟩:=bSt hP.a j1 j2 hS hm
 rw[<-hc]at F d1 d2
 have hfrom:bMy v (L0++log) c=true:=by rw[hc];exact bN8 h.ok hD hcf (hc▸F.c)
 refine⟨F.c,hfrom,fun hne=>?_⟩
 have hJ:J≠[]:=fun e=>hne (d1 e)
 obtain⟨q1,q2,q3⟩:=d2 hJ
 have h0:givC p s c≠0:=fun e=>by
  obtain⟨J',j,rfl⟩:∃J' j,J=J'++[j]:=by
   rcases List.eq_nil_or_concat J with h'|⟨J',j,h'⟩
   .exact absurd h' hJ
   .exact⟨J',j,by rw[h',List.concat_eq_append]⟩
  rw[bLo,e]at q3
  have:=(bSr hP.a (j2 j (by simp))).1
  omega
 have hB:=F.back h0
 have hlt:(toC p s c:Int)<lvl p s (givC p s c):=by
  rcases F.spec with⟨q,_⟩|⟨_,q,_⟩
  .exact absurd q h0
  .exact q
 have hT:toC p s c<s.length:=by have:=(bLn (t:=p) (s:=s) (l:=givC p s c)).2;omega
 have hu:=F.unit h0 F.to (Nat.le_refl _) hlt
 refine⟨_,_,F.jb h0,⟨?_,hB,?_,hP.dec.back hP.a hT _,h.chain.snoc hfrom,?_⟩,?_⟩
 .rw[<-List.append_assoc,bFm]
  exact⟨h.ok,fun d hd=>by rw[List.mem_singleton]at hd;subst hd;exact F.c⟩
 .rw[<-List.append_assoc]
  exact hP.led.back hP.a hT F.c hu
 .have:=bK4 hP.a hT (givC p s c)
  have:=hP.mes
  rw[List.length_append,List.length_singleton]
  omega
 .refine Nat.lt_of_lt_of_le ?_ hmp
  have e1:=bK4 hP.a hT (givC p s c)
  have e2:=bHa hP.a
  have e3:=bHa hB
  have e4:=hP.a.short
  have hv:=hP.a.vars
  unfold meas
  have e5:(s.take (toC p s c)).length=toC p s c:=by rw[List.length_take];omega
  rw[e5]
  generalize YtfjpfjnepdhnaaaGreat.mes v.toNat s p.length=m0 at *
  generalize YtfjpfjnepdhnaaaGreat.mes v.toNat (s.take (toC p s c)) (p.take (keep p s (toC p s c))++[givC p s c]).length=m1 at *
  generalize 2^v.toNat=P at *
  have:(P-m0)*(v.toNat+1)>=(P-m1+1)*(v.toNat+1):=Nat.mul_le_mul_right _ (by omega)
  rw[Nat.add_mul]at this
  omega
theorem InvA.choose(h:InvA v A L0 t s log){p:List Int}(hp:p=(bAf (L0++log) (v+1).toNat t).1){x:Int}(hx:isLit v x)(hf:isS p x=2)(hq:QA v A p x):
  InvA v A L0 (p++[x]) (s++[(p.length:Int)]) log/\meas v (p++[x]) (s++[(p.length:Int)])<meas v t s:=by
 obtain⟨hP,hmp⟩:=h.prop
 rw[<-hp]at hP hmp
 have hv:=hP.a.vars
 have hA:=hP.a.dec hx hf
 have e1:=bW3 hP.a x
 refine⟨⟨h.ok,hA,hP.led.dec hP.a _,hP.dec.dec hP.a hq,h.chain,Nat.le_trans hP.mes e1⟩,Nat.lt_of_lt_of_le ?_ hmp⟩
 have e2:=hA.short
 have hl2:(s++[(p.length:Int)]).length=s.length+1:=by simp
 have hl3:(p++[x]).length=p.length+1:=by simp
 have hle:(2^v.toNat-YtfjpfjnepdhnaaaGreat.mes v.toNat (s++[(p.length:Int)]) (p++[x]).length)*(v.toNat+1)<=(2^v.toNat-YtfjpfjnepdhnaaaGreat.mes v.toNat s p.length)*(v.toNat+1):=Nat.mul_le_mul_right _ (by omega)
 unfold meas
 rw[hl2]at e2 ⊢
 rw[hl3]at e2
 generalize (2^v.toNat-YtfjpfjnepdhnaaaGreat.mes v.toNat (s++[(p.length:Int)]) (p++[x]).length)*(v.toNat+1)=B1 at *
 generalize (2^v.toNat-YtfjpfjnepdhnaaaGreat.mes v.toNat s p.length)*(v.toNat+1)=B2 at *
 omega
theorem bQi(P:Nat->Prop):∀n,(∃k,k<n/\(∀j,j<k->P j)/\¬P k)\/∀j,j<n->P j
 |0=>.inr fun j hj=>by omega
 |n+1=>by
  rcases bQi P n with⟨k,h1,h2,h3⟩|h
  .exact .inl ⟨k,by omega,h2,h3⟩
  .by_cases hd:P n
   .refine .inr fun j hj=>?_
    rcases Nat.lt_or_ge j n with h'|h'
    .exact h j h'
    .rw[show j=n from by omega];exact hd
   .exact .inl ⟨n,by omega,h,hd⟩
theorem bSx{v:Int}{t s:List Int}(h:okA v t s){x:Int}(h1:2*x∈t)(h2:2*x+1∈t):False:=by
 have ht:=(bB6 h.dis).2 h1
 have hf:=(bBz h.dis (l:=2*x)).2 (by unfold neg;rw[if_pos (by omega)];exact h2)
 omega
theorem InvA.least(h:InvA v A L0 t s log){W:List Bool}(hm:bFq (bD5 A++L0) W)(hA:∀a∈A,isLit v a){x:Int}(h1:1<=x)(h2:x<=v)(hx:2*x∈t)(hb:∀y,1<=y->y<x->2*y∉t->bDf W (2*y)=false):bDf W (2*x)=true:=by
 have hv:=h.a.vars
 obtain⟨hmA,hm0⟩:=bJy.1 hm
 rw[bGw]at hmA
 have hM:=bH1 hv hm0 h.ok h.chain
 have hY:=bN5 (W:=W) hv
 have hcl:=bSv hv h.ok hM
 rw[<-bHi (v:=v) (by omega)]
 rcases bQi (fun j=>dc t s j∈bPa v W) s.length with⟨k,k1,k2,k3⟩|hall
 .have hmem:=bXs h.a k1
  rcases h.dec k k1 with hq|⟨y,e1,e2,e3,e4,e5⟩
  .exact absurd ((bHi (hA _ hq)).2 (hmA _ hq)) k3
  .rw[e1]at k3 hmem
   have hty:bDf W (2*y)=true:=by
    rw[bHi (by omega),bG8]at k3
    simpa using k3
   have hny:2*y∉t:=fun h'=>bSx h.a h' hmem
   have hxy:x<y:=by
    apply Classical.byContradiction
    intro hn
    by_cases hxe:x=y
    .exact hny (hxe▸hx)
    .rw[hb y e2 (by omega) hny]at hty;cases hty
   have hS:=e4 x h1 hxy
   have hd2:(t.take (keep t s k)).Pairwise fun a b=>a/2≠b/2:=h.a.dis.sublist (List.take_sublist ..)
   refine h.led k (by omega) _ hY hcl k2 _ ?_
   rcases bCk (t.take (keep t s k)) (2*x) with h0|h0|h0
   .exfalso
    have:=List.mem_of_mem_take ((bBz hd2).1 h0)
    unfold neg at this
    rw[if_pos (by omega)]at this
    exact bSx h.a hx this
   .exact(bB6 hd2).1 h0
   .exact absurd h0 hS
 .exact h.led s.length (Nat.le_refl _) _ hY hcl hall _ (by rw[bFg,List.take_length];exact hx)
theorem InvA.under(h:InvA v A L0 t s log)(hA:okA v A []){p:List Int}(hp:p=(bAf (L0++log) (v+1).toNat t).1){l:Int}(hl:l∈A)(h0:isS p l=0):bDq v (L0++log) A=true:=by
 obtain⟨hP,_⟩:=h.prop
 rw[<-hp]at hP
 cases hcf:bDq v (L0++log) A with
 |true=>rfl
 |false=>
  exfalso
  unfold bDq at hcf
  rw[decide_eq_false_iff_not]at hcf
  obtain⟨hY,u,hu⟩:=bCu h.ok (v+1).toNat hA
  have hcl:=bDx h.ok hA (by omega)
  have hsub:∀a∈A,a∈(bAf (L0++log) (v+1).toNat A).1:=fun a ha=>by rw[hu];exact List.mem_append_left _ ha
  have hn:=(bBz hP.a.dis).1 h0
  have hall:=hP.led_all hY hcl fun d hd=>by
   obtain⟨j,hj,rfl⟩:=List.mem_map.1 hd
   have hj:=List.mem_range.1 hj
   rcases hP.dec j hj with hq|⟨y,_,_,_,_,e5⟩
   .exact hsub _ hq
   .exfalso
    have ht:=(bB6 hP.a.dis).2 (List.mem_of_mem_take (e5 l hl))
    omega
  have h1:=(bB6 hY.dis).2 (hsub l hl)
  have h2:=(bBz hY.dis).2 (hall _ hn)
  omega
end
structure AnsA(v:Int)(A:List Int)(L0:List (List Int))(r:Bool×List Int×List (List Int)×Nat):Prop where
 ok:okL v (L0++r.2.2.1)
 chain:bL5 v L0 r.2.2.1
 bnd:r.2.2.2+1<=2^v.toNat
 sat:r.1=true->cBr v (bD5 A++L0) (mdl v r.2.1)/\r.2.2.2=r.2.2.1.length
 unsat:r.1=false->∃lg c,r.2.2.1=lg++[c]/\r.2.2.2=lg.length/\r.2.1=[]/\∀x∈c,neg x∈A
theorem bKq{A t:List Int}{l:Int}(h:bGx A t=some l):l∈A/\isS t l≠1:=by
 refine⟨List.mem_of_find?_eq_some h,?_⟩
 have:=List.find?_some h
 simpa using this
theorem bKr{v:Int}{A t s:List Int}(ht:okA v t s)(h:bGx A t=none):∀a∈A,a∈t:=fun a ha=>by
 have:=List.find?_eq_none.1 h a ha
 simp only[decide_eq_true_eq,Decidable.not_not]at this
 exact(bB6 ht.dis).1 this
theorem bN0{v:Int}{A:List Int}(hA:okA v A []){L0:List (List Int)}:∀(n:Nat) {t s:List Int} {log:List (List Int)},InvA v A L0 t s log->meas v t s<n->AnsA v A L0 (solA v A n (L0++log) t s log)
 |0,t,s,log,h,hn=>by omega
 |n+1,t,s,log,h,hn=>by
  have hP:=h.prop.1
  have hbnd:log.length+1<=2^v.toNat:=by have:=h.mes;have:=bHa h.a;omega
  have hv:=h.a.vars
  unfold solA
  by_cases hat:0<=(bAf (L0++log) (v+1).toNat t).2
  .rw[if_pos hat]
   obtain⟨f1,f2,f3⟩:=h.fail hat rfl
   by_cases hc:lrnC v (L0++log) (decs (bAf (L0++log) (v+1).toNat t).1 s)=[]
   .rw[if_pos hc]
    rw[hc]at f1 f2
    refine⟨?_,h.chain.snoc f2,hbnd,(by simp),fun _=>⟨log,[],rfl,rfl,rfl,by simp⟩⟩
    show okL v (L0++(log++[[]]))
    rw[<-List.append_assoc,bFm]
    exact⟨h.ok,fun d hd=>by rw[List.mem_singleton]at hd;subst hd;exact f1⟩
   .rw[if_neg hc]
    obtain⟨t',s',e1,e2,e3⟩:=f3 hc
    rw[e1]
    have:=bN0 hA n e2 (by omega)
    rw[<-List.append_assoc]at this
    exact this
  .rw[if_neg hat]
   cases hw:bGx A (bAf (L0++log) (v+1).toNat t).1 with
   |some l=>
    obtain⟨w1,w2⟩:=bKq hw
    dsimp only
    by_cases h0:isS (bAf (L0++log) (v+1).toNat t).1 l=0
    .rw[if_pos h0]
     have hcf:=h.under hA rfl w1 h0
     obtain⟨c1,c2⟩:=lrn_ok (L:=L0++log) hA
     have hfr:=bN8 h.ok hA hcf c1
     refine⟨?_,h.chain.snoc hfr,hbnd,(by simp),fun _=>⟨log,_,rfl,rfl,rfl,c2⟩⟩
     show okL v (L0++(log++[lrnC v (L0++log) A]))
     rw[<-List.append_assoc,bFm]
     exact⟨h.ok,fun d hd=>by rw[List.mem_singleton]at hd;subst hd;exact c1⟩
    .rw[if_neg h0]
     have h2:isS (bAf (L0++log) (v+1).toNat t).1 l=2:=by rcases bCk (bAf (L0++log) (v+1).toNat t).1 l with h|h|h<;>omega
     obtain⟨e1,e2⟩:=h.choose rfl (hA.lits l w1) h2 (.inl w1)
     exact bN0 hA n e1 (by omega)
   |none=>
    have hall:=bKr hP.a hw
    dsimp only
    by_cases hl:lf v (bAf (L0++log) (v+1).toNat t).1=0
    .rw[if_pos hl]
     have htot:∀x,1<=x->x<=v->isS (bAf (L0++log) (v+1).toNat t).1 (2*x)≠2:=by
      rcases bGy (v:=v) (by omega) (bAf (L0++log) (v+1).toNat t).1 with⟨_,h2⟩|⟨h1,_⟩
      .exact h2
      .omega
     have hcl:=bDx h.ok h.a (by omega)
     have hmod:=bNi hP.a htot h.ok hcl
     refine⟨h.ok,h.chain,hbnd,fun _=>⟨⟨bHb,?_,fun W hW hm i hi hpre hMi=>?_⟩,rfl⟩,by simp⟩
     .rw[bJy,bGw]
      exact⟨fun a ha=>by rw[bP1 hP.a htot (hA.lits a ha)];exact decide_eq_true (hall a ha),fun c hc=>hmod c (List.mem_append_left _ hc)⟩
     .rw[bLm hi]at hMi
      have hx:=of_decide_eq_true hMi
      have:=hP.least hm hA.lits (x:=(i:Int)+1) (by omega) (by omega) hx (fun y y1 y2 hy=>?_)
      .rw[bFk,show((i:Int)+1-1).toNat=i from by omega]at this;exact this
      .have:=hpre (y-1).toNat (by omega)
       rw[bLm (by omega),show 2*(((y-1).toNat:Int)+1)=2*y from by omega]at this
       rw[bFk,this];exact decide_eq_false hy
    .rw[if_neg hl]
     obtain⟨x1,x2,x3,x4⟩:=(bGy (v:=v) (by omega) (bAf (L0++log) (v+1).toNat t).1).resolve_left fun h=>hl h.1
     have hnone:isS (bAf (L0++log) (v+1).toNat t).1 (2*lf v (bAf (L0++log) (v+1).toNat t).1+1)=2:=by
      rw[bDm]at x3 ⊢
      intro a ha he
      exact x3 a ha (by omega)
     obtain⟨e1,e2⟩:=h.choose rfl (x:=2*lf v (bAf (L0++log) (v+1).toNat t).1+1) (by omega) hnone (.inr ⟨_,rfl,x1,x2,x4,hall⟩)
     exact bN0 hA n e1 (by omega)
end
section
def cC2(v:Int)(L:List (List Int))(A:List Int):Bool:=!(solR v (bD5 A++L)).1
section
variable {v:Int} {L L':List (List Int)} {A B:List Int}
theorem bWt(h:∀a∈A,isLit v a):okL v (bD5 A):=fun c hc=>by
 obtain⟨a,ha,rfl⟩:=List.mem_map.1 hc
 exact⟨fun l hl=>by rw[List.mem_singleton]at hl;subst hl;exact h _ ha,List.pairwise_singleton ..⟩
theorem bY1(hL:okL v L)(h:∀a∈A,isLit v a):okL v (bD5 A++L):=bFm.2 ⟨bWt h,hL⟩
def coreC(v:Int)(L:List (List Int)):List Int->List Int->List Int
 |[],o=>o
 |d::r,o=>coreC v L r (if cC2 v L (rm d o) then rm d o else o)
end
def bHg(v:Int)(A:List Int)(L:List (List Int)):Bool×List Int×List (List Int)×Nat:=solA v A (meas v [] []+1) L [] [] []
theorem cD7{v:Int}(hv:okV v){A:List Int}{L:List (List Int)}(hL:okL v L):InvA v A L [] [] [] where
 ok:=by rw[List.append_nil];exact hL
 a:=⟨hv,by simp,List.Pairwise.nil,List.Pairwise.nil,by simp⟩
 led:=LedK.empty hv
 dec:=DecQ.empty
 chain:=fun i hi=>by simp at hi
 mes:=Nat.zero_le _
theorem bT3{v:Int}{A:List Int}(hA:okA v A []){L:List (List Int)}(hL:okL v L):AnsA v A L (bHg v A L):=by
 have:=bN0 hA (meas v [] []+1) (cD7 hA.vars hL) (Nat.lt_succ_self _)
 rwa [List.append_nil]at this
def ansA(v:Int)(A:List Int)(L:List (List Int)):Ansr:=
 ((bHg v A L).1,if(bHg v A L).1 then mdl v (bHg v A L).2.1 else[],if(bHg v A L).1 then[] else coreC v L A A,(bHg v A L).2.2.1,((bHg v A L).2.2.2:Int))
def runA(v b:Int)(A:List Int)(L:List (List Int)):Ans:=if((bHg v A L).2.2.2:Int)<=b then(ansA v A L,0) else(ans0,55)
end
end Go.Proofs.YtfjpfjnepdhnaaaGreat

