/- Where paths come together behind a choice, some of them having returned before. -/
import Derived.Test.YtjfnmlheehbojaaCLib
namespace Go.Proofs.Ytjfnmlheehbojaa.VA
theorem ex_cut {α : Type} {C : Cfg} {Q : AEx → ASt → Prop} {k : List Todo} {t : Todo} {σ : ASt} (st : α → ASt) (p : α → Prop) (h2 : ∀ a, p a → exec C Q k .normal (st a))
    (h1 : ∀ κ : List Todo, (∀ a, p a → exec C Q κ .normal (st a)) → exec C Q (t :: κ) .normal σ) : exec C Q (t :: k) .normal σ := h1 k h2
theorem ex_cut2 {α : Type} {C : Cfg} {Q : AEx → ASt → Prop} {k : List Todo} {t u : Todo} {σ : ASt} (st : α → ASt) (p : α → Prop) (h2 : ∀ a, p a → exec C Q k .normal (st a))
    (h1 : ∀ κ : List Todo, (∀ a, p a → exec C Q κ .normal (st a)) → exec C Q (t :: u :: κ) .normal σ) : exec C Q (t :: u :: k) .normal σ := h1 k h2
end Go.Proofs.Ytjfnmlheehbojaa.VA
